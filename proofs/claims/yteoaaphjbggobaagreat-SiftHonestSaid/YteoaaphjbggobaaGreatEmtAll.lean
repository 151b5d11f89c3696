/- The iterator of the pulses: it hands each pulse to yield. For a valid arrangement. The program's Emit. For a valid arrangement and a number from 0 to 4096. -/
import Derived.Test.YteoaaphjbggobaaGreatOpsAll
import Derived.Test.YteoaaphjbggobaaGreatGfjAll
import Derived.RangeFuncBox
import Derived.RangeFuncCalls
import Derived.RangeFuncLeaves
import Derived.Shelf.Abstract
import Derived.OwnWalkIn
import Derived.TacticsInMore
import Derived.LoopNIn
import Derived.LoopIn
namespace Go.Proofs.YteoaaphjbggobaaGreat
open Go.RowKit Go.Shelf
set_option linter.unusedVariables false
set_option linter.unusedSimpArgs false
attribute [local go_sem] Oper.semAt_some

/-- Whatever was draws is draws of the same state; a step that turns draws alone. -/
def DrwK (X Y : World) : Prop := ∀ k s, DrwAt X k s → DrwAt Y k s
def DrwSt (B : Nat) (X Y : World) : Prop := ∃ row, X.grownBy Y row ∧ ∀ k, row = some k → B ≤ k ∧ ∃ s, DrwAt X k s
theorem drwSt_alloc (B : Nat) (W : World) (o : Obj) : DrwSt B W (W.alloc o) := ⟨none, World.grownBy_alloc W o none, by simp⟩
theorem drwSt_grown {B : Nat} {X Y : World} {b s : Nat} (hB : B ≤ b) (hD : DrwAt X b s) (hg : X.grownBy Y (some b)) : DrwSt B X Y := ⟨some b, hg, fun k h => by cases h; exact ⟨hB, s, hD⟩⟩
theorem DrwSt.below {B B' : Nat} {x X Y : World} (h : DrwSt B X Y) (hx : Below B' x X) (hs : x.heap.size ≤ X.heap.size) (hB : B' ≤ B) (hx2 : B' ≤ x.heap.size) : Below B' x Y := by
  obtain ⟨row, hg, hr⟩ := h
  exact hx.grown hg (by omega) (fun k hk => by have := (hr k hk).1; omega)
theorem DrwSt.row {B0 : Nat} {X Y : World} (h : DrwSt B0 X Y) {k : Nat} {cs : Array Value} {T : TypeId} {fr : Nat × Nat} (hk : X.heap[k]? = some (.cells cs T fr)) (hT : T ≠ 210) : Y.heap[k]? = some (.cells cs T fr) := by
  obtain ⟨row, hg, hr⟩ := h
  refine (hg.block k (Array.getElem?_eq_some_iff.1 hk).1 (fun e => ?_)).trans hk
  obtain ⟨_, s, hs⟩ := hr k e.symm
  unfold DrwAt at hs
  rw [hk] at hs
  simp at hs
  exact hT hs.2.1
theorem DrwSt.others {B0 : Nat} {X Y : World} (h : DrwSt B0 X Y) : KeepsOthers X Y := by
  obtain ⟨row, hg, hr⟩ := h
  refine KeepsOthers.of_grownBy hg (fun j o hj ho => ?_)
  obtain ⟨_, s, hs⟩ := hr j hj
  unfold DrwAt at hs
  rw [ho] at hs
  cases hs
  rfl
theorem DrwSt.boxed {B0 : Nat} {X Y : World} (h : DrwSt B0 X Y) {B : Nat} {t : TypeId} {v : Value} (hv : Boxed X B t v) (ht : t ≠ 210) : Boxed Y B t v := h.row hv ht
theorem DrwSt.own {B0 : Nat} {X Y : World} (h : DrwSt B0 X Y) {α : Type} {base e sz : Nat} {enc : α → List Value} {v : Value} {l : List α} (hv : Go.Proofs.YteoaaphjbggobaaGreat.Own X base e sz enc v l) (he : e ≠ 210) : Go.Proofs.YteoaaphjbggobaaGreat.Own Y base e sz enc v l := by
  obtain ⟨row, hg, hr⟩ := h
  refine hv.keep hg ?_
  rcases hv.2 with ⟨rfl, _⟩ | ⟨g, cap, cur, rfl, _, hgb, _⟩
  · exact .inl rfl
  · refine .inr fun e' => ?_
    obtain ⟨_, s, hs⟩ := hr g (by simpa [Value.ownBlock] using e'.symm)
    unfold DrwAt at hs
    rw [hgb] at hs
    simp at hs
    exact he hs.2

/-- A struct that is loaded whole out of its box, inside a fence. -/
theorem wpListIn_load_row {F : Fence} {n : Nat} {P : Program} {ops : Array Oper} {rest : List Oper} {o : Oper} {a : Act} {w : World} {Q : Exit → Act → World → Prop} (hgd : o.guard = none) (ty : TypeId) (x : Operand) (ho : o.op = .load ty x)
    (g : Nat) (hx : a.eval x = .pointer (some ⟨g, 0, none⟩)) (t : TypeId) (cs : Array Value) (fr : Nat × Nat) (d : TypeDesc) (hg : w.heap[g]? = some (.cells cs t fr))
    (hu : P.underlying ty = some d) (hd : (match d with | .struct _ | .array _ _ => true | _ => false) = true) (hi : (P.info? ty).map (·.size) = some cs.size)
    (h : wpListIn F n P ops Q rest (a.put o.dst (.agg cs)) w) : wpListIn F n P ops Q (o :: rest) a w := by
  refine wpListIn_plain hgd fun K hK => ?_
  unfold Oper.wpIn
  refine ⟨by simp [Oper.about, ho], ?_⟩
  rw [Oper.semAt_plain F _ _ (by rw [ho]; intro c hc'; cases hc')]
  unfold execOp
  simp only [ho, hx, Instr.loadAt, Instr.sureAddr, Sem.run_bind, Sem.run_pure, Result.andThen_ok, run_loadVar_row w g t ty cs fr d hg hu hd hi]
  exact hK _ _ h

def Pls.val (x : Pls) : Value := .agg #[.int .i64 x.basis, .bool x.bit, .int .i64 x.cls, .int .i64 x.ph, .bool x.seen]

set_option maxHeartbeats 1000000 in
theorem slots_any (o : Opt) (n : Int) (s : Nat) (w : World) : Calls Tryz.prog 98 #[o.val, .int .i64 n, .int .u64 s] w fun e w' =>
    e = .returned (.func (.func 137) #[] #[.pointer (some ⟨w.heap.size + 2, 0, none⟩), .pointer (some ⟨w.heap.size + 1, 0, none⟩), .pointer (some ⟨w.heap.size, 0, none⟩)]) ∧
      w' = ((w.alloc (.cells o.cs 68)).alloc (.cells #[.int .i64 n] 3)).alloc (.cells #[.int .u64 s] 24) := by
  unfold Opt.val Opt.cs
  go_enter Tryz.func98, Tryz.ntmps98
  go_wp2
  go_ret
  simp

set_option maxRecDepth 100000 in
set_option maxHeartbeats 4000000 in
theorem slots1_in (l sb nb ob n s : Nat) (o : Opt) (W : World) (J : List Pls → World → Prop) (ho : optB o = true) (hn : n ≤ 4096)
    (hY : ∀ (pre : List Pls) (x : Pls) (W : World), J pre W → pre.length < 4096 → YieldAt Fence.wide 8 Tryz.prog l #[x.val] W fun e W' => e = .returned (.bool true) ∧ J (pre ++ [x]) W' ∧ DrwK W W')
    (B : Nat) (hB : B ≤ W.heap.size) (hS : ∀ pre X Y, J pre X → DrwSt B X Y → J pre Y)
    (hI : ∀ pre W, J pre W → W.cell? ⟨sb, 0, none⟩ = some (.int .u64 s) ∧ W.cell? ⟨nb, 0, none⟩ = some (.int .i64 n) ∧ OptAt W ob o)
    (h0 : J [] W) :
    CallsIn Fence.wide 9 Tryz.prog 137 #[.func (.yield l) #[] #[], .pointer (some ⟨sb, 0, none⟩), .pointer (some ⟨nb, 0, none⟩), .pointer (some ⟨ob, 0, none⟩)] W fun e W' => (∃ v, e = .returned v) ∧ J (emX o s n).1 W' := by
  have hF : ∀ f, Fence.wide.fn f := fun _ => trivial
  obtain ⟨c1, c2, c3⟩ := hI _ _ h0
  refine callsIn_of_wp Tryz.func137 rfl trivial ?_ rfl
  simp only [Tryz.ntmps137, List.size_toArray, List.length_cons, List.length_nil, Nat.reduceAdd, Nat.reduceSub, Array.replicate_succ, Array.replicate_zero, List.push_toArray, List.append_toArray, List.nil_append, List.cons_append]
  have HY := Lib.hid hY; have HS := Lib.hid hS; have HI := Lib.hid hI
  clear hY hS hI
  gi_wp2_with fail
  refine (callsIn_wide.2 (New_any s W)).mono ?_
  rintro e w1 ⟨rfl, hw1⟩
  have hJ1 : J [] w1 := by rw [hw1]; exact HS.out _ _ _ h0 (drwSt_alloc _ _ _)
  have hD1 : DrwAt w1 W.heap.size s := by rw [hw1]; exact DrwAt.new W s
  obtain ⟨_, c2, _⟩ := HI.out _ _ hJ1
  clear hw1 h0 c1 c3
  gi_wp2_with fail
  gi_loopw [9] (fun i wr => ∃ k : Nat, k ≤ n ∧ i = .int .i64 k ∧ J (emX o s k).1 wr ∧ DrwAt wr W.heap.size (emX o s k).2) (fun i _ => n - (intOf i).toNat)
  case atStart => exact ⟨0, Nat.zero_le _, rfl, hJ1, hD1⟩
  case round =>
    clear hJ1 hD1 c2
    obtain ⟨k, hk, rfl, hJ, hD⟩ := hrel
    rcases Nat.lt_or_ge k n with hlt | hge
    · obtain ⟨c1, c2, c3⟩ := HI.out _ _ hJ
      have At := Lib.hid c3
      have cP := opulse_any W.heap.size (emX o s k).2 o wr hD ho
      unfold Opt.val Opt.cs at cP
      have st : Hid (emX o s (k + 1) = ((emX o s k).1 ++ [(plsF o (emX o s k).2).1], (plsF o (emX o s k).2).2)) := Lib.hid rfl
      have arm : Hid (∀ w2, wr.grownBy w2 (some W.heap.size) → J (emX o s k).1 w2) := Lib.hid (fun w2 hg => HS.out _ _ _ hJ (drwSt_grown hB hD hg))
      have hEl : (emX o s k).1.length < 4096 := by rw [emX_len]; omega
      clear hD hJ c1 c2 c3
      generalize emX o s k = E at *
      gi_wp2_with (refine wpListIn_load_row rfl 68 _ rfl ob rfl 68 _ (0, 0) _ At.out Tryz.underlying68 rfl (by kernel_rfl) ?_)
      refine (callsIn_wide.2 cP).mono ?_
      rintro e w2 ⟨rfl, D2, g2⟩
      have hJ2 := arm.out w2 g2
      obtain ⟨fn2, tmps2, assign2, body2, hy2, hR2⟩ := HY.out E.1 (plsF o E.2).1 w2 hJ2 hEl
      obtain ⟨_, c2, _⟩ := HI.out _ _ hJ2
      unfold Pls.val at hy2
      clear cP hJ2 g2
      gi_wp2_with fail
      refine hR2.mono ?_
      rintro e W3 ⟨rfl, hJ3, hk3⟩
      have D3 := hk3 _ _ D2
      obtain ⟨_, c2, _⟩ := HI.out _ _ hJ3
      clear hR2 hy2 D2 hk3
      gi_wp2_with fail
      exact ⟨⟨k + 1, by omega, by go_num, by rw [st.out]; exact hJ3, by rw [st.out]; exact D3⟩, by simp [intOf]; omega⟩
    · obtain rfl : k = n := by omega
      gi_wp2
      go_end0
      exact ⟨⟨_, rfl⟩, hJ⟩

end Go.Proofs.YteoaaphjbggobaaGreat

namespace Go.Proofs.YteoaaphjbggobaaGreat
open Go.RowKit Go.Shelf
set_option linter.unusedVariables false
set_option linter.unusedSimpArgs false
attribute [local go_sem] Oper.semAt_some

theorem row_nonc {X Y : World} {row : Option Nat} (hg : X.grownBy Y row) (hr : ∀ r, row = some r → ∃ o : Obj, X.heap[r]? = some o ∧ o.isCells = false) {k : Nat} {cs : Array Value} {T : TypeId} {fr : Nat × Nat} (hk : X.heap[k]? = some (.cells cs T fr)) : Y.heap[k]? = some (.cells cs T fr) := by
  refine (hg.block k (Array.getElem?_eq_some_iff.1 hk).1 (fun e => ?_)).trans hk
  obtain ⟨o, ho, hc⟩ := hr k e.symm
  rw [hk] at ho
  cases ho
  cases hc
theorem own_nonc {X Y : World} {row : Option Nat} (hg : X.grownBy Y row) (hr : ∀ r, row = some r → ∃ o : Obj, X.heap[r]? = some o ∧ o.isCells = false) {α : Type} {base e sz : Nat} {enc : α → List Value} {v : Value} {l : List α} (hv : Go.Proofs.YteoaaphjbggobaaGreat.Own X base e sz enc v l) : Go.Proofs.YteoaaphjbggobaaGreat.Own Y base e sz enc v l := by
  refine hv.keep hg ?_
  rcases hv.2 with ⟨rfl, _⟩ | ⟨g, cap, cur, rfl, _, hgb, _⟩
  · exact .inl rfl
  · refine .inr fun e' => ?_
    obtain ⟨o, ho, hc⟩ := hr g (by simpa [Value.ownBlock] using e'.symm)
    rw [hgb] at ho
    cases ho
    cases hc
/-- A row of another type lies as it lay behind 'out = append(out, ..)', where out stands in a box. -/
theorem app_row {W w1 : World} {n₀ B : Nat} {t e : TypeId} {size : Nat} {v : Value} {k : Nat} {xs : List Value} {tmp : Obj} (v' : Value) (hv : Boxed W B t v) (hrow : W.ownsRow n₀ e size v k xs) (hgrow : (W.alloc tmp).grownBy w1 v.ownBlock)
    {j : Nat} {cs : Array Value} {T : TypeId} {fr : Nat × Nat} (hk : W.heap[j]? = some (.cells cs T fr)) (h1 : T ≠ e) (h2 : T ≠ t) : (w1.setCell ⟨B, 0, none⟩ v').heap[j]? = some (.cells cs T fr) := by
  have hlt := (Array.getElem?_eq_some_iff.1 hk).1
  have a1 : (W.alloc tmp).heap[j]? = some (.cells cs T fr) := (Below.heap_alloc _ _ _ hlt).trans hk
  have a2 : w1.heap[j]? = some (.cells cs T fr) := by
    refine (hgrow.block j (by simp; omega) (fun e' => ?_)).trans a1
    rcases hrow.2 with ⟨rfl, _⟩ | ⟨g, cap, cur, rfl, _, hgb, _⟩
    · simp [Value.ownBlock] at e'
    · obtain rfl : j = g := by simpa [Value.ownBlock] using e'
      rw [hk] at hgb
      simp at hgb
      exact h1 hgb.2.1
  have hne : j ≠ B := fun e' => by
    subst e'
    have := (show W.heap[j]? = _ from hv)
    rw [hk] at this
    simp at this
    exact h2 this.2.1
  exact (Below.heap_setCell w1 ⟨B, 0, none⟩ v' j hne).trans a2
/-- What holds while pulses are collected. -/
structure EmI (w : World) (ob O : Nat) (o : Opt) (n s : Nat) (pre : List Pls) (W : World) : Prop where
  out : ∃ v, Boxed W O 71 v ∧ Go.Proofs.YteoaaphjbggobaaGreat.Own W w.heap.size 148 5 Pls.enc v pre
  op : OptAt W ob o
  nb : Boxed W (ob + 1) 3 (.int .i64 n)
  sb : Boxed W (ob + 2) 24 (.int .u64 s)
theorem EmI.nonc {w : World} {ob O : Nat} {o : Opt} {n s : Nat} {pre : List Pls} {X Y : World} {row : Option Nat} (h : EmI w ob O o n s pre X) (hg : X.grownBy Y row) (hr : ∀ r, row = some r → ∃ o : Obj, X.heap[r]? = some o ∧ o.isCells = false) : EmI w ob O o n s pre Y := by
  obtain ⟨⟨v, h1, h2⟩, h3, h4, h5⟩ := h
  exact ⟨⟨v, row_nonc hg hr h1, own_nonc hg hr h2⟩, row_nonc hg hr h3, row_nonc hg hr h4, row_nonc hg hr h5⟩
theorem EmI.st {w : World} {ob O : Nat} {o : Opt} {n s : Nat} {pre : List Pls} {X Y : World} {B : Nat} (h : EmI w ob O o n s pre X) (hd : DrwSt B X Y) : EmI w ob O o n s pre Y := by
  obtain ⟨⟨v, h1, h2⟩, h3, h4, h5⟩ := h
  exact ⟨⟨v, hd.boxed h1 (by decide), hd.own h2 (by decide)⟩, hd.row h3 (by decide), hd.row h4 (by decide), hd.row h5 (by decide)⟩

theorem pls_info9 : (Tryz.prog.info? 148).map (fun i => (i.zero, i.size, i.bytes)) = some (some (.agg #[.int .i64 0, .bool false, .int .i64 0, .int .i64 0, .bool false]), 5, 40) := by kernel_rfl
set_option maxRecDepth 100000 in
set_option maxHeartbeats 4000000 in
theorem Emit_main (o : Opt) (n s : Nat) (w : World) (ho : optB o = true) (hn : n ≤ 4096) :
    CallsIn Fence.wide 10 Tryz.prog 52 #[o.val, .int .i64 n, .int .u64 s] w fun e w' => ∃ v, e = .returned (.tuple #[v, .int .i64 0]) ∧ Go.Proofs.YteoaaphjbggobaaGreat.Own w' w.heap.size 148 5 Pls.enc v (emX o s n).1 ∧ Below w.heap.size w w' := by
  have hF : ∀ f, Fence.wide.fn f := fun _ => trivial
  obtain ⟨i0, hi, hz0, hz1, hz2⟩ := info_parts pls_info9
  have Hi := Lib.hid hi; have Hz0 := Lib.hid hz0; have Hz1 := Lib.hid hz1; have Hz2 := Lib.hid hz2
  clear hi hz0 hz1 hz2
  have d1 : decide ((n : Int) < 0) = false := by simp
  have d2 : decide (4096 < (n : Int)) = false := by simp; omega
  have At0 := Lib.hid (OptAt.new w o)
  have hb0 := below_alloc (Below.refl w.heap.size w) (.cells o.cs 68)
  have cC := oCheck_any o (w.alloc (.cells o.cs 68))
  have e0 : optE o = 0 := by unfold optE; rw [if_pos ho]
  rw [e0] at cC
  unfold Opt.val Opt.cs at *
  refine callsIn_of_wp_marks Tryz.func52 rfl trivial ?_ rfl
  simp only [Tryz.ntmps52, List.size_toArray, List.length_cons, List.length_nil, Nat.reduceAdd, Nat.reduceSub, Array.replicate_succ, Array.replicate_zero, List.push_toArray, List.append_toArray, List.nil_append, List.cons_append]
  gi_wp2_with (refine wpListIn_load_row rfl 68 _ rfl w.heap.size rfl 68 _ (0, 0) _ At0.out Tryz.underlying68 rfl (by kernel_rfl) ?_)
  refine (callsIn_wide.2 cC).mono ?_
  rintro e w1 ⟨rfl, hb1⟩
  have At1 := At0.out.on hb1
  have q1 := below_trans hb0 hb1
  clear cC At0 hb0 hb1
  have At2 := Lib.hid (At1.on (below_alloc (Below.refl w1.heap.size w1) (.cells #[.slice none 0 0] 71)))
  have B2 := Boxed.new w1 71 (.slice none 0 0)
  have q2 := below_alloc q1 (.cells #[.slice none 0 0] 71)
  gi_wp2_with (refine wpListIn_load_row rfl 68 _ rfl w.heap.size rfl 68 _ (0, 0) _ At2.out Tryz.underlying68 rfl (by kernel_rfl) ?_)
  refine (callsIn_wide.2 (slots_any o n s _)).mono ?_
  rintro e w3 ⟨rfl, hw3⟩
  obtain ⟨O, hO⟩ : ∃ O, w1.heap.size = O := ⟨_, rfl⟩
  have sz2 : (w1.alloc (.cells #[.slice none 0 0] 71)).heap.size = O + 1 := by simp [hO]
  have b3 : Below (w1.alloc (.cells #[.slice none 0 0] 71)).heap.size (w1.alloc (.cells #[.slice none 0 0] 71)) w3 := by
    rw [hw3]; exact below_alloc (below_alloc (below_alloc (Below.refl _ _) _) _) _
  have q3 := below_trans q2 b3
  have I3 : EmI w (O + 1) O o n s [] w3 := by
    refine ⟨⟨_, ?_, Own.nil⟩, ?_, ?_, ?_⟩
    · rw [← hO]; exact B2.kept (grown_of_below b3) (by simp)
    · have := OptAt.new (w1.alloc (.cells #[.slice none 0 0] 71)) o
      rw [sz2] at this
      rw [hw3]
      exact this.on (below_alloc (below_alloc (Below.refl _ _) _) _)
    · have := Boxed.new ((w1.alloc (.cells #[.slice none 0 0] 71)).alloc (.cells o.cs 68)) 3 (.int .i64 n)
      rw [World.size_alloc, sz2] at this
      rw [hw3]
      exact this.alloc _
    · have := Boxed.new (((w1.alloc (.cells #[.slice none 0 0] 71)).alloc (.cells o.cs 68)).alloc (.cells #[.int .i64 n] 3)) 24 (.int .u64 s)
      rw [World.size_alloc, World.size_alloc, sz2] at this
      rw [hw3]
      exact this
  have hOw : w.heap.size ≤ O := by rw [← hO]; exact q1.size
  rw [sz2]
  rw [hO]
  clear hw3 b3 sz2 B2 At2 At1 q2 hO
  gi_wp2_with fail
  refine wpIn_rangeFunc_boxed (α := Pls) rfl (by omega) (gf := 137) (lb := #[.pointer (some ⟨O + 1 + 2, 0, none⟩), .pointer (some ⟨O + 1 + 1, 0, none⟩), .pointer (some ⟨O + 1, 0, none⟩)]) rfl trivial (enters_of Tryz.func137 (by kernel_rfl) rfl)
    (encs := fun x => #[x.val]) (Kp := DrwK) (St := DrwSt w.heap.size) (OK := fun pre _ => pre.length < 4096) (xs := (emX o s n).1)
    (fun pre W => EmI w (O + 1) O o n s pre W ∧ Below w.heap.size w W)
    ?seq (fun h k a b hab => k a b (h a b hab)) ?putk (fun _ _ h => h.others) (fun _ => rfl)
    (OwnFrom.and (fun _ X Y row hs hg hr => hs.nonc hg (fun r e => (hr r e).2)) (ownFrom_below (Nat.le_refl _) q3.size))
    (fun _ X Y h k => ⟨h.1.st k, k.below h.2 h.2.size (Nat.le_refl _) (Nat.le_refl _)⟩) ⟨I3, q3⟩
    (fun x W => { tmps := #[.agg #[.int .i64 o.k, .int .i64 o.c0, .int .i64 o.c1, .int .i64 o.c2, .int .i64 o.v0, .int .i64 o.v1, .int .i64 o.v2, .int .i64 o.v3, .int .i64 o.w0, .int .i64 o.w1, .int .i64 o.w2, .int .i64 o.w3, .int .i64 o.s0, .int .i64 o.s1, .int .i64 o.s2, .int .i64 o.s3, .int .i64 o.eta, .int .i64 o.dark], .int .i64 n, .int .u64 s, .pointer (some ⟨w.heap.size, 0, none⟩), undef, undef, .slice none 0 0, .int .i64 0, .int .i64 0, .pointer (some ⟨O, 0, none⟩), .pointer (some ⟨W.heap.size, 0, none⟩), .agg #[.int .i64 o.k, .int .i64 o.c0, .int .i64 o.c1, .int .i64 o.c2, .int .i64 o.v0, .int .i64 o.v1, .int .i64 o.v2, .int .i64 o.v3, .int .i64 o.w0, .int .i64 o.w1, .int .i64 o.w2, .int .i64 o.w3, .int .i64 o.s0, .int .i64 o.s1, .int .i64 o.s2, .int .i64 o.s3, .int .i64 o.eta, .int .i64 o.dark], .int .i64 0, .int .i64 0, .bool false, undef, .int .i64 n, .bool false, .bool false, .int .i64 n, .bool false, .bool false, .agg #[.int .i64 o.k, .int .i64 o.c0, .int .i64 o.c1, .int .i64 o.c2, .int .i64 o.v0, .int .i64 o.v1, .int .i64 o.v2, .int .i64 o.v3, .int .i64 o.w0, .int .i64 o.w1, .int .i64 o.w2, .int .i64 o.w3, .int .i64 o.s0, .int .i64 o.s1, .int .i64 o.s2, .int .i64 o.s3, .int .i64 o.eta, .int .i64 o.dark], .int .i64 n, .int .u64 s, .func (.func 137) #[] #[.pointer (some ⟨O + 1 + 2, 0, none⟩), .pointer (some ⟨O + 1 + 1, 0, none⟩), .pointer (some ⟨O + 1, 0, none⟩)], .agg #[.int .i64 x.basis, .bool x.bit, .int .i64 x.cls, .int .i64 x.ph, .bool x.seen], undef, undef, undef, undef, undef], defers := [] }) (fun x W => W.alloc (.cells #[.int .i64 x.basis, .bool x.bit, .int .i64 x.cls, .int .i64 x.ph, .bool x.seen] 148)) (fun x W => ⟨KeepsOthers.alloc _ _, fun k a h => h.keep (row := none) (World.grownBy_alloc _ _ _) (by simp)⟩)
    (fun pre x W h => ⟨h.1.nonc (World.grownBy_alloc _ _ none) (by simp), below_alloc h.2 _⟩) ?assign ?body ?done
  case seq =>
    intro l J W hbW hJs hJI hY h0
    exact slots1_in l (O + 1 + 2) (O + 1 + 1) (O + 1) n s o W J ho hn hY w.heap.size ((hJI _ _ h0).2.size) hJs (fun pre W hj => ⟨(hJI _ _ hj).1.sb.cell, (hJI _ _ hj).1.nb.cell, (hJI _ _ hj).1.op⟩) h0
  case putk =>
    intro W l o1 o2 hl ho1 hco k a hk
    have hk2 := hk
    unfold DrwAt at hk ⊢
    exact (World.putObj_heap_other (show k ≠ l from fun e => by subst e; rw [ho1] at hk; cases hk; cases hco)).trans hk
  case assign =>
    intro l x W K hK
    unfold Pls.val
    gi_wp2
    exact hK
  case body =>
    rintro l pre x W W' ⟨hE, hb⟩ hlen ⟨hsz, hcells, ⟨hE', hb'⟩⟩
    have hrow := hcells W.heap.size _ _ _ (World.alloc_heap_new W _)
    obtain ⟨⟨v, hv, hov⟩, h3, h4, h5⟩ := hE'
    have y0 : W'.cell? ⟨W.heap.size, 0, none⟩ = some (.int .i64 x.basis) := cell_of_row _ _ _ _ _ _ hrow
    have y1 : W'.cell? ⟨W.heap.size, 1, none⟩ = some (.bool x.bit) := cell_of_row _ _ _ _ _ _ hrow
    have y2 : W'.cell? ⟨W.heap.size, 2, none⟩ = some (.int .i64 x.cls) := cell_of_row _ _ _ _ _ _ hrow
    have y3 : W'.cell? ⟨W.heap.size, 3, none⟩ = some (.int .i64 x.ph) := cell_of_row _ _ _ _ _ _ hrow
    have y4 : W'.cell? ⟨W.heap.size, 4, none⟩ = some (.bool x.seen) := cell_of_row _ _ _ _ _ _ hrow
    have yv := hv.cell
    have hby : (pre.length + 1) * 40 ≤ 140737488355328 := by omega
    have hbw : w.heap.size ≤ W'.heap.size := hb'.size
    have hnews : ∀ j u, (Pls.enc x)[j]? = some u → (W'.alloc (.cells #[.int .i64 x.basis, .bool x.bit, .int .i64 x.cls, .int .i64 x.ph, .bool x.seen] 148)).cell? ((⟨W'.heap.size, 0, none⟩ : Addr).add j) = some u := fun j u hu => by
      have hadd : (⟨W'.heap.size, 0, none⟩ : Addr).add j = ⟨W'.heap.size, j, none⟩ := by unfold Addr.add; split <;> simp_all
      rw [hadd]
      exact new_cell (by rw [← hu]; simp [Pls.enc])
    have hml : pre.length + 1 ≤ maxLen := by unfold maxLen; omega
    have hov2 := World.ownsRow.alloc hov (.cells #[.int .i64 x.basis, .bool x.bit, .int .i64 x.cls, .int .i64 x.ph, .bool x.seen] 148)
    have Ap := Lib.hid (fun (v' : Value) (w4 : World) (h1 : w4.ownsRow w.heap.size 148 5 v' (pre.length + 1) (pre.flatMap Pls.enc ++ Pls.enc x)) (h2 : (W'.alloc (.cells #[.int .i64 x.basis, .bool x.bit, .int .i64 x.cls, .int .i64 x.ph, .bool x.seen] 148)).grownBy w4 v.ownBlock) => Boxed.appended (n₀ := w.heap.size) (B := O) hv (by decide) hov hbw hOw h1 h2)
    have Hov := Lib.hid hov
    have hlen2 := Lib.hid hlen
    have Rw := Lib.hid (fun (w4 : World) (u : Value) (h2 : (W'.alloc (.cells #[.int .i64 x.basis, .bool x.bit, .int .i64 x.cls, .int .i64 x.ph, .bool x.seen] 148)).grownBy w4 v.ownBlock) (j : Nat) (cs : Array Value) (T : TypeId) (fr : Nat × Nat) (hk : W'.heap[j]? = some (.cells cs T fr)) (h3 : T ≠ 148) (h4 : T ≠ 71) => app_row u hv hov h2 hk h3 h4)
    clear hlen hov hE hcells hsz
    gi_wp2_with (gi_at_builtin; refine wpListIn_append_own _ rfl _ _ 71 rfl w.heap.size 148 i0 _ 5 40 Tryz.underlying71 Hi.out Hz0.out Hz1.out Hz2.out rfl (by decide) v pre.length (pre.flatMap Pls.enc) rfl hov2 ⟨W'.heap.size, 0, none⟩ 1 1 (Pls.enc x) rfl rfl hnews (Pls.one x) hml hby (by simp; omega) ?_; intro v' w4 ho4 hg4 _; obtain ⟨g', cap', rfl⟩ := ownsRow_succ ho4; obtain ⟨e1, e2, e3, e4, e5⟩ := Ap.out _ _ ho4 hg4; have hc1 := e1.cell; have hf1 := e1.frozen)
    refine ⟨e4.from _, fun k a h => Rw.out _ _ hg4 k _ _ _ h (by decide) (by decide), ⟨⟨_, e2, Own.snoc e3⟩, Rw.out _ _ hg4 _ _ _ _ h3 (by decide) (by decide), Rw.out _ _ hg4 _ _ _ _ h4 (by decide) (by decide), Rw.out _ _ hg4 _ _ _ _ h5 (by decide) (by decide)⟩, hb'.trans e5⟩
  case done =>
    intro D W hD ⟨⟨⟨v, hv, hov⟩, h3, h4, h5⟩, hb⟩ hK
    have yv := hv.cell
    gi_wp2
    refine ⟨by simp, .inl ⟨_, _, rfl, run_takeDeferred hK, ?_⟩⟩
    exact ⟨_, results_tmp2 rfl _ _ _, v, rfl, ownsRow_putObj hov _ hK rfl, hb.trans (belowK_b (w := w) (Nat.le_refl _) W D _ _ (by have := q3.size; omega) hK rfl rfl)⟩

theorem Emit_any (o : Opt) (n s : Nat) (w : World) (ho : optB o = true) (hn : n ≤ 4096) :
    Calls Tryz.prog 52 #[o.val, .int .i64 n, .int .u64 s] w fun e w' => ∃ v, e = .returned (.tuple #[v, .int .i64 0]) ∧ Go.Proofs.YteoaaphjbggobaaGreat.Own w' w.heap.size 148 5 Pls.enc v (emX o s n).1 ∧ Below w.heap.size w w' :=
  callsIn_wide.1 (Emit_main o n s w ho hn)

end Go.Proofs.YteoaaphjbggobaaGreat
