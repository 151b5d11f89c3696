/- The program's Shift and Run. For any arrangement and rules; at most 4096 slots. The program's Run. For a valid arrangement, a valid channel and at most 4096 slots. -/
import Derived.Test.YteoaaphjbggobaaGreatDetC
import Derived.Test.YteoaaphjbggobaaGreatCarJ
import Derived.Test.YteoaaphjbggobaaGreatEmtAll
namespace Go.Proofs.YteoaaphjbggobaaGreat
open Go.RowKit
set_option linter.unusedVariables false
set_option linter.unusedSimpArgs false

theorem shfX_drop {l : List Rul} {k : Nat} {r : Rul} (h : l[k]? = some r) : shfX (l.drop k) = if r.k = 3 then r.a * (1 - 2 * r.b) else shfX (l.drop (k + 1)) := by
  obtain ⟨hk, rfl⟩ := List.getElem?_eq_some_iff.1 h
  rw [List.drop_eq_getElem_cons hk, shfX]
set_option maxRecDepth 100000 in
set_option maxHeartbeats 4000000 in
theorem Shift_any (A : Option Addr) (c : Nat) (l : List Rul) (w : World) (hA : Arr 5 Rul.enc w w.heap.size A l) (hr : rulesE l = 0) (hr2 : l.all ruleB = true) (hr3 : l.length ≤ 32) :
    Calls Tryz.prog 53 #[.slice A l.length c] w fun e w' => e = .returned (.tuple #[.int .i64 (shfX l), .int .i64 0]) ∧ Below w.heap.size w w' := by
  have cR := oRules_any A c l w hA (by omega)
  rw [hr] at cR
  have Hr2 := Lib.hid hr2
  clear hr hr2
  go_enter Tryz.func53, Tryz.ntmps53
  go_wp2_with fail
  refine cR.mono ?_
  rintro e w1 ⟨rfl, hb1⟩
  clear cR
  go_wp2_with fail
  go_loopw [14] (fun i wr => ∃ k : Nat, k ≤ l.length ∧ i = .int .i64 k ∧ Hid (shfX l = shfX (l.drop k)) ∧ Below w.heap.size w wr) (fun i _ => l.length + 1 - (intOf i).toNat)
  case atStart => exact ⟨0, Nat.zero_le _, rfl, Lib.hid (by simp), hb1⟩
  case round =>
    obtain ⟨k, hk, rfl, inv, hb⟩ := hrel
    obtain ⟨wi, rfl⟩ : ∃ wi, wi = wr := ⟨_, rfl⟩
    rcases Nat.lt_or_ge k l.length with hlt | hge
    · obtain ⟨b, off, x, rfl, hbb, hx, c0, c1, c2, c3, c4⟩ := hA.rul hlt hb
      have hst := Lib.hid (shfX_drop hx.out)
      have hrb : ruleB x = true := List.all_eq_true.1 Hr2.out _ (List.mem_of_getElem? hx.out)
      have q7 := below_alloc hb (.cells #[.int .i64 x.k, .int .i64 x.f, .int .i64 x.t, .int .i64 x.a, .int .i64 x.b] 70)
      by_cases h3 : x.k = 3
      · have hab : (x.b = 0 ∨ x.b = 1) ∧ x.b ≤ x.a ∧ x.a ≤ 16 := by
          unfold ruleB at hrb
          rw [if_neg (by omega), if_pos h3] at hrb
          simp only [Bool.and_eq_true, bitB, Bool.or_eq_true, beq_iff_eq, decide_eq_true_eq] at hrb
          exact ⟨hrb.1.1.2, hrb.1.2, hrb.2⟩
        have hv : Hid (shfX l = x.a * (1 - 2 * x.b)) := Lib.hid (by rw [inv.out, hst.out, if_pos h3])
        obtain ⟨xk, xf, xt, xa, xb⟩ := x
        simp only at h3 hab hv c0 c1 c2 c3 c4 q7
        subst h3
        obtain ⟨hxb, hab1, hab2⟩ := hab
        clear hst inv hx hrb
        rcases hxb with rfl | rfl
        · go_wp2_with fail
          go_ret2
          exact ⟨by rw [hv.out]; simp, q7⟩
        · go_wp2_with fail
          go_ret2
          have e9 : xa * (1 - 2 * 1) = -xa := by omega
          exact ⟨by rw [hv.out, e9]; rfl, q7⟩
      · have hn : Hid (shfX l = shfX (l.drop (k + 1))) := Lib.hid (by rw [inv.out, hst.out, if_neg h3])
        have e3 : (x.k == 3) = false := by simpa using h3
        clear hst inv hx hrb
        go_wp2_with fail
        exact ⟨⟨k + 1, by omega, by go_num, hn, q7⟩, by simp [intOf]; omega⟩
    · have hn : Hid (shfX l = 0) := Lib.hid (by rw [inv.out, List.drop_of_length_le hge]; rfl)
      go_wp2_with fail
      go_ret2
      exact ⟨by rw [hn.out]; rfl, hb⟩

end Go.Proofs.YteoaaphjbggobaaGreat

namespace Go.Proofs.YteoaaphjbggobaaGreat
open Go.RowKit
set_option linter.unusedVariables false
set_option linter.unusedSimpArgs false

structure RunS (W : World) (O s0 s1 s2 : Nat) (o : Opt) : Prop where
  op : OptAt W O o
  sd : W.heap[O + 1]? = some (.cells #[.int .u64 s0, .int .u64 s1, .int .u64 s2] 63 (0, 0))
  r : W.heap[O + 1 + 1]? = some (.cells #[.slice none 0 0, .slice none 0 0, .slice none 0 0, .int .i64 0] 75 (0, 0))
section
variable {W W' : World} {O s0 s1 s2 : Nat} {o : Opt}
theorem RunS.grown (h : RunS W O s0 s1 s2 o) {row : Option Nat} (hg : W.grownBy W' row) (hr : ∀ k, row = some k → O + 1 + 1 < k) : RunS W' O s0 s1 s2 o := by
  have k : ∀ {j : Nat} {v : Obj}, W.heap[j]? = some v → j ≤ O + 1 + 1 → W'.heap[j]? = some v := fun hj hb => (hg.block _ (Array.getElem?_eq_some_iff.1 hj).1 (fun e => by have := hr _ e.symm; omega)).trans hj
  exact ⟨k h.op (by omega), k h.sd (by omega), k h.r (Nat.le_refl _)⟩
theorem RunS.on (h : RunS W O s0 s1 s2 o) (hb : Below W.heap.size W W') : RunS W' O s0 s1 s2 o := h.grown (grown_of_below hb) (by simp)
theorem RunS.c0 (h : RunS W O s0 s1 s2 o) : W.cell? ⟨O + 1, 0, none⟩ = some (.int .u64 s0) := cell_of_row _ _ _ _ _ _ h.sd
theorem RunS.c1 (h : RunS W O s0 s1 s2 o) : W.cell? ⟨O + 1, 1, none⟩ = some (.int .u64 s1) := cell_of_row _ _ _ _ _ _ h.sd
theorem RunS.c2 (h : RunS W O s0 s1 s2 o) : W.cell? ⟨O + 1, 2, none⟩ = some (.int .u64 s2) := cell_of_row _ _ _ _ _ _ h.sd
theorem RunS.new (w : World) (s0 s1 s2 : Nat) (o : Opt) : RunS (((w.alloc (.cells o.cs 68)).alloc (.cells #[.int .u64 s0, .int .u64 s1, .int .u64 s2] 63)).alloc (.cells #[.slice none 0 0, .slice none 0 0, .slice none 0 0, .int .i64 0] 75)) w.heap.size s0 s1 s2 o := by
  refine ⟨?_, ?_, ?_⟩
  · exact (heap_alloc_old _ _ (by simp; omega)).trans (heap_alloc2_old w _ _)
  · exact (heap_alloc_old _ _ (by simp)).trans (heap_alloc2_new w _ _)
  · have e : ((w.alloc (.cells o.cs 68)).alloc (.cells #[.int .u64 s0, .int .u64 s1, .int .u64 s2] 63)).heap.size = w.heap.size + 1 + 1 := by simp
    rw [← e]
    exact heap_alloc_new _ _
end
theorem own_turn {α : Type} {w w' : World} {B e sz : Nat} {enc : α → List Value} {v : Value} {l : List α} (o : Go.Proofs.YteoaaphjbggobaaGreat.Own w B e sz enc v l) {X : Nat} {cs : Array Value} {T : TypeId} {fr : Nat × Nat} (hX : w.heap[X]? = some (.cells cs T fr)) (hT : T ≠ e) (hg : w.grownBy w' (some X)) : Go.Proofs.YteoaaphjbggobaaGreat.Own w' B e sz enc v l := by
  refine o.keep hg ?_
  rcases o.2 with ⟨rfl, _⟩ | ⟨g, cap, cur, rfl, _, hgb, _⟩
  · exact .inl rfl
  · have := row_ne hgb hX (fun e => hT e.symm)
    exact .inr (by simp [Value.ownBlock]; exact this)
/-- A row of the flight that is made. -/
def FltAt (W : World) (F : Nat) (a b c d : Value) : Prop := W.heap[F]? = some (.cells #[a, b, c, d] 75 (0, 0))
section
variable {W W' : World} {F : Nat} {a b c d : Value}
theorem FltAt.on (h : FltAt W F a b c d) (hb : Below W.heap.size W W') : FltAt W' F a b c d := (hb.block _ (Array.getElem?_eq_some_iff.1 h).1).trans h
theorem FltAt.c0 (h : FltAt W F a b c d) : W.cell? ⟨F, 0, none⟩ = some a := cell_of_row _ _ _ _ _ _ h
theorem FltAt.c1 (h : FltAt W F a b c d) : W.cell? ⟨F, 1, none⟩ = some b := cell_of_row _ _ _ _ _ _ h
theorem FltAt.c2 (h : FltAt W F a b c d) : W.cell? ⟨F, 2, none⟩ = some c := cell_of_row _ _ _ _ _ _ h
theorem FltAt.c3 (h : FltAt W F a b c d) : W.cell? ⟨F, 3, none⟩ = some d := cell_of_row _ _ _ _ _ _ h
theorem FltAt.fr (h : FltAt W F a b c d) (j : Nat) : W.frozen? ⟨F, j, none⟩ = false := frozen_of_row _ _ _ _ _ h
theorem FltAt.set1 (h : FltAt W F a b c d) (v : Value) : FltAt (W.setCell ⟨F, 1, none⟩ v) F a v c d := heap_setCell_same _ _ 1 _ _ v h
theorem FltAt.set2 (h : FltAt W F a b c d) (v : Value) : FltAt (W.setCell ⟨F, 2, none⟩ v) F a b v d := heap_setCell_same _ _ 2 _ _ v h
theorem FltAt.set3 (h : FltAt W F a b c d) (v : Value) : FltAt (W.setCell ⟨F, 3, none⟩ v) F a b c v := heap_setCell_same _ _ 3 _ _ v h
end
theorem flt_size : (Tryz.prog.info? 75).map (·.size) = some 4 := by kernel_rfl

set_option maxRecDepth 100000 in
set_option maxHeartbeats 16000000 in
theorem Run_any (o : Opt) (A : Option Addr) (cA : Nat) (l : List Rul) (n s0 s1 s2 : Nat) (w : World) (ho : optB o = true) (hA : Arr 5 Rul.enc w w.heap.size A l) (hr : rulesE l = 0) (hr2 : l.all ruleB = true) (hr3 : l.length ≤ 32) (hn : n ≤ 4096) :
    Calls Tryz.prog 19 #[o.val, .slice A l.length cA, .int .i64 n, .agg #[.int .u64 s0, .int .u64 s1, .int .u64 s2]] w fun e w' => ∃ v1 v2 v3, e = .returned (.tuple #[.agg #[v1, v2, v3, .int .i64 (shfX l)], .int .i64 0]) ∧
      Own w' w.heap.size 148 5 Pls.enc v1 (emX o s0 n).1 ∧ Own w' w.heap.size 141 2 Clk.enc v2 (detX o.eta o.dark (carX l (emX o s0 n).1 s1 n).1 (shfX l) s2 n).1 ∧ Own w' w.heap.size 239 4 Nte.enc v3 (carX l (emX o s0 n).1 s1 n).2.2 ∧ Below w.heap.size w w' := by
  have S0 := RunS.new w s0 s1 s2 o
  have hb0 := below_alloc (below_alloc (below_alloc (Below.refl w.heap.size w) (.cells o.cs 68)) (.cells #[.int .u64 s0, .int .u64 s1, .int .u64 s2] 63)) (.cells #[.slice none 0 0, .slice none 0 0, .slice none 0 0, .int .i64 0] 75)
  have e0 : optE o = 0 := by unfold optE; rw [if_pos ho]
  have hval : o.val = .agg o.cs := rfl
  unfold Opt.val Opt.cs at *
  have Ho := Lib.hid ho
  have hel : (emX o s0 n).1.length = n := emX_len o s0 n
  have heo := emX_ok o s0 n
  have hpe : allE Pls.ok (emX o s0 n).1 = 0 := allE_zero.2 ⟨by omega, heo⟩
  obtain ⟨PL, hPL⟩ : ∃ PL, (emX o s0 n).1 = PL := ⟨_, rfl⟩
  have hcl : (carX l PL s1 n).1.length = n := carX_len l PL s1 n (by rw [← hPL]; omega)
  have hco := carX_ok l hr2 PL (by rw [← hPL]; exact heo) s1 n
  have hsh := shfX_ok hr2
  simp only [betwB, decide_eq_true_eq] at hsh
  rw [hPL] at hel hpe ⊢
  have Hel := Lib.hid hel; have Hpe := Lib.hid hpe; have Hcl := Lib.hid hcl; have Hco := Lib.hid hco
  have Hr := Lib.hid hr; have Hr2 := Lib.hid hr2
  have HPL := Lib.hid hPL
  clear hel hpe heo hcl hco hr hr2 hPL ho
  go_enter Tryz.func19, Tryz.ntmps19
  go_upto_region 1 with fail
  obtain ⟨W0, hW0⟩ : ∃ W0, ((w.alloc (.cells #[.int .i64 o.k, .int .i64 o.c0, .int .i64 o.c1, .int .i64 o.c2, .int .i64 o.v0, .int .i64 o.v1, .int .i64 o.v2, .int .i64 o.v3, .int .i64 o.w0, .int .i64 o.w1, .int .i64 o.w2, .int .i64 o.w3, .int .i64 o.s0, .int .i64 o.s1, .int .i64 o.s2, .int .i64 o.s3, .int .i64 o.eta, .int .i64 o.dark] 68)).alloc (.cells #[.int .u64 s0, .int .u64 s1, .int .u64 s2] 63)).alloc (.cells #[.slice none 0 0, .slice none 0 0, .slice none 0 0, .int .i64 0] 75) = W0 := ⟨_, rfl⟩
  rw [hW0] at S0 hb0 ⊢
  clear hW0
  have At0 := Lib.hid S0.op
  have cC := oCheck_any o W0
  rw [e0] at cC
  unfold Opt.val Opt.cs at cC
  go_wp2_with (refine wpList_load_row rfl 68 _ rfl w.heap.size rfl 68 _ (0, 0) _ At0.out Tryz.underlying68 rfl (by kernel_rfl) ?_)
  refine cC.mono ?_
  rintro e w1 ⟨rfl, hb1⟩
  have S1 := S0.on hb1
  have q1 := below_trans hb0 hb1
  clear cC At0 S0 hb0 hb1 e0
  go_wp2_with fail
  have cR := oRules_any A cA l w1 (hA.on q1) (by omega)
  rw [Hr.out] at cR
  refine cR.mono ?_
  rintro e w2 ⟨rfl, hb2⟩
  have S2 := S1.on hb2
  have q2 := below_trans q1 hb2
  clear cR S1 q1 hb2
  have At2 := Lib.hid S2.op
  have y0 := S2.c0
  go_wp2_with (refine wpList_load_row rfl 68 _ rfl w.heap.size rfl 68 _ (0, 0) _ At2.out Tryz.underlying68 rfl (by kernel_rfl) ?_)
  have cE := Emit_any o n s0 w2 Ho.out hn
  rw [HPL.out] at cE
  unfold Opt.val Opt.cs at cE
  refine cE.mono ?_
  rintro e w3 ⟨v1, rfl, own1, hb3⟩
  obtain ⟨A1, c1, rfl, _, _, _, hr1⟩ := own1.form Pls.enc_len
  have S3 := S2.on hb3
  have q3 := below_trans q2 hb3
  have own1 := Go.Proofs.YteoaaphjbggobaaGreat.Own.down own1 q2.size
  clear cE At2 y0 S2 q2 hb3
  have F4 : FltAt (w3.alloc (.cells #[.slice A1 PL.length c1, .slice none 0 0, .slice none 0 0, .int .i64 0] 75)) w3.heap.size (.slice A1 PL.length c1) (.slice none 0 0) (.slice none 0 0) (.int .i64 0) := World.alloc_heap_new _ _
  have S4 := S3.on (below_alloc (Below.refl _ _) (.cells #[.slice A1 PL.length c1, .slice none 0 0, .slice none 0 0, .int .i64 0] 75))
  have q4 := below_alloc q3 (.cells #[.slice A1 PL.length c1, .slice none 0 0, .slice none 0 0, .int .i64 0] 75)
  have own4 := own1.alloc (.cells #[.slice A1 PL.length c1, .slice none 0 0, .slice none 0 0, .int .i64 0] 75)
  go_wp2_with fail
  have hFO : w.heap.size + 1 + 1 < w3.heap.size := (Array.getElem?_eq_some_iff.1 S3.r).1
  obtain ⟨F, hF⟩ : ∃ F, w3.heap.size = F := ⟨_, rfl⟩
  obtain ⟨W4, hW4⟩ : ∃ W4, w3.alloc (.cells #[.slice A1 PL.length c1, .slice none 0 0, .slice none 0 0, .int .i64 0] 75) = W4 := ⟨_, rfl⟩
  rw [hW4, hF] at F4
  rw [hW4] at S4 q4 own4 ⊢
  rw [hF] at hFO ⊢
  clear hW4 hF S3 q3 own1 hr1
  have cS := Shift_any A cA l W4 (hA.on q4) Hr.out Hr2.out hr3
  refine cS.mono ?_
  rintro e w5 ⟨rfl, hb5⟩
  have S5 := S4.on hb5
  have F5 := F4.on hb5
  have q5 := below_trans q4 hb5
  have own5 := own4.below hb5
  clear cS S4 F4 q4 own4 hb5
  obtain ⟨sh, hsv⟩ : ∃ sh, shfX l = sh := ⟨_, rfl⟩
  rw [hsv] at hsh ⊢
  have Hsv := Lib.hid hsv
  clear hsv
  have y3 := F5.c3
  have f3 := F5.fr 3
  have F6 := F5.set3 (.int .i64 sh)
  have S6 := S5.grown (grown_setCell w5 F 3 (.int .i64 sh)) (fun k hk => by cases hk; exact hFO)
  have own6 := own_turn own5 F5 (by decide) (grown_setCell w5 F 3 (.int .i64 sh))
  have q6 : Below w.heap.size w (w5.setCell ⟨F, 3, none⟩ (.int .i64 sh)) := q5.setCell (p := ⟨F, 3, none⟩) (by show w.heap.size ≤ F; omega) _
  have z1 := S5.c1
  go_wp2_with fail
  obtain ⟨W6, hW6⟩ : ∃ W6, w5.setCell ⟨F, 3, none⟩ (.int .i64 sh) = W6 := ⟨_, rfl⟩
  rw [hW6] at F6 S6 own6 q6 ⊢
  clear hW6 F5 S5 own5 q5 y3 f3 z1
  have ar6 := own6.form Pls.enc_len
  obtain ⟨A1', c1', hv1, _, _, _, ar6⟩ := ar6
  cases hv1
  have cK := Carry_any A cA l A1 c1 PL s1 W6 (hA.on q6) ar6 Hr.out Hr2.out hr3 Hpe.out
  rw [Hel.out] at cK
  rw [← Hel.out] at cK
  refine cK.mono ?_
  rintro e w7 ⟨v, u, rfl, ownL, ownN, hb7⟩
  rw [Hel.out] at ownL ownN
  have S7 := S6.on hb7
  have F7 := F6.on hb7
  have q7 := below_trans q6 hb7
  have own7 := own6.below hb7
  have ownN := Go.Proofs.YteoaaphjbggobaaGreat.Own.down ownN q6.size
  have ownL := Go.Proofs.YteoaaphjbggobaaGreat.Own.down ownL q6.size
  obtain ⟨A2, c2, rfl, _, _, _, _⟩ := ownL.form Lgt.enc_len
  obtain ⟨A3, c3, rfl, _, _, _, _⟩ := ownN.form Nte.enc_len
  clear cK S6 F6 q6 own6 hb7 ar6
  have y2 := F7.c2
  have f2 := F7.fr 2
  have F8 := F7.set2 (.slice A3 (carX l PL s1 n).2.2.length c3)
  have S8 := S7.grown (grown_setCell w7 F 2 (.slice A3 (carX l PL s1 n).2.2.length c3)) (fun k hk => by cases hk; exact hFO)
  have own8 := own_turn own7 F7 (by decide) (grown_setCell w7 F 2 (.slice A3 (carX l PL s1 n).2.2.length c3))
  have ownL8 := own_turn ownL F7 (by decide) (grown_setCell w7 F 2 (.slice A3 (carX l PL s1 n).2.2.length c3))
  have ownN8 := own_turn ownN F7 (by decide) (grown_setCell w7 F 2 (.slice A3 (carX l PL s1 n).2.2.length c3))
  have q8 : Below w.heap.size w (w7.setCell ⟨F, 2, none⟩ (.slice A3 (carX l PL s1 n).2.2.length c3)) := q7.setCell (p := ⟨F, 2, none⟩) (by show w.heap.size ≤ F; omega) _
  go_upto_region 14 with fail
  obtain ⟨W8, hW8⟩ : ∃ W8, w7.setCell ⟨F, 2, none⟩ (.slice A3 (carX l PL s1 n).2.2.length c3) = W8 := ⟨_, rfl⟩
  rw [hW8] at F8 S8 own8 ownL8 ownN8 q8 ⊢
  clear hW8 F7 S7 own7 q7 y2 f2 ownL ownN
  have At8 := Lib.hid S8.op
  have z2 := S8.c2
  have y3 := F8.c3
  obtain ⟨LL, hLL⟩ : ∃ LL, (carX l PL s1 n).1 = LL := ⟨_, rfl⟩
  have hcl := Hcl.out
  have hco := Hco.out
  rw [hLL] at ownL8 hcl hco ⊢
  obtain ⟨A2', c2', hv2, _, _, _, ar8⟩ := ownL8.form Lgt.enc_len
  cases hv2
  have cD := Detect_any o A2 c2 LL sh s2 W8 Ho.out ar8 (by omega) hco hsh.1 hsh.2
  have Hcl2 := Lib.hid hcl
  unfold Opt.val Opt.cs at cD
  have HLL := Lib.hid hLL
  clear hcl hco hLL ownL8 ar8
  go_wp2_with (refine wpList_load_row rfl 68 _ rfl w.heap.size rfl 68 _ (0, 0) _ At8.out Tryz.underlying68 rfl (by kernel_rfl) ?_)
  refine cD.mono ?_
  rintro e w9 ⟨v2, rfl, own2, hb9⟩
  rw [Hcl2.out] at own2
  have S9 := S8.on hb9
  have F9 := F8.on hb9
  have q9 := below_trans q8 hb9
  have own9 := own8.below hb9
  have ownN9 := ownN8.below hb9
  have own2 := Go.Proofs.YteoaaphjbggobaaGreat.Own.down own2 q8.size
  obtain ⟨A4, c4, rfl, _, _, _, _⟩ := own2.form Clk.enc_len
  clear cD At8 z2 y3 S8 F8 q8 own8 ownN8 hb9
  obtain ⟨CL, hCL⟩ : ∃ CL, (detX o.eta o.dark LL sh s2 n).1 = CL := ⟨_, rfl⟩
  rw [hCL] at own2 ⊢
  have HCL := Lib.hid hCL
  clear hCL
  obtain ⟨NL, hNL⟩ : ∃ NL, (carX l PL s1 n).2.2 = NL := ⟨_, rfl⟩
  rw [hNL] at ownN9 F9 ⊢
  have HNL := Lib.hid hNL
  clear hNL
  have y1 := F9.c1
  have f1 := F9.fr 1
  have F10 := F9.set1 (.slice A4 CL.length c4)
  have S10 := S9.grown (grown_setCell w9 F 1 (.slice A4 CL.length c4)) (fun k hk => by cases hk; exact hFO)
  have own10 := own_turn own9 F9 (by decide) (grown_setCell w9 F 1 (.slice A4 CL.length c4))
  have ownN10 := own_turn ownN9 F9 (by decide) (grown_setCell w9 F 1 (.slice A4 CL.length c4))
  have own210 := own_turn own2 F9 (by decide) (grown_setCell w9 F 1 (.slice A4 CL.length c4))
  have q10 : Below w.heap.size w (w9.setCell ⟨F, 1, none⟩ (.slice A4 CL.length c4)) := q9.setCell (p := ⟨F, 1, none⟩) (by show w.heap.size ≤ F; omega) _
  go_upto_region 15 with fail
  obtain ⟨W10, hW10⟩ : ∃ W10, w9.setCell ⟨F, 1, none⟩ (.slice A4 CL.length c4) = W10 := ⟨_, rfl⟩
  rw [hW10] at F10 S10 own10 ownN10 own210 q10 ⊢
  clear hW10 F9 S9 own9 ownN9 own2 q9 y1 f1
  have k0 := F10.c0; have k1 := F10.c1; have k2 := F10.c2; have k3 := F10.c3
  have r0 : W10.cell? ⟨w.heap.size + 1 + 1, 0, none⟩ = some (.slice none 0 0) := cell_of_row _ _ _ _ _ _ S10.r
  have r1 : W10.cell? ⟨w.heap.size + 1 + 1, 1, none⟩ = some (.slice none 0 0) := cell_of_row _ _ _ _ _ _ S10.r
  have r2 : W10.cell? ⟨w.heap.size + 1 + 1, 2, none⟩ = some (.slice none 0 0) := cell_of_row _ _ _ _ _ _ S10.r
  have r3 : W10.cell? ⟨w.heap.size + 1 + 1, 3, none⟩ = some (.int .i64 0) := cell_of_row _ _ _ _ _ _ S10.r
  have rf0 : W10.frozen? ⟨w.heap.size + 1 + 1, 0, none⟩ = false := frozen_of_row _ _ _ _ _ S10.r
  have rf1 : W10.frozen? ⟨w.heap.size + 1 + 1, 1, none⟩ = false := frozen_of_row _ _ _ _ _ S10.r
  have rf2 : W10.frozen? ⟨w.heap.size + 1 + 1, 2, none⟩ = false := frozen_of_row _ _ _ _ _ S10.r
  have rf3 : W10.frozen? ⟨w.heap.size + 1 + 1, 3, none⟩ = false := frozen_of_row _ _ _ _ _ S10.r
  have hG : W10.grownBy ((((W10.setCell ⟨w.heap.size + 1 + 1, 0, none⟩ (.slice A1 PL.length c1)).setCell ⟨w.heap.size + 1 + 1, 1, none⟩ (.slice A4 CL.length c4)).setCell ⟨w.heap.size + 1 + 1, 2, none⟩ (.slice A3 NL.length c3)).setCell ⟨w.heap.size + 1 + 1, 3, none⟩ (.int .i64 sh)) (some (w.heap.size + 1 + 1)) :=
    grown_trans (grown_trans (grown_trans (grown_setCell W10 _ _ _) (grown_setCell _ _ _ _)) (grown_setCell _ _ _ _)) (grown_setCell _ _ _ _)
  have o1 := own_turn own10 S10.r (by decide) hG
  have o2 := own_turn own210 S10.r (by decide) hG
  have o3 := own_turn ownN10 S10.r (by decide) hG
  have qq := q10.grown hG q10.size (fun k hk => by cases hk; omega)
  have g1 : FltAt (W10.setCell ⟨w.heap.size + 1 + 1, 0, none⟩ (.slice A1 PL.length c1)) (w.heap.size + 1 + 1) (.slice A1 PL.length c1) (.slice none 0 0) (.slice none 0 0) (.int .i64 0) := heap_setCell_same _ _ 0 _ _ _ S10.r
  have g4 := ((g1.set1 (.slice A4 CL.length c4)).set2 (.slice A3 NL.length c3)).set3 (.int .i64 sh)
  clear hG own10 own210 ownN10 q10 g1 S10 F10
  go_wp2_with fail
  (try simp only [Exit.inBlock, Exit.then])
  refine bodyPost_ret (v := .tuple #[.agg #[.slice A1 PL.length c1, .slice A4 CL.length c4, .slice A3 NL.length c3, .int .i64 sh], .int .i64 0]) ?_ rfl ⟨.slice A1 PL.length c1, .slice A4 CL.length c4, .slice A3 NL.length c3, by rw [Hsv.out], o1, (by rw [HLL.out, Hsv.out, HCL.out]; exact o2), (by rw [HNL.out]; exact o3), qq⟩
  rw [results_cell_tmp rfl]
  go_simp

end Go.Proofs.YteoaaphjbggobaaGreat
