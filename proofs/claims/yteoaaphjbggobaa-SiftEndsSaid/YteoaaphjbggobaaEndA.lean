/- What the stage's theorem calls: a transmission that is refused, the numbers from one on, a struct out of the front of another. No condition. -/
import Derived.Test.YteoaaphjbggobaaRunAll
import Derived.Test.YteoaaphjbggobaaAgeA
import Derived.Test.YteoaaphjbggobaaOptC
namespace Go.Proofs.Yteoaaphjbggobaa
open Go.RowKit
set_option linter.unusedVariables false
set_option linter.unusedSimpArgs false

theorem run_loadVar_sub {P : Program} (w : World) (g : Nat) (ty : TypeId) (cs : Array Value) (d : TypeDesc) (hc : ∀ j v, cs[j]? = some v → w.cell? ⟨g, j, none⟩ = some v)
    (hu : P.underlying ty = some d) (hd : (match d with | .struct _ | .array _ _ => true | _ => false) = true) (hi : (P.info? ty).map (·.size) = some cs.size) : (loadVar ty ⟨g, 0, none⟩).run P w = .ok (.agg cs) w := by
  have hl : (loadCells ⟨g, 0, none⟩ cs.toList.length).run P w = .ok cs.toList.toArray w :=
    run_loadCells_list (P := P) w ⟨g, 0, none⟩ cs.toList (fun j v hv => by
      have hadd : (⟨g, 0, none⟩ : Addr).add j = ⟨g, j, none⟩ := by unfold Addr.add; split <;> simp_all
      rw [hadd]
      exact hc j v (by simpa using hv))
  cases hq : P.info? ty with
  | none => simp [hq] at hi
  | some i =>
    have hs : i.size = cs.size := by simpa [hq] using hi
    have hagg : (isAgg ty).run P w = .ok true w := by
      unfold isAgg
      rw [Sem.run_bind, run_underlying hu w]
      cases d <;> simp_all
    simp only [Array.length_toList, Array.toArray_toList] at hl
    simp [loadVar, Sem.run_bind, hagg, sizeOf, typeInfo, hq, hs, hl]
theorem wpList_load_sub {P : Program} {ops : Array Oper} {rest : List Oper} {o : Oper} {a : Act} {w : World} {Q : Exit → Act → World → Prop} (hgd : o.guard = none) (ty : TypeId) (x : Operand) (ho : o.op = .load ty x)
    (g : Nat) (hx : a.eval x = .pointer (some ⟨g, 0, none⟩)) (cs : Array Value) (d : TypeDesc) (hc : ∀ j v, cs[j]? = some v → w.cell? ⟨g, j, none⟩ = some v)
    (hu : P.underlying ty = some d) (hd : (match d with | .struct _ | .array _ _ => true | _ => false) = true) (hi : (P.info? ty).map (·.size) = some cs.size)
    (h : wpList P ops Q rest (a.put o.dst (.agg cs)) w) : wpList P ops Q (o :: rest) a w :=
  wpList_plain hgd fun K hK => by
    unfold Oper.wp execOp
    simp only [ho, hx, Instr.loadAt, Instr.sureAddr, Sem.run_bind, Sem.run_pure, Result.andThen_ok, run_loadVar_sub w g ty cs d hc hu hd hi]
    exact hK _ _ h

set_option maxRecDepth 100000 in
set_option maxHeartbeats 4000000 in
theorem Run_no1 (o : Opt) (A : Option Addr) (cA : Nat) (l : List Rul) (n : Int) (s0 s1 s2 : Nat) (w : World) (ho : optB o = false) :
    Calls Try.prog 5 #[o.val, .slice A l.length cA, .int .i64 n, .agg #[.int .u64 s0, .int .u64 s1, .int .u64 s2]] w fun e w' => e = .returned (.tuple #[.agg #[.slice none 0 0, .slice none 0 0, .slice none 0 0, .int .i64 0], .int .i64 2]) ∧ Below w.heap.size w w' := by
  have S0 := RunS.new w s0 s1 s2 o
  have hb0 := below_alloc (below_alloc (below_alloc (Below.refl w.heap.size w) (.cells o.cs 26)) (.cells #[.int .u64 s0, .int .u64 s1, .int .u64 s2] 29)) (.cells #[.slice none 0 0, .slice none 0 0, .slice none 0 0, .int .i64 0] 36)
  have e0 : optE o = 2 := by unfold optE; rw [if_neg (by simp [ho])]
  unfold Opt.val Opt.cs at *
  clear ho
  go_enter Try.func5, Try.ntmps5
  go_upto_region 1 with fail
  obtain ⟨W0, hW0⟩ : ∃ W0, ((w.alloc (.cells #[.int .i64 o.k, .int .i64 o.c0, .int .i64 o.c1, .int .i64 o.c2, .int .i64 o.v0, .int .i64 o.v1, .int .i64 o.v2, .int .i64 o.v3, .int .i64 o.w0, .int .i64 o.w1, .int .i64 o.w2, .int .i64 o.w3, .int .i64 o.s0, .int .i64 o.s1, .int .i64 o.s2, .int .i64 o.s3, .int .i64 o.eta, .int .i64 o.dark] 26)).alloc (.cells #[.int .u64 s0, .int .u64 s1, .int .u64 s2] 29)).alloc (.cells #[.slice none 0 0, .slice none 0 0, .slice none 0 0, .int .i64 0] 36) = W0 := ⟨_, rfl⟩
  rw [hW0] at S0 hb0 ⊢
  clear hW0
  have At0 := Lib.hid S0.op
  have cC := oCheck_any o W0
  rw [e0] at cC
  unfold Opt.val Opt.cs at cC
  go_wp2_with (refine wpList_load_row rfl 26 _ rfl w.heap.size rfl 26 _ (0, 0) _ At0.out Try.underlying26 rfl (by kernel_rfl) ?_)
  refine cC.mono ?_
  rintro e w1 ⟨rfl, hb1⟩
  have S1 := S0.on hb1
  have q1 := below_trans hb0 hb1
  clear cC At0 S0 hb0 hb1 e0
  have r0 : w1.cell? ⟨w.heap.size + 1 + 1, 0, none⟩ = some (.slice none 0 0) := cell_of_row _ _ _ _ _ _ S1.r
  have r1 : w1.cell? ⟨w.heap.size + 1 + 1, 1, none⟩ = some (.slice none 0 0) := cell_of_row _ _ _ _ _ _ S1.r
  have r2 : w1.cell? ⟨w.heap.size + 1 + 1, 2, none⟩ = some (.slice none 0 0) := cell_of_row _ _ _ _ _ _ S1.r
  have r3 : w1.cell? ⟨w.heap.size + 1 + 1, 3, none⟩ = some (.int .i64 0) := cell_of_row _ _ _ _ _ _ S1.r
  have rf0 : w1.frozen? ⟨w.heap.size + 1 + 1, 0, none⟩ = false := frozen_of_row _ _ _ _ _ S1.r
  have rf1 : w1.frozen? ⟨w.heap.size + 1 + 1, 1, none⟩ = false := frozen_of_row _ _ _ _ _ S1.r
  have rf2 : w1.frozen? ⟨w.heap.size + 1 + 1, 2, none⟩ = false := frozen_of_row _ _ _ _ _ S1.r
  have rf3 : w1.frozen? ⟨w.heap.size + 1 + 1, 3, none⟩ = false := frozen_of_row _ _ _ _ _ S1.r
  have qq : ∀ v0 v1 v2 v3, Below w.heap.size w ((((w1.setCell ⟨w.heap.size + 1 + 1, 0, none⟩ v0).setCell ⟨w.heap.size + 1 + 1, 1, none⟩ v1).setCell ⟨w.heap.size + 1 + 1, 2, none⟩ v2).setCell ⟨w.heap.size + 1 + 1, 3, none⟩ v3) := fun v0 v1 v2 v3 => by
    have b0 := q1.setCell (p := ⟨w.heap.size + 1 + 1, 0, none⟩) (by simp; omega) v0
    have b1 := b0.setCell (p := ⟨w.heap.size + 1 + 1, 1, none⟩) (by simp; omega) v1
    have b2 := b1.setCell (p := ⟨w.heap.size + 1 + 1, 2, none⟩) (by simp; omega) v2
    exact b2.setCell (p := ⟨w.heap.size + 1 + 1, 3, none⟩) (by simp; omega) v3
  have Hq := Lib.hid qq
  clear qq S1
  go_wp2_with fail
  (try simp only [Exit.inBlock, Exit.then])
  refine bodyPost_ret (v := .tuple #[.agg #[.slice none 0 0, .slice none 0 0, .slice none 0 0, .int .i64 0], .int .i64 2]) ?_ rfl ⟨rfl, Hq.out _ _ _ _⟩
  rw [results_cell_tmp rfl]
  go_simp

set_option maxRecDepth 100000 in
set_option maxHeartbeats 4000000 in
theorem Run_no2 (o : Opt) (A : Option Addr) (cA : Nat) (l : List Rul) (n : Int) (s0 s1 s2 : Nat) (w : World) (ho : optB o = true) (hA : Arr 5 Rul.enc w w.heap.size A l) (hl : l.length ≤ 9223372036854775807) (hr : rulesE l ≠ 0) :
    Calls Try.prog 5 #[o.val, .slice A l.length cA, .int .i64 n, .agg #[.int .u64 s0, .int .u64 s1, .int .u64 s2]] w fun e w' => e = .returned (.tuple #[.agg #[.slice none 0 0, .slice none 0 0, .slice none 0 0, .int .i64 0], .int .i64 (rulesE l)]) ∧ Below w.heap.size w w' := by
  obtain ⟨E, hE⟩ : ∃ E, rulesE l = E := ⟨_, rfl⟩
  rw [hE] at hr ⊢
  have HE := Lib.hid hE
  have d1 : (E != 0) = true := by simpa using hr
  clear hE hr
  have S0 := RunS.new w s0 s1 s2 o
  have hb0 := below_alloc (below_alloc (below_alloc (Below.refl w.heap.size w) (.cells o.cs 26)) (.cells #[.int .u64 s0, .int .u64 s1, .int .u64 s2] 29)) (.cells #[.slice none 0 0, .slice none 0 0, .slice none 0 0, .int .i64 0] 36)
  have e0 : optE o = 0 := by unfold optE; rw [if_pos ho]
  unfold Opt.val Opt.cs at *
  clear ho
  go_enter Try.func5, Try.ntmps5
  go_upto_region 1 with fail
  obtain ⟨W0, hW0⟩ : ∃ W0, ((w.alloc (.cells #[.int .i64 o.k, .int .i64 o.c0, .int .i64 o.c1, .int .i64 o.c2, .int .i64 o.v0, .int .i64 o.v1, .int .i64 o.v2, .int .i64 o.v3, .int .i64 o.w0, .int .i64 o.w1, .int .i64 o.w2, .int .i64 o.w3, .int .i64 o.s0, .int .i64 o.s1, .int .i64 o.s2, .int .i64 o.s3, .int .i64 o.eta, .int .i64 o.dark] 26)).alloc (.cells #[.int .u64 s0, .int .u64 s1, .int .u64 s2] 29)).alloc (.cells #[.slice none 0 0, .slice none 0 0, .slice none 0 0, .int .i64 0] 36) = W0 := ⟨_, rfl⟩
  rw [hW0] at S0 hb0 ⊢
  clear hW0
  have At0 := Lib.hid S0.op
  have cC := oCheck_any o W0
  rw [e0] at cC
  unfold Opt.val Opt.cs at cC
  go_wp2_with (refine wpList_load_row rfl 26 _ rfl w.heap.size rfl 26 _ (0, 0) _ At0.out Try.underlying26 rfl (by kernel_rfl) ?_)
  refine cC.mono ?_
  rintro e w1 ⟨rfl, hb1⟩
  have S1 := S0.on hb1
  have q1 := below_trans hb0 hb1
  clear cC At0 S0 hb0 hb1 e0
  go_wp2_with fail
  have cR := oRules_any A cA l w1 (hA.on q1) hl
  rw [HE.out] at cR
  refine cR.mono ?_
  rintro e w2 ⟨rfl, hb2⟩
  have S2 := S1.on hb2
  have q2 := below_trans q1 hb2
  clear cR S1 q1 hb2
  have r0 : w2.cell? ⟨w.heap.size + 1 + 1, 0, none⟩ = some (.slice none 0 0) := cell_of_row _ _ _ _ _ _ S2.r
  have r1 : w2.cell? ⟨w.heap.size + 1 + 1, 1, none⟩ = some (.slice none 0 0) := cell_of_row _ _ _ _ _ _ S2.r
  have r2 : w2.cell? ⟨w.heap.size + 1 + 1, 2, none⟩ = some (.slice none 0 0) := cell_of_row _ _ _ _ _ _ S2.r
  have r3 : w2.cell? ⟨w.heap.size + 1 + 1, 3, none⟩ = some (.int .i64 0) := cell_of_row _ _ _ _ _ _ S2.r
  have rf0 : w2.frozen? ⟨w.heap.size + 1 + 1, 0, none⟩ = false := frozen_of_row _ _ _ _ _ S2.r
  have rf1 : w2.frozen? ⟨w.heap.size + 1 + 1, 1, none⟩ = false := frozen_of_row _ _ _ _ _ S2.r
  have rf2 : w2.frozen? ⟨w.heap.size + 1 + 1, 2, none⟩ = false := frozen_of_row _ _ _ _ _ S2.r
  have rf3 : w2.frozen? ⟨w.heap.size + 1 + 1, 3, none⟩ = false := frozen_of_row _ _ _ _ _ S2.r
  have qq : ∀ v0 v1 v2 v3, Below w.heap.size w ((((w2.setCell ⟨w.heap.size + 1 + 1, 0, none⟩ v0).setCell ⟨w.heap.size + 1 + 1, 1, none⟩ v1).setCell ⟨w.heap.size + 1 + 1, 2, none⟩ v2).setCell ⟨w.heap.size + 1 + 1, 3, none⟩ v3) := fun v0 v1 v2 v3 => by
    have b0 := q2.setCell (p := ⟨w.heap.size + 1 + 1, 0, none⟩) (by simp; omega) v0
    have b1 := b0.setCell (p := ⟨w.heap.size + 1 + 1, 1, none⟩) (by simp; omega) v1
    have b2 := b1.setCell (p := ⟨w.heap.size + 1 + 1, 2, none⟩) (by simp; omega) v2
    exact b2.setCell (p := ⟨w.heap.size + 1 + 1, 3, none⟩) (by simp; omega) v3
  have Hq := Lib.hid qq
  clear qq S2
  go_wp2_with fail
  (try simp only [Exit.inBlock, Exit.then])
  refine bodyPost_ret (v := .tuple #[.agg #[.slice none 0 0, .slice none 0 0, .slice none 0 0, .int .i64 0], .int .i64 E]) ?_ rfl ⟨rfl, Hq.out _ _ _ _⟩
  rw [results_cell_tmp rfl]
  go_simp

theorem sncL_step {l : List Int} {f : Int} {k : Nat} {x : Int} (h : l[k]? = some x) : sncL (l.take (k + 1)) f = sncL (l.take k) f ++ (if f ≤ x then [x] else []) := by
  unfold sncL
  rw [take_snoc h, List.filter_append]
  by_cases hx : f ≤ x
  · simp [hx]
  · simp [hx]
set_option maxRecDepth 100000 in
set_option maxHeartbeats 4000000 in
theorem since_any (A : Option Addr) (c : Nat) (l : List Int) (f : Int) (w : World) (hA : Arr 1 encI w w.heap.size A l) (hl : l.length ≤ 4096) :
    Calls Try.prog 13 #[.slice A l.length c, .int .i64 f] w fun e w' => ∃ v, e = .returned v ∧ Own w' w.heap.size 3 1 encI v (sncL l f) ∧ Below w.heap.size w w' := by
  obtain ⟨i0, hi, hz0, hz1, hz2⟩ := info_parts int_info7
  have Hi := Lib.hid hi; have Hz0 := Lib.hid hz0; have Hz1 := Lib.hid hz1; have Hz2 := Lib.hid hz2
  clear hi hz0 hz1 hz2
  go_enter Try.func13, Try.ntmps13
  go_wp2_with fail
  go_loopw [5, 6] (fun v i wr => ∃ k : Nat, k ≤ l.length ∧ i = .int .i64 k ∧ Own wr w.heap.size 3 1 encI v (sncL (l.take k) f) ∧ Below w.heap.size w wr) (fun _ i _ => l.length - (intOf i).toNat)
  case atStart => exact ⟨0, Nat.zero_le _, rfl, Own.nil, Below.refl _ _⟩
  case round =>
    obtain ⟨k, hk, rfl, ow, hb⟩ := hrel
    have hle : (sncL (l.take k) f).length ≤ 4096 := by have := sncL_le (l.take k) f; rw [List.length_take] at this; omega
    have hbs := hb.size
    rcases Nat.lt_or_ge k l.length with hlt | hge
    · obtain ⟨b, off, x, rfl, hbb, hx, c0⟩ := hA.int hlt hb
      have hst := Lib.hid (sncL_step (f := f) hx.out)
      have by1 : ((sncL (l.take k) f).length + 1) * 8 ≤ 140737488355328 := by omega
      by_cases hf : f ≤ x
      · have d1 : decide (f ≤ x) = true := decide_eq_true hf
        have hs2 : Hid (sncL (l.take (k + 1)) f = sncL (l.take k) f ++ [x]) := Lib.hid (by rw [hst.out, if_pos hf])
        clear hf hst hle
        go_wp2_with (at_builtin; refine wpList_snoc (g := wr.heap.size) rfl _ _ 43 rfl w.heap.size 3 i0 _ 1 8 Try.underlying43 Hi.out Hz0.out Hz1.out Hz2.out rfl (by decide) _ (sncL (l.take k) f) x #[.int .i64 x] 3 rfl ow rfl rfl rfl (encI_one _) by1 (by decide) hbs rfl ?_; intro v5 w5 own5 hb5)
        exact ⟨⟨k + 1, by omega, by go_num, by rw [hs2.out]; exact own5, hb.trans hb5⟩, by simp [intOf]; omega⟩
      · have d1 : decide (f ≤ x) = false := decide_eq_false hf
        have hs2 : Hid (sncL (l.take (k + 1)) f = sncL (l.take k) f) := Lib.hid (by rw [hst.out, if_neg hf]; simp)
        clear hf hst hle
        go_wp2_with fail
        exact ⟨⟨k + 1, by omega, by go_num, by rw [hs2.out]; exact ow, hb⟩, by simp [intOf]; omega⟩
    · obtain rfl : k = l.length := by omega
      rw [List.take_length] at ow
      go_wp2_with fail
      go_ret
      exact ⟨_, rfl, ow, hb⟩

end Go.Proofs.Yteoaaphjbggobaa
