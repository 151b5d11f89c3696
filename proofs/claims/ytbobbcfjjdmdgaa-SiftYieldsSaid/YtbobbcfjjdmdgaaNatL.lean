/- Contracts of exact's Bound for any numbers, of sift's Rate and Judge. For fractions of at most 900000 limbs. -/
import Derived.Test.YtbobbcfjjdmdgaaNatK
import Derived.Test.YtbobbcfjjdmdgaaChk
import Derived.Laws.ResultCell
namespace Go.Proofs.Ytbobbcfjjdmdgaa
open Go.RowKit
set_option linter.unusedVariables false
set_option linter.unusedSimpArgs false

theorem boundE1 {t s n : Int} {f : Frc} (h : validE [f] ≠ 0) : boundE t s n f = validE [f] ∧ boundI t s n f = 0 := by
  have e : boundE t s n f = validE [f] := by unfold boundE; rw [if_pos h]
  exact ⟨e, by unfold boundI; rw [e, if_neg h]⟩
theorem boundE2 {t s n : Int} {f : Frc} (h : validE [f] = 0) (h2 : ¬ (0 ≤ t ∧ t ≤ 512 ∧ 0 ≤ s ∧ s ≤ t ∧ 0 ≤ n ∧ n ≤ s)) : boundE t s n f = 3 ∧ boundI t s n f = 0 := by
  have e : boundE t s n f = 3 := by unfold boundE; rw [if_neg (by simp [h]), if_pos h2]
  exact ⟨e, by unfold boundI; rw [e]; rfl⟩
theorem boundE3 {t s n : Int} {f : Frc} (h : validE [f] = 0) (h2 : 0 ≤ t ∧ t ≤ 512 ∧ 0 ≤ s ∧ s ≤ t ∧ 0 ≤ n ∧ n ≤ s) (h3 : V f.m ≤ V f.l) : boundE t s n f = 2 ∧ boundI t s n f = 0 := by
  have e : boundE t s n f = 2 := by unfold boundE; rw [if_neg (by simp [h]), if_neg (by simp [h2]), if_pos h3]
  exact ⟨e, by unfold boundI; rw [e]; rfl⟩
theorem boundE4 {t s n : Int} {f : Frc} (h : validE [f] = 0) (h2 : 0 ≤ t ∧ t ≤ 512 ∧ 0 ≤ s ∧ s ≤ t ∧ 0 ≤ n ∧ n ≤ s) (h3 : ¬ V f.m ≤ V f.l) : boundE t s n f = 0 ∧ boundI t s n f = (bs (possB t.toNat s.toNat n.toNat (V f.l) (V f.m)) n.toNat t.toNat : Nat) := by
  have e : boundE t s n f = 0 := by unfold boundE; rw [if_neg (by simp [h]), if_neg (by simp [h2]), if_neg h3]
  exact ⟨e, by unfold boundI; rw [e]; rfl⟩

set_option maxRecDepth 100000 in
set_option maxHeartbeats 4000000 in
theorem Bound_any (t s n : Int) (f : Frc) (w : World) (hf : f.In w) :
    Calls Try.prog 165 #[.int .i64 t, .int .i64 s, .int .i64 n, f.val] w fun e w' => e = .returned (.tuple #[.int .i64 (boundI t s n f), .int .i64 (boundE t s n f)]) ∧ Below w.heap.size w w' := by
  by_cases h2 : 0 ≤ t ∧ t ≤ 512 ∧ 0 ≤ s ∧ s ≤ t ∧ 0 ≤ n ∧ n ≤ s
  · by_cases hv : validE [f] = 0
    · by_cases h3 : V f.m ≤ V f.l
      · obtain ⟨e1, e2⟩ := boundE3 hv h2 h3
        rw [e1, e2]
        have hb1 := below_alloc (below_alloc (below_alloc (below_alloc (Below.refl w.heap.size w) (.cells #[.int .i64 t] 3)) (.cells #[.int .i64 s] 3)) (.cells #[.int .i64 n] 3)) (.cells #[.slice f.A f.l.length f.c, .slice f.C f.m.length f.d] 39)
        have hb0 := below_alloc hb1 (.cells #[.slice f.A f.l.length f.c, .slice f.C f.m.length f.d] 39)
        have cV := valid_any (some ⟨w.heap.size + 1 + 1 + 1 + 1, 0, none⟩) 1 [f] _ (frc_lit ((((w.alloc (.cells #[.int .i64 t] 3)).alloc (.cells #[.int .i64 s] 3)).alloc (.cells #[.int .i64 n] 3)).alloc (.cells #[.slice f.A f.l.length f.c, .slice f.C f.m.length f.d] 39)) f (by simp)) (in_one hf hb0) (by simp)
        rw [List.length_singleton, hv] at cV
        obtain ⟨h2a, h2b, h2c, h2d, h2e, h2f⟩ := h2
        unfold Frc.val
        clear e1 e2
        go_enter Try.func165, Try.ntmps165
        go_wp2_with fail
        refine cV.mono ?_
        rintro e w3 ⟨rfl, hb3⟩
        have q3 := below_trans hb0 hb3
        have k0 : w3.cell? ⟨w.heap.size, 0, none⟩ = some (.int .i64 t) := bel_cell hb3 (by go_simp)
        have k1 : w3.cell? ⟨w.heap.size + 1, 0, none⟩ = some (.int .i64 s) := bel_cell hb3 (by go_simp)
        have k2 : w3.cell? ⟨w.heap.size + 1 + 1, 0, none⟩ = some (.int .i64 n) := bel_cell hb3 (by go_simp)
        have k3 : w3.cell? ⟨w.heap.size + 1 + 1 + 1, 0, none⟩ = some (.slice f.A f.l.length f.c) := bel_cell hb3 (by go_simp)
        have k4 : w3.cell? ⟨w.heap.size + 1 + 1 + 1, 1, none⟩ = some (.slice f.C f.m.length f.d) := bel_cell hb3 (by go_simp)
        have sz3 : w.heap.size + 1 + 1 + 1 + 1 < w3.heap.size := by have := hb3.size; simp at this; omega
        have sn : decide (0 ≤ t ∧ t ≤ 512 ∧ 0 ≤ s ∧ s ≤ t) = true := by simp; omega
        have fin := hf.on q3
        have cO := order_any f.A f.c f.l f.C f.d f.m w3 fin.n.arr fin.d.arr fin.n.len fin.n.cap fin.d.len fin.d.cap fin.n.dig fin.d.dig
        obtain ⟨cv, hcv, hcv0⟩ : ∃ cv, cmpI (V f.l) (V f.m) = cv ∧ 0 ≤ cv := ⟨_, rfl, by unfold cmpI; split <;> (try split) <;> omega⟩
        rw [hcv] at cO
        clear cV hv hcv
        go_wp2_with (first | (go_at_call 202; refine (sane_any _ _ _).mono ?_; rintro e w' ⟨rfl, rfl⟩; rw [sn]) | (go_at_call 55; refine (cO).mono ?_; rintro e w4 ⟨rfl, hb4⟩))
        go_ret2
        exact ⟨rfl, below_trans q3 hb4⟩
      · obtain ⟨e1, e2⟩ := boundE4 hv h2 h3
        rw [e1, e2]
        obtain ⟨a, rfl⟩ : ∃ a : Nat, t = a := ⟨t.toNat, by omega⟩
        obtain ⟨b, rfl⟩ : ∃ a : Nat, s = a := ⟨s.toNat, by omega⟩
        obtain ⟨c, rfl⟩ : ∃ a : Nat, n = a := ⟨n.toNat, by omega⟩
        exact Bound_main a b c f w hf (by omega) (by omega) (by omega) hv (by omega)
    · obtain ⟨e1, e2⟩ := boundE1 (t := t) (s := s) (n := n) hv
      rw [e1, e2]
      have hb1 := below_alloc (below_alloc (below_alloc (below_alloc (Below.refl w.heap.size w) (.cells #[.int .i64 t] 3)) (.cells #[.int .i64 s] 3)) (.cells #[.int .i64 n] 3)) (.cells #[.slice f.A f.l.length f.c, .slice f.C f.m.length f.d] 39)
      have hb0 := below_alloc hb1 (.cells #[.slice f.A f.l.length f.c, .slice f.C f.m.length f.d] 39)
      have cV := valid_any (some ⟨w.heap.size + 1 + 1 + 1 + 1, 0, none⟩) 1 [f] _ (frc_lit ((((w.alloc (.cells #[.int .i64 t] 3)).alloc (.cells #[.int .i64 s] 3)).alloc (.cells #[.int .i64 n] 3)).alloc (.cells #[.slice f.A f.l.length f.c, .slice f.C f.m.length f.d] 39)) f (by simp)) (in_one hf hb0) (by simp)
      rw [List.length_singleton] at cV
      have hv' : (validE [f] != 0) = true := by simpa using hv
      unfold Frc.val
      clear e1 e2 hv h2
      go_enter Try.func165, Try.ntmps165
      go_wp2_with fail
      refine cV.mono ?_
      rintro e w3 ⟨rfl, hb3⟩
      go_wp2_with fail
      go_ret2
      exact ⟨rfl, below_trans hb0 hb3⟩
  · by_cases hv : validE [f] = 0
    · obtain ⟨e1, e2⟩ := boundE2 hv h2
      rw [e1, e2]
      have hb1 := below_alloc (below_alloc (below_alloc (below_alloc (Below.refl w.heap.size w) (.cells #[.int .i64 t] 3)) (.cells #[.int .i64 s] 3)) (.cells #[.int .i64 n] 3)) (.cells #[.slice f.A f.l.length f.c, .slice f.C f.m.length f.d] 39)
      have hb0 := below_alloc hb1 (.cells #[.slice f.A f.l.length f.c, .slice f.C f.m.length f.d] 39)
      have cV := valid_any (some ⟨w.heap.size + 1 + 1 + 1 + 1, 0, none⟩) 1 [f] _ (frc_lit ((((w.alloc (.cells #[.int .i64 t] 3)).alloc (.cells #[.int .i64 s] 3)).alloc (.cells #[.int .i64 n] 3)).alloc (.cells #[.slice f.A f.l.length f.c, .slice f.C f.m.length f.d] 39)) f (by simp)) (in_one hf hb0) (by simp)
      rw [List.length_singleton, hv] at cV
      unfold Frc.val
      have hcase : decide (0 ≤ t ∧ t ≤ 512 ∧ 0 ≤ s ∧ s ≤ t) = false ∨ (decide (0 ≤ t ∧ t ≤ 512 ∧ 0 ≤ s ∧ s ≤ t) = true ∧ n < 0) ∨ (decide (0 ≤ t ∧ t ≤ 512 ∧ 0 ≤ s ∧ s ≤ t) = true ∧ 0 ≤ n ∧ s < n) := by
        simp only [decide_eq_true_eq, decide_eq_false_iff_not]; omega
      clear e1 e2 hv h2
      rcases hcase with sn | ⟨sn, hn⟩ | ⟨sn, hn, hn2⟩
      all_goals (
        go_enter Try.func165, Try.ntmps165
        go_wp2_with fail
        refine cV.mono ?_
        rintro e w3 ⟨rfl, hb3⟩
        have q3 := below_trans hb0 hb3
        have k0 : w3.cell? ⟨w.heap.size, 0, none⟩ = some (.int .i64 t) := bel_cell hb3 (by go_simp)
        have k1 : w3.cell? ⟨w.heap.size + 1, 0, none⟩ = some (.int .i64 s) := bel_cell hb3 (by go_simp)
        have k2 : w3.cell? ⟨w.heap.size + 1 + 1, 0, none⟩ = some (.int .i64 n) := bel_cell hb3 (by go_simp)
        go_wp2_with (go_at_call 202; refine (sane_any _ _ _).mono ?_; rintro e w' ⟨rfl, rfl⟩; rw [sn])
        go_ret2
        exact ⟨rfl, q3⟩)
    · obtain ⟨e1, e2⟩ := boundE1 (t := t) (s := s) (n := n) hv
      rw [e1, e2]
      have hb1 := below_alloc (below_alloc (below_alloc (below_alloc (Below.refl w.heap.size w) (.cells #[.int .i64 t] 3)) (.cells #[.int .i64 s] 3)) (.cells #[.int .i64 n] 3)) (.cells #[.slice f.A f.l.length f.c, .slice f.C f.m.length f.d] 39)
      have hb0 := below_alloc hb1 (.cells #[.slice f.A f.l.length f.c, .slice f.C f.m.length f.d] 39)
      have cV := valid_any (some ⟨w.heap.size + 1 + 1 + 1 + 1, 0, none⟩) 1 [f] _ (frc_lit ((((w.alloc (.cells #[.int .i64 t] 3)).alloc (.cells #[.int .i64 s] 3)).alloc (.cells #[.int .i64 n] 3)).alloc (.cells #[.slice f.A f.l.length f.c, .slice f.C f.m.length f.d] 39)) f (by simp)) (in_one hf hb0) (by simp)
      rw [List.length_singleton] at cV
      have hv' : (validE [f] != 0) = true := by simpa using hv
      unfold Frc.val
      clear e1 e2 hv h2
      go_enter Try.func165, Try.ntmps165
      go_wp2_with fail
      refine cV.mono ?_
      rintro e w3 ⟨rfl, hb3⟩
      go_wp2_with fail
      go_ret2
      exact ⟨rfl, below_trans hb0 hb3⟩

theorem blk_new {w y : World} {cs : Array Value} {T : TypeId} (h : Below (w.alloc (.cells cs T)).heap.size (w.alloc (.cells cs T)) y) {g : Nat} (hg : g = w.heap.size) {j : Nat} {v : Value} (hj : cs[j]? = some v) : y.cell? ⟨g, j, none⟩ = some v ∧ y.frozen? ⟨g, j, none⟩ = false := by
  subst hg
  exact ⟨bel_cell h (new_cell hj), (h.frozen (p := ⟨w.heap.size, j, none⟩) (by simp)).trans (World.frozen?_alloc_at _ _ _ _ rfl)⟩
def zero5 : Value := .agg #[.int .i64 0, .int .i64 0, .int .i64 0, .int .i64 0, .int .i64 0]
/-- The estimate. -/
def rateV (t s n : Int) (f : Frc) : Value := if boundE t s n f = 0 then .agg #[.int .i64 t, .int .i64 s, .int .i64 n, .int .i64 (boundI t s n f), .int .i64 (boundI t s n f - n)] else zero5

theorem bound_ok {t s n : Int} {f : Frc} (h : boundE t s n f = 0) : 0 ≤ n ∧ n ≤ boundI t s n f ∧ boundI t s n f ≤ t ∧ t ≤ 512 := by
  have h1 : validE [f] = 0 := by
    refine Classical.byContradiction fun h1 => ?_
    rw [(boundE1 h1).1] at h; exact h1 h
  have h2 : 0 ≤ t ∧ t ≤ 512 ∧ 0 ≤ s ∧ s ≤ t ∧ 0 ≤ n ∧ n ≤ s := by
    refine Classical.byContradiction fun h2 => ?_
    rw [(boundE2 h1 h2).1] at h; cases h
  have h3 : ¬ V f.m ≤ V f.l := fun h3 => by rw [(boundE3 h1 h2 h3).1] at h; cases h
  rw [(boundE4 h1 h2 h3).2]
  have := bs_between (p := possB t.toNat s.toNat n.toNat (V f.l) (V f.m)) (lo := n.toNat) (hi := t.toNat) (by omega)
  omega

set_option maxRecDepth 100000 in
set_option maxHeartbeats 2000000 in
theorem Rate_any (t s n : Int) (f : Frc) (w : World) (hf : f.In w) :
    Calls Try.prog 105 #[.int .i64 t, .int .i64 s, .int .i64 n, f.val] w fun e w' => e = .returned (.tuple #[rateV t s n f, .int .i64 (boundE t s n f)]) ∧ Below w.heap.size w w' := by
  have hb0 := below_alloc (below_alloc (Below.refl w.heap.size w) (.cells #[.slice f.A f.l.length f.c, .slice f.C f.m.length f.d] 39)) (.cells #[.int .i64 0, .int .i64 0, .int .i64 0, .int .i64 0, .int .i64 0] 104)
  have cB := Bound_any t s n f _ (hf.on hb0)
  unfold Frc.val at *
  by_cases h0 : boundE t s n f = 0
  · have hr : Hid (rateV t s n f = .agg #[.int .i64 t, .int .i64 s, .int .i64 n, .int .i64 (boundI t s n f), .int .i64 (boundI t s n f - n)]) := Lib.hid (by unfold rateV; rw [if_pos h0])
    have hbn := bound_ok h0
    rw [h0] at cB ⊢
    rw [hr.out]
    generalize boundI t s n f = b at *
    have e1 : wrap64 (b - n) = b - n := IntWalk.wrap64_in _ (by omega)
    clear h0 hbn
    go_enter Try.func105, Try.ntmps105
    go_wp2_with fail
    refine cB.mono ?_
    rintro e w3 ⟨rfl, hb3⟩
    have f0 := blk_new hb3 (g := w.heap.size + 1) (by simp) (j := 0) rfl
    have f1 := blk_new hb3 (g := w.heap.size + 1) (by simp) (j := 1) rfl
    have f2 := blk_new hb3 (g := w.heap.size + 1) (by simp) (j := 2) rfl
    have f3 := blk_new hb3 (g := w.heap.size + 1) (by simp) (j := 3) rfl
    have f4 := blk_new hb3 (g := w.heap.size + 1) (by simp) (j := 4) rfl
    go_wp2_with fail
    (try simp only [Exit.inBlock, Exit.then])
    refine bodyPost_ret (v := .tuple #[.agg #[.int .i64 t, .int .i64 s, .int .i64 n, .int .i64 b, .int .i64 (b - n)], .int .i64 0]) ?_ rfl ⟨rfl, ?_⟩
    · rw [results_cell_tmp rfl]
      go_simp
    · exact (((((below_trans hb0 hb3).setCell (Nat.le_succ _) _).setCell (Nat.le_succ _) _).setCell (Nat.le_succ _) _).setCell (Nat.le_succ _) _).setCell (Nat.le_succ _) _
  · have hr : Hid (rateV t s n f = zero5) := Lib.hid (by unfold rateV; rw [if_neg h0])
    have h0' : (boundE t s n f != 0) = true := by simpa using h0
    have hi : boundI t s n f = 0 := by unfold boundI; rw [if_neg h0]
    rw [hi] at cB
    rw [hr.out]
    clear h0 hi
    go_enter Try.func105, Try.ntmps105
    go_wp2_with fail
    refine cB.mono ?_
    rintro e w3 ⟨rfl, hb3⟩
    have f0 := blk_new hb3 (g := w.heap.size + 1) (by simp) (j := 0) rfl
    have f1 := blk_new hb3 (g := w.heap.size + 1) (by simp) (j := 1) rfl
    have f2 := blk_new hb3 (g := w.heap.size + 1) (by simp) (j := 2) rfl
    have f3 := blk_new hb3 (g := w.heap.size + 1) (by simp) (j := 3) rfl
    have f4 := blk_new hb3 (g := w.heap.size + 1) (by simp) (j := 4) rfl
    go_wp2_with fail
    (try simp only [Exit.inBlock, Exit.then])
    refine bodyPost_ret (v := .tuple #[zero5, .int .i64 (boundE t s n f)]) ?_ rfl ⟨rfl, ?_⟩
    · rw [results_cell_tmp rfl]
      unfold zero5
      go_simp
    · exact (((((below_trans hb0 hb3).setCell (Nat.le_succ _) _).setCell (Nat.le_succ _) _).setCell (Nat.le_succ _) _).setCell (Nat.le_succ _) _).setCell (Nat.le_succ _) _

theorem whole_any (n : Nat) (w : World) (hn : n ≤ 9223372036854775807) :
    Calls Try.prog 60 #[.int .i64 (n : Int)] w fun e w' => ∃ v, e = .returned v ∧ Big w' w.heap.size v n ∧ Below w.heap.size w w' := by
  have e1 : IntKind.u64.wrap (n : Int) = (n : Int) := wrapU rfl (by omega)
  have cO := Of_any n w (by omega)
  go_enter Try.func60, Try.ntmps60
  go_wp2_with (go_at_call 14; refine cO.mono ?_; rintro e w5 ⟨v, rfl, bR, hb5⟩)
  go_ret
  exact ⟨_, rfl, bR, hb5⟩

/-- The verdict: the error of a limit, or of the numbers, or 18. -/
def judgeE (s n : Int) (f : Frc) : Int := if validE [f] ≠ 0 then validE [f] else if ¬ (0 ≤ s ∧ s ≤ 512 ∧ 0 ≤ n ∧ n ≤ s) then 3 else if s = 0 then 0 else if V f.l * s.toNat < n.toNat * V f.m then 18 else 0

end Go.Proofs.Ytbobbcfjjdmdgaa
