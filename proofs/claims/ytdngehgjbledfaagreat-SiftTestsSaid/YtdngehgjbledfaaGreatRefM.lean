/- Contracts of the reference's Bound for any numbers, Rate and Judge. For a fraction of at most 900000 limbs. -/
import Derived.Test.YtdngehgjbledfaaGreatRefL
import Derived.Test.YtdngehgjbledfaaGreatRefChk
namespace Go.Proofs.YtdngehgjbledfaaGreat
open Go.RowKit
set_option linter.unusedVariables false
set_option linter.unusedSimpArgs false

set_option maxRecDepth 100000 in
set_option maxHeartbeats 4000000 in
theorem rBound_any (t s n : Int) (f : Frc) (w : World) (hf : f.In w) :
    Calls Tryz.prog 39 #[.int .i64 t, .int .i64 s, .int .i64 n, f.val] w fun e w' => e = .returned (.tuple #[.int .i64 (boundI t s n f), .int .i64 (boundE t s n f)]) ∧ Below w.heap.size w w' := by
  have hb0 := below_alloc (Below.refl w.heap.size w) (.cells #[.slice f.A f.l.length f.c, .slice f.C f.m.length f.d] 29)
  have cC := rCheckFrac_any f _ (hf.on hb0)
  by_cases hv : validE [f] = 0
  · by_cases h2 : 0 ≤ t ∧ t ≤ 512 ∧ 0 ≤ s ∧ s ≤ t ∧ 0 ≤ n ∧ n ≤ s
    · by_cases h3 : V f.m ≤ V f.l
      · obtain ⟨e1, e2⟩ := boundE3 hv h2 h3
        rw [e1, e2]
        obtain ⟨s1, s2⟩ := short1 hv
        have lfl : (dg (V f.l)).length ≤ 256 := dg_limbs_len hf.n.dig (by omega)
        have lfm : (dg (V f.m)).length ≤ 256 := dg_limbs_len hf.d.dig (by omega)
        rw [hv] at cC
        obtain ⟨h2a, h2b, h2c, h2d, h2e, h2f⟩ := h2
        unfold Frc.val at *
        clear e1 e2
        go_enter Tryz.func39, Tryz.ntmps39
        go_wp2_with fail
        refine cC.mono ?_
        rintro e w3 ⟨rfl, hb3⟩
        have q3 := below_trans hb0 hb3
        have k0' : w3.cell? ⟨w.heap.size, 0, none⟩ = some (.slice f.A f.l.length f.c) := (blk_new hb3 rfl (j := 0) rfl).1
        have k1' : w3.cell? ⟨w.heap.size, 1, none⟩ = some (.slice f.C f.m.length f.d) := (blk_new hb3 rfl (j := 1) rfl).1
        have L0 := fun w' (hb : Below w3.heap.size w3 w') => bel_cell hb k0'
        have L1 := fun w' (hb : Below w3.heap.size w3 w') => bel_cell hb k1'
        have c1 := fun w' (hb : Below w3.heap.size w3 w') => digits_any f.A f.c f.l w' (hf.on (below_trans q3 hb)).n (by omega)
        have c2 := fun w' (hb : Below w3.heap.size w3 w') => digits_any f.C f.d f.m w' (hf.on (below_trans q3 hb)).d (by omega)
        have c3 := fun w' A c A' c' (h1 : Dn w' A c (dg (V f.l))) (h2 : Dn w' A' c' (dg (V f.m))) => rcmp_any A c _ A' c' _ w' h1 h2 (by omega) (by omega)
        obtain ⟨cv, hcv, hcv0⟩ : ∃ cv, cmpI (V f.l) (V f.m) = cv ∧ 0 ≤ cv := ⟨_, rfl, by unfold cmpI; split <;> (try split) <;> omega⟩
        rw [hcv] at c3
        clear cC hv hcv
        go_wp2_with fail
        go_region_held3 (fun w' => Below w3.heap.size w3 w')
          (first | (exact (Below.refl _ _).drew) | (refine below_trans ?_ hx1; assumption) | (refine below_trans ?_ hx2; assumption) | (refine below_trans ?_ hx3; assumption))
          (first | (go_at_call 63; refine Calls.on (args' := #[.slice f.A f.l.length f.c]) rfl ?_; refine (c1 _ ?hB).mono ?_; (case hB => assumption); rintro e y1 ⟨v1, rfl, b1, hx1⟩; obtain ⟨A1, e1, hv1, n1⟩ := b1.dn; rw [hv1]) | (go_at_call 63; refine Calls.on (args' := #[.slice f.C f.m.length f.d]) rfl ?_; refine (c2 _ ?hB).mono ?_; (case hB => assumption); rintro e y2 ⟨v2, rfl, b2, hx2⟩; obtain ⟨A2, e2, hv2, n2⟩ := b2.dn; rw [hv2]) | (go_at_call 62; refine (c3 _ _ _ _ _ (n1.on hx2) n2).mono ?_; rintro e y3 ⟨rfl, hx3⟩))
        go_wp2_with fail
        go_ret2
        exact ⟨rfl, below_trans q3 (below_trans (below_trans (below_trans (Below.refl _ _).drew hx1) hx2) hx3)⟩
      · obtain ⟨e1, e2⟩ := boundE4 hv h2 h3
        rw [e1, e2]
        obtain ⟨a, rfl⟩ : ∃ a : Nat, t = a := ⟨t.toNat, by omega⟩
        obtain ⟨b, rfl⟩ : ∃ a : Nat, s = a := ⟨s.toNat, by omega⟩
        obtain ⟨c, rfl⟩ : ∃ a : Nat, n = a := ⟨n.toNat, by omega⟩
        exact rBound_main a b c f w hf (by omega) (by omega) (by omega) hv (by omega)
    · obtain ⟨e1, e2⟩ := boundE2 hv h2
      rw [e1, e2]
      rw [hv] at cC
      unfold Frc.val at *
      have hcase : t < 0 ∨ (0 ≤ t ∧ 512 < t) ∨ (0 ≤ t ∧ t ≤ 512 ∧ s < 0) ∨ (0 ≤ t ∧ t ≤ 512 ∧ 0 ≤ s ∧ t < s) ∨ (0 ≤ t ∧ t ≤ 512 ∧ 0 ≤ s ∧ s ≤ t ∧ n < 0) ∨ (0 ≤ t ∧ t ≤ 512 ∧ 0 ≤ s ∧ s ≤ t ∧ 0 ≤ n ∧ s < n) := by omega
      clear e1 e2 hv h2
      rcases hcase with h | ⟨h, h'⟩ | ⟨h, h', h''⟩ | ⟨h, h', h'', h3⟩ | ⟨h, h', h'', h3, h4⟩ | ⟨h, h', h'', h3, h4, h5⟩
      all_goals (
        go_enter Tryz.func39, Tryz.ntmps39
        go_wp2_with fail
        refine cC.mono ?_
        rintro e w3 ⟨rfl, hb3⟩
        go_wp2_with fail
        go_ret2
        exact ⟨rfl, below_trans hb0 hb3⟩)
  · obtain ⟨e1, e2⟩ := boundE1 (t := t) (s := s) (n := n) hv
    rw [e1, e2]
    have hv' : (validE [f] != 0) = true := by simpa using hv
    unfold Frc.val at *
    clear e1 e2 hv
    go_enter Tryz.func39, Tryz.ntmps39
    go_wp2_with fail
    refine cC.mono ?_
    rintro e w3 ⟨rfl, hb3⟩
    go_wp2_with fail
    go_ret2
    exact ⟨rfl, below_trans hb0 hb3⟩

set_option maxRecDepth 100000 in
set_option maxHeartbeats 2000000 in
theorem rRate_any (t s n : Int) (f : Frc) (w : World) (hf : f.In w) :
    Calls Tryz.prog 20 #[.int .i64 t, .int .i64 s, .int .i64 n, f.val] w fun e w' => e = .returned (.tuple #[rateV t s n f, .int .i64 (boundE t s n f)]) ∧ Below w.heap.size w w' := by
  have hb0 := below_alloc (below_alloc (Below.refl w.heap.size w) (.cells #[.slice f.A f.l.length f.c, .slice f.C f.m.length f.d] 29)) (.cells #[.int .i64 0, .int .i64 0, .int .i64 0, .int .i64 0, .int .i64 0] 33)
  have cB := rBound_any t s n f _ (hf.on hb0)
  unfold Frc.val at *
  by_cases h0 : boundE t s n f = 0
  · have hr : Hid (rateV t s n f = .agg #[.int .i64 t, .int .i64 s, .int .i64 n, .int .i64 (boundI t s n f), .int .i64 (boundI t s n f - n)]) := Lib.hid (by unfold rateV; rw [if_pos h0])
    have hbn := bound_ok h0
    rw [h0] at cB ⊢
    rw [hr.out]
    generalize boundI t s n f = b at *
    have e1 : wrap64 (b - n) = b - n := IntWalk.wrap64_in _ (by omega)
    clear h0 hbn
    go_enter Tryz.func20, Tryz.ntmps20
    go_wp2_with fail
    refine cB.mono ?_
    rintro e w3 ⟨rfl, hb3⟩
    have f0 := blk_new hb3 (g := w.heap.size + 1) (by simp) (j := 0) rfl
    have f1 := blk_new hb3 (g := w.heap.size + 1) (by simp) (j := 1) rfl
    have f2 := blk_new hb3 (g := w.heap.size + 1) (by simp) (j := 2) rfl
    have f3 := blk_new hb3 (g := w.heap.size + 1) (by simp) (j := 3) rfl
    have f4 := blk_new hb3 (g := w.heap.size + 1) (by simp) (j := 4) rfl
    go_wp2_with fail
    (try simp only [Exit.inBlock, Exit.then])
    refine bodyPost_ret (v := .tuple #[.agg #[.int .i64 t, .int .i64 s, .int .i64 n, .int .i64 b, .int .i64 (b - n)], .int .i64 0]) ?_ rfl ⟨rfl, ?_⟩
    · rw [results_cell_tmp rfl]
      go_simp
    · exact (((((below_trans hb0 hb3).setCell (Nat.le_succ _) _).setCell (Nat.le_succ _) _).setCell (Nat.le_succ _) _).setCell (Nat.le_succ _) _).setCell (Nat.le_succ _) _
  · have hr : Hid (rateV t s n f = zero5) := Lib.hid (by unfold rateV; rw [if_neg h0])
    have h0' : (boundE t s n f != 0) = true := by simpa using h0
    have hi : boundI t s n f = 0 := by unfold boundI; rw [if_neg h0]
    rw [hi] at cB
    rw [hr.out]
    clear h0 hi
    go_enter Tryz.func20, Tryz.ntmps20
    go_wp2_with fail
    refine cB.mono ?_
    rintro e w3 ⟨rfl, hb3⟩
    have f0 := blk_new hb3 (g := w.heap.size + 1) (by simp) (j := 0) rfl
    have f1 := blk_new hb3 (g := w.heap.size + 1) (by simp) (j := 1) rfl
    have f2 := blk_new hb3 (g := w.heap.size + 1) (by simp) (j := 2) rfl
    have f3 := blk_new hb3 (g := w.heap.size + 1) (by simp) (j := 3) rfl
    have f4 := blk_new hb3 (g := w.heap.size + 1) (by simp) (j := 4) rfl
    go_wp2_with fail
    (try simp only [Exit.inBlock, Exit.then])
    refine bodyPost_ret (v := .tuple #[zero5, .int .i64 (boundE t s n f)]) ?_ rfl ⟨rfl, ?_⟩
    · rw [results_cell_tmp rfl]
      unfold zero5
      go_simp
    · exact (((((below_trans hb0 hb3).setCell (Nat.le_succ _) _).setCell (Nat.le_succ _) _).setCell (Nat.le_succ _) _).setCell (Nat.le_succ _) _).setCell (Nat.le_succ _) _

set_option maxRecDepth 100000 in
set_option maxHeartbeats 4000000 in
theorem rJudge_any (s n : Int) (f : Frc) (w : World) (hf : f.In w) :
    Calls Tryz.prog 21 #[.int .i64 s, .int .i64 n, f.val] w fun e w' => e = .returned (.int .i64 (judgeE s n f)) ∧ Below w.heap.size w w' := by
  have hb0 := below_alloc (Below.refl w.heap.size w) (.cells #[.slice f.A f.l.length f.c, .slice f.C f.m.length f.d] 29)
  have cC := fun w' (hb : Below w.heap.size w w') => rCheckFrac_any f w' (hf.on hb)
  unfold Frc.val at *
  by_cases hv : validE [f] = 0
  · simp only [hv] at cC
    by_cases h2 : 0 ≤ s ∧ s ≤ 512 ∧ 0 ≤ n ∧ n ≤ s
    · have b1 : betwB s 0 512 = true := by simp [betwB]; omega
      have b2 : betwB n 0 s = true := by simp [betwB]; omega
      by_cases h3 : s = 0
      · rw [judgeE3 hv h2 h3]
        subst h3
        go_enter Tryz.func21, Tryz.ntmps21
        go_wp2_with (first | (go_at_call 40; refine (cC _ hb0).mono ?_; rintro e w3 ⟨rfl, hb3⟩) | (go_at_call 37; refine (within_any _ _ _).mono ?_; rintro e w' ⟨rfl, rfl⟩; (first | rw [b1] | rw [b2])))
        go_ret
        exact ⟨rfl, below_trans hb0 hb3⟩
      · rw [judgeE4 hv h2 h3]
        obtain ⟨S, rfl⟩ : ∃ a : Nat, s = a := ⟨s.toNat, by omega⟩
        obtain ⟨N, rfl⟩ : ∃ a : Nat, n = a := ⟨n.toNat, by omega⟩
        simp only [Int.toNat_natCast]
        obtain ⟨J, hJ⟩ : ∃ J : Int, (if V f.l * S < N * V f.m then (18 : Int) else 0) = J := ⟨_, rfl⟩
        rw [hJ]
        have HJ := Lib.hid hJ
        have hS : 0 < S := by omega
        have hS2 : S ≤ 512 := by omega
        have hN : N ≤ S := by omega
        have hs0 : ((S : Int) == 0) = false := by simp; omega
        have u1 : IntKind.u64.wrap (N : Int) = (N : Int) := wrapU rfl (by omega)
        have u2 : IntKind.u64.wrap (S : Int) = (S : Int) := wrapU rfl (by omega)
        clear h2 h3 hJ
        go_enter Tryz.func21, Tryz.ntmps21
        go_wp2_with (first | (go_at_call 40; refine (cC _ hb0).mono ?_; rintro e w3 ⟨rfl, hb3⟩) | (go_at_call 37; refine (within_any _ _ _).mono ?_; rintro e w' ⟨rfl, rfl⟩; (first | rw [b1] | rw [b2])))
        have q3 := below_trans hb0 hb3
        have k0 : w3.cell? ⟨w.heap.size, 0, none⟩ = some (.slice f.A f.l.length f.c) := (blk_new hb3 rfl (j := 0) rfl).1
        have k1 : w3.cell? ⟨w.heap.size, 1, none⟩ = some (.slice f.C f.m.length f.d) := (blk_new hb3 rfl (j := 1) rfl).1
        have L0 := fun w' (hb : Below w3.heap.size w3 w') => bel_cell hb k0
        have L1 := fun w' (hb : Below w3.heap.size w3 w') => bel_cell hb k1
        have c1 := fun w' => rOf_any N w' (by omega)
        have c2 := fun w' => rOf_any S w' (by omega)
        have l1 := limbs_small (n := N) (by omega)
        have l2 := limbs_small (n := S) (by omega)
        have c3 := fun w' (hb : Below w3.heap.size w3 w') A1 cc1 A2 cc2 (n1 : Nt w' A1 cc1 (limbs N)) (n2 : Nt w' A2 cc2 (limbs S)) => rFracCompare_any ⟨A1, cc1, limbs N, A2, cc2, limbs S⟩ f w' ⟨n1, n2⟩ (hf.on (below_trans q3 hb))
        have ev : ∀ A1 cc1 A2 cc2, validE [⟨A1, cc1, limbs N, A2, cc2, limbs S⟩, f] = 0 := fun A1 cc1 A2 cc2 => by
          obtain ⟨g1, g2⟩ := validE_zero.1 hv
          refine validE_zero.2 ⟨?_, ?_⟩
          · simp at g1 ⊢
            refine ⟨?_, g1⟩
            unfold Frc.lng
            simp; omega
          · simp at g2 ⊢
            refine ⟨?_, g2⟩
            unfold Frc.zro
            simp [V_limbs]; omega
        have ec : ∀ A1 cc1 A2 cc2, fcmpI ⟨A1, cc1, limbs N, A2, cc2, limbs S⟩ f = cmpI (N * V f.m) (V f.l * S) := fun A1 cc1 A2 cc2 => by
          unfold fcmpI; rw [if_pos (ev _ _ _ _), V_limbs, V_limbs]
        simp only [ev, ec] at c3
        unfold Frc.val at c3
        clear ev ec cC
        go_region_held3 (fun w' => Below w3.heap.size w3 w')
          (first | (exact (Below.refl _ _).drew) | (refine below_trans ?_ hx1; assumption) | (refine below_trans ?_ hx2; assumption) | (refine below_trans ?_ hx3; assumption))
          (first | (go_at_call 42; refine Calls.on (args' := #[.int .u64 (N : Int)]) rfl ?_; refine (c1 _).mono ?_; rintro e y1 ⟨v1, rfl, b1, hx1⟩; obtain ⟨A1, cc1, hv1, n1⟩ := b1.nt; rw [hv1]) | (go_at_call 42; refine Calls.on (args' := #[.int .u64 (S : Int)]) rfl ?_; refine (c2 _).mono ?_; rintro e y2 ⟨v2, rfl, b2, hx2⟩; obtain ⟨A2, cc2, hv2, n2⟩ := b2.nt; rw [hv2]) | (go_at_call 41; refine (c3 _ ?hB _ _ _ _ (n1.on hx2) n2).mono ?_; (case hB => assumption); rintro e y3 ⟨rfl, hx3⟩))
        have q9 := below_trans q3 (below_trans (below_trans (below_trans (Below.refl _ _).drew hx1) hx2) hx3)
        clear L0 L1 c1 c2 c3
        rcases Nat.lt_or_ge (V f.l * S) (N * V f.m) with hlt | hge
        · rw [cmpI_gt hlt]
          have Hlt := Lib.hid hlt
          clear hlt
          go_wp2_with fail
          go_ret
          exact ⟨ret_int (by rw [← HJ.out, if_pos Hlt.out]), q9⟩
        · obtain ⟨cv, hcv, hcv0⟩ : ∃ cv, cmpI (N * V f.m) (V f.l * S) = cv ∧ cv ≤ 0 := ⟨_, rfl, by unfold cmpI; split <;> (try split) <;> omega⟩
          rw [hcv]
          have Hge := Lib.hid hge
          clear hge hcv
          go_wp2_with fail
          go_ret
          exact ⟨ret_int (by rw [← HJ.out, if_neg (Nat.not_lt.2 Hge.out)]), q9⟩
    · rw [judgeE2 hv h2]
      by_cases h3 : 0 ≤ s ∧ s ≤ 512
      · have b1 : betwB s 0 512 = true := by simp [betwB]; omega
        have b2 : betwB n 0 s = false := by simp [betwB]; omega
        go_enter Tryz.func21, Tryz.ntmps21
        go_wp2_with (first | (go_at_call 40; refine (cC _ hb0).mono ?_; rintro e w3 ⟨rfl, hb3⟩) | (go_at_call 37; refine (within_any _ _ _).mono ?_; rintro e w' ⟨rfl, rfl⟩; (first | rw [b1] | rw [b2])))
        go_ret
        exact ⟨rfl, below_trans hb0 hb3⟩
      · have b1 : betwB s 0 512 = false := by simp [betwB]; omega
        go_enter Tryz.func21, Tryz.ntmps21
        go_wp2_with (first | (go_at_call 40; refine (cC _ hb0).mono ?_; rintro e w3 ⟨rfl, hb3⟩) | (go_at_call 37; refine (within_any _ _ _).mono ?_; rintro e w' ⟨rfl, rfl⟩; rw [b1]))
        go_ret
        exact ⟨rfl, below_trans hb0 hb3⟩
  · rw [judgeE1 hv]
    have hv' : (validE [f] != 0) = true := by simpa using hv
    clear hv
    go_enter Tryz.func21, Tryz.ntmps21
    go_wp2_with fail
    refine (cC _ hb0).mono ?_
    rintro e w3 ⟨rfl, hb3⟩
    have k0 : w3.cell? ⟨w.heap.size, 0, none⟩ = some (.slice f.A f.l.length f.c) := (blk_new hb3 rfl (j := 0) rfl).1
    have k1 : w3.cell? ⟨w.heap.size, 1, none⟩ = some (.slice f.C f.m.length f.d) := (blk_new hb3 rfl (j := 1) rfl).1
    have q3 := below_trans hb0 hb3
    go_wp2_with fail
    refine (cC _ q3).mono ?_
    rintro e w4 ⟨rfl, hb4⟩
    go_wp2_with fail
    go_ret
    exact ⟨rfl, below_trans q3 hb4⟩

end Go.Proofs.YtdngehgjbledfaaGreat
