/- Contract of sift's Judge. For a limit of at most 900000 limbs. -/
import Derived.Test.YtbobbcfjjdmdgaaNatL
namespace Go.Proofs.Ytbobbcfjjdmdgaa
open Go.RowKit
set_option linter.unusedVariables false
set_option linter.unusedSimpArgs false

theorem limbs_small {n : Nat} (h : n < 4294967296) : (limbs n).length ≤ 1 := limbs_len (m := 32) h (by decide)
theorem judgeE1 {s n : Int} {f : Frc} (h : validE [f] ≠ 0) : judgeE s n f = validE [f] := by unfold judgeE; rw [if_pos h]
theorem judgeE2 {s n : Int} {f : Frc} (h : validE [f] = 0) (h2 : ¬ (0 ≤ s ∧ s ≤ 512 ∧ 0 ≤ n ∧ n ≤ s)) : judgeE s n f = 3 := by unfold judgeE; rw [if_neg (by simp [h]), if_pos h2]
theorem judgeE3 {s n : Int} {f : Frc} (h : validE [f] = 0) (h2 : 0 ≤ s ∧ s ≤ 512 ∧ 0 ≤ n ∧ n ≤ s) (h3 : s = 0) : judgeE s n f = 0 := by unfold judgeE; rw [if_neg (by simp [h]), if_neg (by simp [h2]), if_pos h3]
theorem judgeE4 {s n : Int} {f : Frc} (h : validE [f] = 0) (h2 : 0 ≤ s ∧ s ≤ 512 ∧ 0 ≤ n ∧ n ≤ s) (h3 : ¬ s = 0) : judgeE s n f = if V f.l * s.toNat < n.toNat * V f.m then 18 else 0 := by
  unfold judgeE; rw [if_neg (by simp [h]), if_neg (by simp [h2]), if_neg h3]

set_option maxRecDepth 100000 in
set_option maxHeartbeats 4000000 in
theorem Judge_any (s n : Int) (f : Frc) (w : World) (hf : f.In w) :
    Calls Try.prog 106 #[.int .i64 s, .int .i64 n, f.val] w fun e w' => e = .returned (.int .i64 (judgeE s n f)) ∧ Below w.heap.size w w' := by
  have hb0 := below_alloc (Below.refl w.heap.size w) (.cells #[.slice f.A f.l.length f.c, .slice f.C f.m.length f.d] 39)
  have cC := CheckFrac_any f _ (hf.on hb0)
  unfold Frc.val at *
  by_cases hv : validE [f] = 0
  · rw [hv] at cC
    by_cases h2 : 0 ≤ s ∧ s ≤ 512 ∧ 0 ≤ n ∧ n ≤ s
    · have b1 : betwB s 0 512 = true := by simp [betwB]; omega
      have b2 : betwB n 0 s = true := by simp [betwB]; omega
      by_cases h3 : s = 0
      · rw [judgeE3 hv h2 h3]
        subst h3
        go_enter Try.func106, Try.ntmps106
        go_wp2_with (first | (go_at_call 89; refine (cC).mono ?_; rintro e w3 ⟨rfl, hb3⟩) | (go_at_call 59; refine (between_any _ _ _ _).mono ?_; rintro e w' ⟨rfl, rfl⟩; (first | rw [b1] | rw [b2])))
        go_ret
        exact ⟨rfl, below_trans hb0 hb3⟩
      · rw [judgeE4 hv h2 h3]
        obtain ⟨S, rfl⟩ : ∃ a : Nat, s = a := ⟨s.toNat, by omega⟩
        obtain ⟨N, rfl⟩ : ∃ a : Nat, n = a := ⟨n.toNat, by omega⟩
        simp only [Int.toNat_natCast]
        obtain ⟨J, hJ⟩ : ∃ J : Int, (if V f.l * S < N * V f.m then (18 : Int) else 0) = J := ⟨_, rfl⟩
        rw [hJ]
        have HJ := Lib.hid hJ
        clear hJ
        have hS : 0 < S := by omega
        have hS2 : S ≤ 512 := by omega
        have hN : N ≤ S := by omega
        have hs0 : ((S : Int) == 0) = false := by simp; omega
        clear h2 h3
        go_enter Try.func106, Try.ntmps106
        go_wp2_with (first | (go_at_call 89; refine (cC).mono ?_; rintro e w3 ⟨rfl, hb3⟩) | (go_at_call 59; refine (between_any _ _ _ _).mono ?_; rintro e w' ⟨rfl, rfl⟩; (first | rw [b1] | rw [b2])))
        have q3 := below_trans hb0 hb3
        have k0 := (blk_new hb3 rfl (j := 0) rfl).1
        have k1 := (blk_new hb3 rfl (j := 1) rfl).1
        have L0 := fun w' (hb : Below w3.heap.size w3 w') => bel_cell hb k0
        have L1 := fun w' (hb : Below w3.heap.size w3 w') => bel_cell hb k1
        have c1 := fun w' => whole_any N w' (by omega)
        have c2 := fun w' => whole_any S w' (by omega)
        have l1 := limbs_small (n := N) (by omega)
        have l2 := limbs_small (n := S) (by omega)
        have c3 := fun w' (hb : Below w3.heap.size w3 w') A1 cc1 A2 cc2 (n1 : Nt w' A1 cc1 (limbs N)) (n2 : Nt w' A2 cc2 (limbs S)) => FracCompare_any ⟨A1, cc1, limbs N, A2, cc2, limbs S⟩ f w' ⟨n1, n2⟩ (hf.on (below_trans q3 hb))
        have ev : ∀ A1 cc1 A2 cc2, validE [⟨A1, cc1, limbs N, A2, cc2, limbs S⟩, f] = 0 := fun A1 cc1 A2 cc2 => by
          obtain ⟨g1, g2⟩ := validE_zero.1 hv
          refine validE_zero.2 ⟨?_, ?_⟩
          · simp at g1 ⊢
            refine ⟨?_, g1⟩
            unfold Frc.lng
            simp; omega
          · simp at g2 ⊢
            refine ⟨?_, g2⟩
            unfold Frc.zro
            simp [V_limbs]; omega
        have ec : ∀ A1 cc1 A2 cc2, fcmpI ⟨A1, cc1, limbs N, A2, cc2, limbs S⟩ f = cmpI (N * V f.m) (V f.l * S) := fun A1 cc1 A2 cc2 => by
          unfold fcmpI; rw [if_pos (ev _ _ _ _), V_limbs, V_limbs]
        simp only [ev, ec] at c3
        unfold Frc.val at c3
        clear ev ec cC
        go_region_held3 (fun w' => Below w3.heap.size w3 w')
          (first | (exact (Below.refl _ _).drew) | (refine below_trans ?_ hx1; assumption) | (refine below_trans ?_ hx2; assumption) | (refine below_trans ?_ hx3; assumption))
          (first | (go_at_call 60; refine Calls.on (args' := #[.int .i64 (N : Int)]) rfl ?_; refine (c1 _).mono ?_; rintro e y1 ⟨v1, rfl, b1, hx1⟩; obtain ⟨A1, cc1, hv1, n1⟩ := b1.nt; rw [hv1]) | (go_at_call 60; refine (c2 _).mono ?_; rintro e y2 ⟨v2, rfl, b2, hx2⟩; obtain ⟨A2, cc2, hv2, n2⟩ := b2.nt; rw [hv2]) | (go_at_call 13; refine (c3 _ ?hB _ _ _ _ (n1.on hx2) n2).mono ?_; (case hB => assumption); rintro e y3 ⟨rfl, hx3⟩))
        have q9 := below_trans q3 (below_trans (below_trans (below_trans (Below.refl _ _).drew hx1) hx2) hx3)
        clear L0 L1 c1 c2 c3
        rcases Nat.lt_or_ge (V f.l * S) (N * V f.m) with hlt | hge
        · rw [cmpI_gt hlt]
          have Hlt := Lib.hid hlt
          clear hlt
          go_wp2_with fail
          go_ret
          exact ⟨ret_int (by rw [← HJ.out, if_pos Hlt.out]), q9⟩
        · obtain ⟨cv, hcv, hcv0⟩ : ∃ cv, cmpI (N * V f.m) (V f.l * S) = cv ∧ cv ≤ 0 := ⟨_, rfl, by unfold cmpI; split <;> (try split) <;> omega⟩
          rw [hcv]
          have Hge := Lib.hid hge
          clear hge hcv
          go_wp2_with fail
          go_ret
          exact ⟨ret_int (by rw [← HJ.out, if_neg (Nat.not_lt.2 Hge.out)]), q9⟩
    · rw [judgeE2 hv h2]
      by_cases h3 : 0 ≤ s ∧ s ≤ 512
      · have b1 : betwB s 0 512 = true := by simp [betwB]; omega
        have b2 : betwB n 0 s = false := by simp [betwB]; omega
        go_enter Try.func106, Try.ntmps106
        go_wp2_with (first | (go_at_call 89; refine (cC).mono ?_; rintro e w3 ⟨rfl, hb3⟩) | (go_at_call 59; refine (between_any _ _ _ _).mono ?_; rintro e w' ⟨rfl, rfl⟩; (first | rw [b1] | rw [b2])))
        go_ret
        exact ⟨rfl, below_trans hb0 hb3⟩
      · have b1 : betwB s 0 512 = false := by simp [betwB]; omega
        go_enter Try.func106, Try.ntmps106
        go_wp2_with (first | (go_at_call 89; refine (cC).mono ?_; rintro e w3 ⟨rfl, hb3⟩) | (go_at_call 59; refine (between_any _ _ _ _).mono ?_; rintro e w' ⟨rfl, rfl⟩; rw [b1]))
        go_ret
        exact ⟨rfl, below_trans hb0 hb3⟩
  · rw [judgeE1 hv]
    have hv' : (validE [f] != 0) = true := by simpa using hv
    clear hv
    go_enter Try.func106, Try.ntmps106
    go_wp2_with (go_at_call 89; refine (cC).mono ?_; rintro e w3 ⟨rfl, hb3⟩)
    go_ret
    exact ⟨rfl, below_trans hb0 hb3⟩

end Go.Proofs.Ytbobbcfjjdmdgaa
