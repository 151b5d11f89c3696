/- Contract of the reference's Gains. For at most 4096 slots. -/
import Derived.Test.YtfodlpiidlajeaaGainM
import Derived.Test.YtfodlpiidlajeaaTail
namespace Go.Proofs.Ytfodlpiidlajeaa
open Go.RowKit
set_option linter.unusedVariables false
set_option linter.unusedSimpArgs false

set_option maxRecDepth 100000 in
set_option maxHeartbeats 4000000 in
theorem refGains_err (A : Option Addr) (n : Nat) (p : List Pls) (C : Option Addr) (m : Nat) (s : List Int) (D : Option Addr) (o : Nat) (b : List Bool) (f : Int) (w : World) (hA : Arr 5 Pls.enc w w.heap.size A p) (hC : Arr 1 encI w w.heap.size C s) (hD : Arr 1 encB w w.heap.size D b)
    (hp : p.length ≤ 4611686018427387904) (hs : s.length ≤ 4096) (hd : b.length ≤ 4611686018427387904) (hbad : ¬ (allE Pls.ok p = 0 ∧ betwB f 0 4096 = true ∧ slotsE s 0 (p.length - 1) = 0)) :
    Calls Try.prog 31 #[.slice A p.length n, .slice C s.length m, .slice D b.length o, .int .i64 f] w fun e w' => e = .returned (.tuple #[agg9 (gnG p s b f), .int .i64 (gnE p s b f)]) ∧ Below w.heap.size w w' := by
  have hb0 := below_alloc (below_alloc (Below.refl w.heap.size w) (.cells #[.int .i64 0, .int .i64 0, .int .i64 0, .int .i64 0, .int .i64 0, .int .i64 0, .int .i64 0, .int .i64 0, .int .i64 0] 51)) (.cells #[.int .i64 0, .int .i64 0, .int .i64 0, .int .i64 0, .int .i64 0, .int .i64 0, .int .i64 0, .int .i64 0, .int .i64 0] 51)
  by_cases h0 : allE Pls.ok p = 0
  · have H0 := Lib.hid h0
    cases h1 : betwB f 0 4096
    · have Hg := Lib.hid (gn2 (s := s) (b := b) h0 h1)
      have H1 := Lib.hid h1
      clear h0 h1 hbad
      go_enter Try.func31, Try.ntmps31
      go_wp2_with (first
        | (go_at_call 25; refine (refPulses_any A n p _ (hA.on hb0) hp).mono ?_; rintro e w' ⟨rfl, rfl⟩; rw [H0.out])
        | (go_at_call 67; refine (within_any _ _ _).mono ?_; rintro e w' ⟨rfl, rfl⟩; rw [H1.out]))
      (try simp only [Exit.inBlock, Exit.then]); refine bodyPost_ret (v := .tuple #[.agg #[.int .i64 0, .int .i64 0, .int .i64 0, .int .i64 0, .int .i64 0, .int .i64 0, .int .i64 0, .int .i64 0, .int .i64 0], .int .i64 (3)]) ?_ rfl ⟨by rw [Hg.out.1, Hg.out.2]; rfl, hb0⟩; rw [results_cell_tmp rfl]; go_simp
    · have H1 := Lib.hid h1
      have h2 : slotsE s 0 (p.length - 1) ≠ 0 := fun h => hbad ⟨h0, h1, h⟩
      have Hg := Lib.hid (gn3 (b := b) h0 h1 h2)
      have h2' : (slotsE s 0 (p.length - 1) != 0) = true := by simpa using h2
      clear h0 h1 h2 hbad
      go_enter Try.func31, Try.ntmps31
      go_wp2_with (first
        | (go_at_call 25; refine (refPulses_any A n p _ (hA.on hb0) hp).mono ?_; rintro e w' ⟨rfl, rfl⟩; rw [H0.out])
        | (go_at_call 67; refine (within_any _ _ _).mono ?_; rintro e w' ⟨rfl, rfl⟩; rw [H1.out])
        | (go_at_call 77; refine (refSlots_any C m s 0 _ _ (hC.on hb0) (by omega)).mono ?_; rintro e w2 ⟨rfl, hb2⟩; have oA := Own.below (Own.alloc (own9 w w.heap.size w.heap.size 51 (Nat.le_refl _) rfl) _) hb2; have oB := Own.below (own9 (w.alloc _) w.heap.size (w.heap.size + 1) 51 (by simp) (by simp)) hb2; obtain ⟨a0, a1, a2, a3, a4, a5, a6, a7, a8⟩ := nine oA; obtain ⟨b0, b1, b2, b3, b4, b5, b6, b7, b8⟩ := nineF oA rfl; obtain ⟨c0, c1, c2, c3, c4, c5, c6, c7, c8⟩ := nine oB))
      have q2 := below_trans hb0 hb2
      have k0 := later_cell c0; have k1 := later_cell c1; have k2 := later_cell c2; have k3 := later_cell c3; have k4 := later_cell c4; have k5 := later_cell c5; have k6 := later_cell c6; have k7 := later_cell c7; have k8 := later_cell c8
      clear a0 a1 a2 a3 a4 a5 a6 a7 a8 b0 b1 b2 b3 b4 b5 b6 b7 b8 c0 c1 c2 c3 c4 c5 c6 c7 c8
      refine wp_region_tail 6 (by kernel_rfl) (by kernel_rfl) ?_
      simp only [List.take_succ_cons, List.take_zero, List.drop_succ_cons, List.drop_zero]
      repeat (go_big_quiet_step ((go_at_call 77; exact calls_later (refSlots_any C m s 0 _ _ (hC.on (below_trans q2 (Subtype.property _))) (by omega)))))
      refine wpQuiet_nil ?_
      rintro w4 ⟨⟨_, hb4⟩, rfl⟩
      have oA4 := oA.below hb4
      obtain ⟨a0, a1, a2, a3, a4, a5, a6, a7, a8⟩ := nine oA4
      obtain ⟨b0, b1, b2, b3, b4, b5, b6, b7, b8⟩ := nineF oA4 rfl
      go_wp2
      (try simp only [Exit.inBlock, Exit.then]); refine bodyPost_ret (v := .tuple #[.agg #[.int .i64 0, .int .i64 0, .int .i64 0, .int .i64 0, .int .i64 0, .int .i64 0, .int .i64 0, .int .i64 0, .int .i64 0], .int .i64 (slotsE s 0 (p.length - 1))]) ?_ rfl ⟨by rw [Hg.out.1, Hg.out.2]; rfl, below_set9 (below_trans q2 hb4) (Nat.le_refl _)⟩; rw [results_cell_tmp rfl]; go_simp
  · have Hg := Lib.hid (gn1 (s := s) (b := b) (f := f) h0)
    have h0' : (allE Pls.ok p != 0) = true := by simpa using h0
    clear h0 hbad
    go_enter Try.func31, Try.ntmps31
    go_wp2_with (go_at_call 25; refine (refPulses_any A n p _ (hA.on hb0) hp).mono ?_; rintro e w' ⟨rfl, rfl⟩)
    have oA := Own.alloc (own9 w w.heap.size w.heap.size 51 (Nat.le_refl _) rfl) (.cells #[.int .i64 0, .int .i64 0, .int .i64 0, .int .i64 0, .int .i64 0, .int .i64 0, .int .i64 0, .int .i64 0, .int .i64 0] 51)
    have oB := own9 (w.alloc (.cells #[.int .i64 0, .int .i64 0, .int .i64 0, .int .i64 0, .int .i64 0, .int .i64 0, .int .i64 0, .int .i64 0, .int .i64 0] 51)) w.heap.size (w.heap.size + 1) 51 (by simp) (by simp)
    obtain ⟨c0, c1, c2, c3, c4, c5, c6, c7, c8⟩ := nine oB
    have k0 := later_cell c0; have k1 := later_cell c1; have k2 := later_cell c2; have k3 := later_cell c3; have k4 := later_cell c4; have k5 := later_cell c5; have k6 := later_cell c6; have k7 := later_cell c7; have k8 := later_cell c8
    clear c0 c1 c2 c3 c4 c5 c6 c7 c8
    refine wp_region_tail 3 (by kernel_rfl) (by kernel_rfl) ?_
    simp only [List.take_succ_cons, List.take_zero, List.drop_succ_cons, List.drop_zero]
    repeat (go_big_quiet_step ((go_at_call 25; exact calls_later_same (refPulses_any A n p _ (hA.on (below_trans hb0 (Subtype.property _))) hp))))
    refine wpQuiet_nil ?_
    rintro w4 ⟨⟨_, hb4⟩, rfl⟩
    have oA4 := oA.below hb4
    obtain ⟨a0, a1, a2, a3, a4, a5, a6, a7, a8⟩ := nine oA4
    obtain ⟨b0, b1, b2, b3, b4, b5, b6, b7, b8⟩ := nineF oA4 rfl
    go_wp2
    (try simp only [Exit.inBlock, Exit.then]); refine bodyPost_ret (v := .tuple #[.agg #[.int .i64 0, .int .i64 0, .int .i64 0, .int .i64 0, .int .i64 0, .int .i64 0, .int .i64 0, .int .i64 0, .int .i64 0], .int .i64 (allE Pls.ok p)]) ?_ rfl ⟨by rw [Hg.out.1, Hg.out.2]; rfl, below_set9 (below_trans hb0 hb4) (Nat.le_refl _)⟩; rw [results_cell_tmp rfl]; go_simp

end Go.Proofs.Ytfodlpiidlajeaa
