/- Contract of sift.Gains. For at most 4096 slots. -/
import Derived.Test.YtfodlpiidlajeaaGainP
namespace Go.Proofs.Ytfodlpiidlajeaa
open Go.RowKit
set_option linter.unusedVariables false
set_option linter.unusedSimpArgs false

set_option maxRecDepth 100000 in
set_option maxHeartbeats 4000000 in
theorem Gains_err (A : Option Addr) (n : Nat) (p : List Pls) (C : Option Addr) (m : Nat) (s : List Int) (D : Option Addr) (o : Nat) (b : List Bool) (f : Int) (w : World) (hA : Arr 5 Pls.enc w w.heap.size A p) (hC : Arr 1 encI w w.heap.size C s) (hD : Arr 1 encB w w.heap.size D b)
    (hp : p.length ≤ 4611686018427387904) (hs : s.length ≤ 4096) (hd : b.length ≤ 4611686018427387904) (hbad : ¬ (allE Pls.ok p = 0 ∧ betwB f 0 4096 = true ∧ slotsE s 0 (p.length - 1) = 0 ∧ s.all (lateB f) = true ∧ s.length = b.length)) :
    Calls Try.prog 30 #[.slice A p.length n, .slice C s.length m, .slice D b.length o, .int .i64 f] w fun e w' => e = .returned (.tuple #[agg9 (gnG p s b f), .int .i64 (gnE p s b f)]) ∧ Below w.heap.size w w' := by
  have hb0 := below_alloc (below_alloc (Below.refl w.heap.size w) (.cells #[.int .i64 0, .int .i64 0, .int .i64 0, .int .i64 0, .int .i64 0, .int .i64 0, .int .i64 0, .int .i64 0, .int .i64 0] 51)) (.cells #[.int .i64 0, .int .i64 0, .int .i64 0, .int .i64 0, .int .i64 0, .int .i64 0, .int .i64 0, .int .i64 0, .int .i64 0] 51)
  by_cases h0 : allE Pls.ok p = 0
  · have H0 := Lib.hid h0
    cases h1 : betwB f 0 4096
    · have Hg := Lib.hid (gn2 (s := s) (b := b) h0 h1)
      have H1 := Lib.hid h1
      clear h0 h1 hbad
      go_enter Try.func30, Try.ntmps30
      go_wp2_with (first
        | (go_at_call 73; refine (checkPulses_any A n p _ (hA.on hb0) hp).mono ?_; rintro e w2 ⟨rfl, hb2⟩; rw [H0.out]; have oA := Own.below (Own.alloc (own9 w w.heap.size w.heap.size 51 (Nat.le_refl _) rfl) _) hb2; have oB := Own.below (own9 (w.alloc _) w.heap.size (w.heap.size + 1) 51 (by simp) (by simp)) hb2; obtain ⟨a0, a1, a2, a3, a4, a5, a6, a7, a8⟩ := nine oA; obtain ⟨b0, b1, b2, b3, b4, b5, b6, b7, b8⟩ := nineF oA rfl; obtain ⟨c0, c1, c2, c3, c4, c5, c6, c7, c8⟩ := nine oB)
        | (go_at_call 64; refine (between_any _ _ _ _).mono ?_; rintro e w' ⟨rfl, rfl⟩; rw [H1.out]))
      (try simp only [Exit.inBlock, Exit.then]); refine bodyPost_ret (v := .tuple #[.agg #[.int .i64 0, .int .i64 0, .int .i64 0, .int .i64 0, .int .i64 0, .int .i64 0, .int .i64 0, .int .i64 0, .int .i64 0], .int .i64 (3)]) ?_ rfl ⟨by rw [Hg.out.1, Hg.out.2]; rfl, below_set9 (below_trans hb0 hb2) (Nat.le_refl _)⟩; rw [results_cell_tmp rfl]; go_simp
    · have H1 := Lib.hid h1
      by_cases h2 : slotsE s 0 (p.length - 1) = 0
      · have H2 := Lib.hid h2
        cases h3 : s.all (lateB f)
        · have Hg := Lib.hid (gn4 (b := b) h0 h1 h2 h3)
          have hs0 : 0 < s.length := by
            cases s with
            | nil => cases h3
            | cons x t => simp
          have hpos : decide (0 < (s.length : Int)) = true := decide_eq_true (by omega)
          obtain ⟨bk, off, x, rfl, hbb, hq, d0⟩ := hC.int hs0 (Below.refl _ _)
          rw [Nat.add_zero] at d0
          have hx : x < f := by
            by_cases hxf : f ≤ x
            · rw [late_first (p := p) h2 hq.out hxf] at h3; cases h3
            · omega
          clear h0 h1 h2 h3 hbad hq
          go_enter Try.func30, Try.ntmps30
          go_wp2_with (first
            | (go_at_call 73; refine (checkPulses_any A n p _ (hA.on hb0) hp).mono ?_; rintro e w2 ⟨rfl, hb2⟩; rw [H0.out]; have d1 := bel_cell (below_trans hb0 hb2) d0; clear d0; have oA := Own.below (Own.alloc (own9 w w.heap.size w.heap.size 51 (Nat.le_refl _) rfl) _) hb2; have oB := Own.below (own9 (w.alloc _) w.heap.size (w.heap.size + 1) 51 (by simp) (by simp)) hb2; obtain ⟨a0, a1, a2, a3, a4, a5, a6, a7, a8⟩ := nine oA; obtain ⟨b0, b1, b2, b3, b4, b5, b6, b7, b8⟩ := nineF oA rfl; obtain ⟨c0, c1, c2, c3, c4, c5, c6, c7, c8⟩ := nine oB)
            | (go_at_call 64; refine (between_any _ _ _ _).mono ?_; rintro e w' ⟨rfl, rfl⟩; rw [H1.out])
            | (go_at_call 76; refine (checkSlots_any _ m s 0 _ _ (hC.on (below_trans hb0 hb2)) (by omega)).mono ?_; rintro e w' ⟨rfl, rfl⟩; rw [H2.out]))
          (try simp only [Exit.inBlock, Exit.then]); refine bodyPost_ret (v := .tuple #[.agg #[.int .i64 0, .int .i64 0, .int .i64 0, .int .i64 0, .int .i64 0, .int .i64 0, .int .i64 0, .int .i64 0, .int .i64 0], .int .i64 (3)]) ?_ rfl ⟨by rw [Hg.out.1, Hg.out.2]; rfl, below_set9 (below_trans hb0 hb2) (Nat.le_refl _)⟩; rw [results_cell_tmp rfl]; go_simp
        · have h4 : s.length ≠ b.length := fun h => hbad ⟨h0, h1, h2, h3, h⟩
          have Hg := Lib.hid (gn5 h0 h1 h2 h3 h4)
          have g4 : ((s.length : Int) != (b.length : Int)) = true := by simp; omega
          by_cases hs0 : 0 < s.length
          · have hpos : decide (0 < (s.length : Int)) = true := decide_eq_true (by omega)
            obtain ⟨bk, off, x, rfl, hbb, hq, d0⟩ := hC.int hs0 (Below.refl _ _)
            rw [Nat.add_zero] at d0
            have hx : decide (x < f) = false := by
              rw [List.all_eq_true] at h3
              have := h3 x (List.mem_of_getElem? hq.out); simp [lateB] at this; simp; omega
            clear h0 h1 h2 h3 h4 hbad hq
            go_enter Try.func30, Try.ntmps30
            go_wp2_with (first
              | (go_at_call 73; refine (checkPulses_any A n p _ (hA.on hb0) hp).mono ?_; rintro e w2 ⟨rfl, hb2⟩; rw [H0.out]; have d1 := bel_cell (below_trans hb0 hb2) d0; clear d0; have oA := Own.below (Own.alloc (own9 w w.heap.size w.heap.size 51 (Nat.le_refl _) rfl) _) hb2; have oB := Own.below (own9 (w.alloc _) w.heap.size (w.heap.size + 1) 51 (by simp) (by simp)) hb2; obtain ⟨a0, a1, a2, a3, a4, a5, a6, a7, a8⟩ := nine oA; obtain ⟨b0, b1, b2, b3, b4, b5, b6, b7, b8⟩ := nineF oA rfl; obtain ⟨c0, c1, c2, c3, c4, c5, c6, c7, c8⟩ := nine oB)
              | (go_at_call 64; refine (between_any _ _ _ _).mono ?_; rintro e w' ⟨rfl, rfl⟩; rw [H1.out])
              | (go_at_call 76; refine (checkSlots_any _ m s 0 _ _ (hC.on (below_trans hb0 hb2)) (by omega)).mono ?_; rintro e w' ⟨rfl, rfl⟩; rw [H2.out]))
            (try simp only [Exit.inBlock, Exit.then]); refine bodyPost_ret (v := .tuple #[.agg #[.int .i64 0, .int .i64 0, .int .i64 0, .int .i64 0, .int .i64 0, .int .i64 0, .int .i64 0, .int .i64 0, .int .i64 0], .int .i64 (22)]) ?_ rfl ⟨by rw [Hg.out.1, Hg.out.2]; rfl, below_set9 (below_trans hb0 hb2) (Nat.le_refl _)⟩; rw [results_cell_tmp rfl]; go_simp
          · have hpos : decide (0 < (s.length : Int)) = false := decide_eq_false (by omega)
            clear h0 h1 h2 h3 h4 hbad
            go_enter Try.func30, Try.ntmps30
            go_wp2_with (first
              | (go_at_call 73; refine (checkPulses_any A n p _ (hA.on hb0) hp).mono ?_; rintro e w2 ⟨rfl, hb2⟩; rw [H0.out]; have oA := Own.below (Own.alloc (own9 w w.heap.size w.heap.size 51 (Nat.le_refl _) rfl) _) hb2; have oB := Own.below (own9 (w.alloc _) w.heap.size (w.heap.size + 1) 51 (by simp) (by simp)) hb2; obtain ⟨a0, a1, a2, a3, a4, a5, a6, a7, a8⟩ := nine oA; obtain ⟨b0, b1, b2, b3, b4, b5, b6, b7, b8⟩ := nineF oA rfl; obtain ⟨c0, c1, c2, c3, c4, c5, c6, c7, c8⟩ := nine oB)
              | (go_at_call 64; refine (between_any _ _ _ _).mono ?_; rintro e w' ⟨rfl, rfl⟩; rw [H1.out])
              | (go_at_call 76; refine (checkSlots_any C m s 0 _ _ (hC.on (below_trans hb0 hb2)) (by omega)).mono ?_; rintro e w' ⟨rfl, rfl⟩; rw [H2.out]))
            (try simp only [Exit.inBlock, Exit.then]); refine bodyPost_ret (v := .tuple #[.agg #[.int .i64 0, .int .i64 0, .int .i64 0, .int .i64 0, .int .i64 0, .int .i64 0, .int .i64 0, .int .i64 0, .int .i64 0], .int .i64 (22)]) ?_ rfl ⟨by rw [Hg.out.1, Hg.out.2]; rfl, below_set9 (below_trans hb0 hb2) (Nat.le_refl _)⟩; rw [results_cell_tmp rfl]; go_simp
      · have Hg := Lib.hid (gn3 (b := b) h0 h1 h2)
        have h2' : (slotsE s 0 (p.length - 1) != 0) = true := by simpa using h2
        clear h0 h1 h2 hbad
        go_enter Try.func30, Try.ntmps30
        go_wp2_with (first
          | (go_at_call 73; refine (checkPulses_any A n p _ (hA.on hb0) hp).mono ?_; rintro e w2 ⟨rfl, hb2⟩; rw [H0.out]; have oA := Own.below (Own.alloc (own9 w w.heap.size w.heap.size 51 (Nat.le_refl _) rfl) _) hb2; have oB := Own.below (own9 (w.alloc _) w.heap.size (w.heap.size + 1) 51 (by simp) (by simp)) hb2; obtain ⟨a0, a1, a2, a3, a4, a5, a6, a7, a8⟩ := nine oA; obtain ⟨b0, b1, b2, b3, b4, b5, b6, b7, b8⟩ := nineF oA rfl; obtain ⟨c0, c1, c2, c3, c4, c5, c6, c7, c8⟩ := nine oB)
          | (go_at_call 64; refine (between_any _ _ _ _).mono ?_; rintro e w' ⟨rfl, rfl⟩; rw [H1.out])
          | (go_at_call 76; refine (checkSlots_any C m s 0 _ _ (hC.on (below_trans hb0 hb2)) (by omega)).mono ?_; rintro e w' ⟨rfl, rfl⟩))
        (try simp only [Exit.inBlock, Exit.then]); refine bodyPost_ret (v := .tuple #[.agg #[.int .i64 0, .int .i64 0, .int .i64 0, .int .i64 0, .int .i64 0, .int .i64 0, .int .i64 0, .int .i64 0, .int .i64 0], .int .i64 (slotsE s 0 (p.length - 1))]) ?_ rfl ⟨by rw [Hg.out.1, Hg.out.2]; rfl, below_set9 (below_trans hb0 hb2) (Nat.le_refl _)⟩; rw [results_cell_tmp rfl]; go_simp
  · have Hg := Lib.hid (gn1 (s := s) (b := b) (f := f) h0)
    have h0' : (allE Pls.ok p != 0) = true := by simpa using h0
    clear h0 hbad
    go_enter Try.func30, Try.ntmps30
    go_wp2_with (go_at_call 73; refine (checkPulses_any A n p _ (hA.on hb0) hp).mono ?_; rintro e w2 ⟨rfl, hb2⟩; have oA := Own.below (Own.alloc (own9 w w.heap.size w.heap.size 51 (Nat.le_refl _) rfl) _) hb2; have oB := Own.below (own9 (w.alloc _) w.heap.size (w.heap.size + 1) 51 (by simp) (by simp)) hb2; obtain ⟨a0, a1, a2, a3, a4, a5, a6, a7, a8⟩ := nine oA; obtain ⟨b0, b1, b2, b3, b4, b5, b6, b7, b8⟩ := nineF oA rfl; obtain ⟨c0, c1, c2, c3, c4, c5, c6, c7, c8⟩ := nine oB)
    (try simp only [Exit.inBlock, Exit.then]); refine bodyPost_ret (v := .tuple #[.agg #[.int .i64 0, .int .i64 0, .int .i64 0, .int .i64 0, .int .i64 0, .int .i64 0, .int .i64 0, .int .i64 0, .int .i64 0], .int .i64 (allE Pls.ok p)]) ?_ rfl ⟨by rw [Hg.out.1, Hg.out.2]; rfl, below_set9 (below_trans hb0 hb2) (Nat.le_refl _)⟩; rw [results_cell_tmp rfl]; go_simp

end Go.Proofs.Ytfodlpiidlajeaa
