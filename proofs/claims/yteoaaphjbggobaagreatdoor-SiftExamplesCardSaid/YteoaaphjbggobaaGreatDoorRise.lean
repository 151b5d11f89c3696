/- Contracts of the checks of announcements and of slots, the program's and the reference's: 'heardE' and 'slotsE'. No condition but that a list's length is an int's. -/
import Derived.Test.YteoaaphjbggobaaGreatDoorRiseP
import Derived.Test.YteoaaphjbggobaaGreatDoorChk
namespace Go.Proofs.YteoaaphjbggobaaGreatDoor
open Go.RowKit
set_option linter.unusedVariables false
set_option linter.unusedSimpArgs false

theorem heard1_any (qs qb : Int) (w : World) :
    Calls Tryz.prog 52 #[.agg #[.int .i64 qs, .int .i64 qb]] w fun e w' => e = .returned (.int .i64 qs) ∧ Below w.heap.size w w' := by
  go_enter Tryz.func52, Tryz.ntmps52
  go_wp2
  go_ret
  exact ⟨rfl, (Below.refl _ _).alloc (Nat.le_refl _) _⟩
theorem heard2_any (qs qb : Int) (w : World) :
    Calls Tryz.prog 53 #[.agg #[.int .i64 qs, .int .i64 qb]] w fun e w' => e = .returned (.int .i64 (hFault ⟨qs, qb⟩)) ∧ Below w.heap.size w w' := by
  cases h : betwB qb 0 1
  · rw [hFault_yes h]
    have H := Lib.hid h
    clear h
    go_enter Tryz.func53, Tryz.ntmps53
    go_wp2_with (go_at_call 23; refine (between_any _ _ _ _).mono ?_; rintro e w' ⟨rfl, rfl⟩; rw [H.out])
    go_ret
    exact ⟨rfl, (Below.refl _ _).alloc (Nat.le_refl _) _⟩
  · rw [hFault_no h]
    have H := Lib.hid h
    clear h
    go_enter Tryz.func53, Tryz.ntmps53
    go_wp2_with (go_at_call 23; refine (between_any _ _ _ _).mono ?_; rintro e w' ⟨rfl, rfl⟩; rw [H.out])
    go_ret
    exact ⟨rfl, (Below.refl _ _).alloc (Nat.le_refl _) _⟩

set_option maxRecDepth 100000 in
set_option maxHeartbeats 2000000 in
theorem risingHeard_any (A : Option Addr) (n : Nat) (l : List Hrd) (a b : Int) (w : World) (hA : Arr 2 Hrd.enc w w.heap.size A l) (hl : l.length ≤ 4611686018427387904) :
    Calls Tryz.prog 51 #[.slice A l.length n, .func (.func 52) #[] #[], .int .i64 a, .int .i64 b, .func (.func 53) #[] #[]] w fun e w' => e = .returned (.int .i64 (heardE l a b)) ∧ Below w.heap.size w w' := by
  go_enter Tryz.func51, Tryz.ntmps51
  go_wp2
  go_loopw [16] (fun i wr => ∃ k : Nat, k ≤ l.length ∧ i = .int .i64 k ∧ riseTo Hrd.slot hFault a b l k = 0 ∧ Below w.heap.size w wr) (fun i _ => l.length - (intOf i).toNat)
  case atStart => exact ⟨0, Nat.zero_le _, rfl, rfl, Below.refl _ _⟩
  case round =>
    obtain ⟨k, hk, rfl, hall, hb⟩ := hrel
    have Hall := Lib.hid hall; clear hall
    by_cases hlt : k < l.length
    · obtain ⟨bk, off, qs, qb, rfl, hbb, hq, c0, c1⟩ := hA.hrd hlt hb
      cases h1 : betwB qs a b
      · have H1 := Lib.hid h1; clear h1
        go_wp2_with (first
          | (go_at_call 52; refine (heard1_any _ _ _).mono ?_; rintro e w2 ⟨rfl, hb2⟩)
          | (go_at_call 23; refine (between_any _ _ _ _).mono ?_; rintro e w' ⟨rfl, rfl⟩; rw [H1.out]))
        go_ret
        exact ⟨ret_int (rise_err Hall.out hlt (at_range hq.out H1.out) (by decide)).symm, below_trans (below_alloc hb _) hb2⟩
      · have H1 := Lib.hid h1; clear h1
        cases h2 : betwB qb 0 1
        · have H2 := Lib.hid (hFault_yes (qs := qs) h2)
          clear h2
          go_wp2_with (first
            | (go_at_call 52; refine (heard1_any _ _ _).mono ?_; rintro e w2 ⟨rfl, hb2⟩; have d0 : w2.cell? ⟨wr.heap.size, 0, none⟩ = some (.int .i64 qs) := bel_cell hb2 (new_cell rfl); have d1 : w2.cell? ⟨wr.heap.size, 1, none⟩ = some (.int .i64 qb) := bel_cell hb2 (new_cell rfl))
            | (go_at_call 23; refine (between_any _ _ _ _).mono ?_; rintro e w' ⟨rfl, rfl⟩; rw [H1.out])
            | (go_at_call 53; refine (heard2_any _ _ _).mono ?_; rintro e w3 ⟨rfl, hb3⟩; rw [H2.out]))
          go_ret
          exact ⟨ret_int (by rw [heardE, rise_err Hall.out hlt (at_fault hq.out H1.out (by rw [H2.out]; decide)) (by rw [H2.out]; decide), H2.out]), below_trans (below_trans (below_alloc hb _) hb2) hb3⟩
        · have H2 := Lib.hid (hFault_no (qs := qs) h2)
          clear h2
          by_cases hk0 : k = 0
          · have Hk0 := Lib.hid hk0
            have g0 : decide (0 < k) = false := by simp; omega
            clear hk0
            go_wp2_with (first
              | (go_at_call 52; refine (heard1_any _ _ _).mono ?_; rintro e w2 ⟨rfl, hb2⟩; have d0 : w2.cell? ⟨wr.heap.size, 0, none⟩ = some (.int .i64 qs) := bel_cell hb2 (new_cell rfl); have d1 : w2.cell? ⟨wr.heap.size, 1, none⟩ = some (.int .i64 qb) := bel_cell hb2 (new_cell rfl))
              | (go_at_call 23; refine (between_any _ _ _ _).mono ?_; rintro e w' ⟨rfl, rfl⟩; rw [H1.out])
              | (go_at_call 53; refine (heard2_any _ _ _).mono ?_; rintro e w3 ⟨rfl, hb3⟩; rw [H2.out]))
            refine wp_region_later (by kernel_rfl) (by kernel_rfl) ?_
            repeat (go_big_quiet_step (fail))
            refine wpQuiet_nil ?_
            rintro w4 ⟨⟨_, hb4⟩, rfl⟩
            go_wp2
            go_roundw
            case rel => exact ⟨k + 1, by omega, by go_num, rise_on Hall.out (by have e := Hk0.out; subst e; exact at_first hq.out H1.out H2.out), below_trans (below_trans (below_trans (below_alloc hb _) hb2) hb3) hb4⟩
            case measure => simp [intOf]; omega
          · have g0 : decide (0 < k) = true := by simp; omega
            obtain ⟨j, hj⟩ : ∃ j : Nat, (k : Int) - 1 = j := ⟨k - 1, by omega⟩
            have Hj : Hid (k = j + 1) := Lib.hid (by omega)
            have hjl : j < l.length := by omega
            obtain ⟨bk', off', qs', qb', e', hbb', hq', c0', c1'⟩ := hA.hrd hjl hb
            simp only [Option.some.injEq, Addr.mk.injEq, and_true] at e'
            obtain ⟨rfl, rfl⟩ := e'
            clear hk0
            cases g1 : decide (qs ≤ qs')
            all_goals
              go_wp2_with (first
                | (go_at_call 52; refine (heard1_any _ _ _).mono ?_; rintro e w2 ⟨rfl, hb2⟩; have d0 : w2.cell? ⟨wr.heap.size, 0, none⟩ = some (.int .i64 qs) := bel_cell hb2 (new_cell rfl); have d1 : w2.cell? ⟨wr.heap.size, 1, none⟩ = some (.int .i64 qb) := bel_cell hb2 (new_cell rfl))
                | (go_at_call 23; refine (between_any _ _ _ _).mono ?_; rintro e w' ⟨rfl, rfl⟩; rw [H1.out])
                | (go_at_call 53; refine (heard2_any _ _ _).mono ?_; rintro e w3 ⟨rfl, hb3⟩; rw [H2.out]))
              have f0 := later_cell (bel_cell hb3 d0); have f1 := later_cell (bel_cell hb3 d1)
              have hb03 := below_trans (below_trans (below_alloc (Below.refl _ wr) _) hb2) hb3
              have p0 := later_cell (bel_cell hb03 c0'); have p1 := later_cell (bel_cell hb03 c1')
              refine wp_region_later (by kernel_rfl) (by kernel_rfl) ?_
              repeat (go_big_quiet_step ((go_at_call 52; exact calls_later (heard1_any _ _ _))))
              refine wpQuiet_nil ?_
              rintro w4 ⟨⟨_, hb4⟩, rfl⟩
              go_wp2
            · go_roundw
              case rel => exact ⟨k + 1, by omega, by go_num, rise_on Hall.out (by have e := Hj.out; subst e; exact at_ok hq.out hq'.out H1.out H2.out (by simpa using g1)), below_trans (below_trans (below_trans (below_alloc hb _) hb2) hb3) hb4⟩
              case measure => simp [intOf]; omega
            · go_ret
              exact ⟨ret_int (rise_err Hall.out hlt (by have e := Hj.out; subst e; exact at_form hq.out hq'.out H1.out H2.out (by simpa using g1)) (by decide)).symm, below_trans (below_trans (below_trans (below_alloc hb _) hb2) hb3) hb4⟩
    · go_wp2
      go_ret
      exact ⟨ret_int (rise_yes Hall.out (by omega)).symm, hb⟩

end Go.Proofs.YteoaaphjbggobaaGreatDoor
