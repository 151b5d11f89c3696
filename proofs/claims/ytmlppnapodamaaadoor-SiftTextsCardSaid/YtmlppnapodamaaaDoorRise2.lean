/- Contracts of the checks of slots and of the reference's checks: 'heardE' and 'slotsE'. No condition but that a list's length is an int's. -/
import Derived.Test.YtmlppnapodamaaaDoorRise
namespace Go.Proofs.YtmlppnapodamaaaDoor
open Go.RowKit
set_option linter.unusedVariables false
set_option linter.unusedSimpArgs false

theorem checkHeard_any (A : Option Addr) (n : Nat) (l : List Hrd) (a b : Int) (w : World) (hA : Arr 2 Hrd.enc w w.heap.size A l) (hl : l.length ≤ 4611686018427387904) :
    Calls Tryd.prog 12 #[.slice A l.length n, .int .i64 a, .int .i64 b] w fun e w' => e = .returned (.int .i64 (heardE l a b)) ∧ Below w.heap.size w w' := by
  go_enter Tryd.func12, Tryd.ntmps12
  go_wp2_with (go_at_call 27; refine (risingHeard_any A n l a b _ hA hl).mono ?_; rintro e w2 ⟨rfl, hb2⟩)
  go_ret
  exact ⟨rfl, hb2⟩
set_option maxRecDepth 100000 in
set_option maxHeartbeats 2000000 in
theorem refFault_any (A : Option Addr) (n : Nat) (l : List Hrd) (a b : Int) (w : World) (hA : Arr 2 Hrd.enc w w.heap.size A l) (hl : l.length ≤ 4611686018427387904) :
    Calls Tryd.prog 16 #[.slice A l.length n, .int .i64 a, .int .i64 b] w fun e w' => e = .returned (.int .i64 (heardE l a b)) ∧ Below w.heap.size w w' := by
  go_enter Tryd.func16, Tryd.ntmps16
  go_wp2
  go_loopw [7] (fun i wr => ∃ k : Nat, k ≤ l.length ∧ i = .int .i64 k ∧ riseTo Hrd.slot hFault a b l k = 0 ∧ Below w.heap.size w wr) (fun i _ => l.length - (intOf i).toNat)
  case atStart => exact ⟨0, Nat.zero_le _, rfl, rfl, Below.refl _ _⟩
  case round =>
    obtain ⟨k, hk, rfl, hall, hb⟩ := hrel
    have Hall := Lib.hid hall; clear hall
    by_cases hlt : k < l.length
    · obtain ⟨bk, off, x, z, rfl, hbb, hq, c0, c1⟩ := hA.hrd hlt hb
      by_cases h0 : x < a
      · have g : decide (x < a) = true := by simpa using h0
        have H1 : Hid (betwB x a b = false) := Lib.hid (by simp [betwB]; omega)
        go_wp2
        go_ret
        exact ⟨ret_int (rise_err Hall.out hlt (at_range hq.out H1.out) (by decide)).symm, hb⟩
      by_cases h1 : b < x
      · have g : decide (x < a) = false := by simpa using h0
        have g' : decide (b < x) = true := by simpa using h1
        have H1 : Hid (betwB x a b = false) := Lib.hid (by simp [betwB]; omega)
        go_wp2
        go_ret
        exact ⟨ret_int (rise_err Hall.out hlt (at_range hq.out H1.out) (by decide)).symm, hb⟩
      have g : decide (x < a) = false := by simpa using h0
      have g' : decide (b < x) = false := by simpa using h1
      have H1 : Hid (betwB x a b = true) := Lib.hid (by simp [betwB]; omega)
      by_cases h2 : z < 0
      · have g2 : decide (z < 0) = true := by simpa using h2
        have H2 := Lib.hid (hFault_yes (qs := x) (qb := z) (by simp [betwB]; omega))
        go_wp2
        go_ret
        exact ⟨ret_int (by rw [heardE, rise_err Hall.out hlt (at_fault hq.out H1.out (by rw [H2.out]; decide)) (by rw [H2.out]; decide), H2.out]), hb⟩
      by_cases h3 : 1 < z
      · have g2 : decide (z < 0) = false := by simpa using h2
        have g3 : decide (1 < z) = true := by simpa using h3
        have H2 := Lib.hid (hFault_yes (qs := x) (qb := z) (by simp [betwB]; omega))
        go_wp2
        go_ret
        exact ⟨ret_int (by rw [heardE, rise_err Hall.out hlt (at_fault hq.out H1.out (by rw [H2.out]; decide)) (by rw [H2.out]; decide), H2.out]), hb⟩
      have g2 : decide (z < 0) = false := by simpa using h2
      have g3 : decide (1 < z) = false := by simpa using h3
      have H2 := Lib.hid (hFault_no (qs := x) (qb := z) (by simp [betwB]; omega))
      have d0 := later_cell c0
      by_cases hk0 : k = 0
      · have Hk0 := Lib.hid hk0
        have g0 : decide (0 < k) = false := by simp; omega
        clear hk0
        go_wp2
        refine wp_region_later (by kernel_rfl) (by kernel_rfl) ?_
        repeat (go_big_quiet_step (fail))
        refine wpQuiet_nil ?_
        rintro w4 ⟨⟨_, hb4⟩, rfl⟩
        go_wp2
        go_roundw
        case rel => exact ⟨k + 1, by omega, by go_num, rise_on Hall.out (by have e := Hk0.out; subst e; exact at_first hq.out H1.out H2.out), below_trans hb hb4⟩
        case measure => simp [intOf]; omega
      · have g0 : decide (0 < k) = true := by simp; omega
        obtain ⟨j, hj⟩ : ∃ j : Nat, (k : Int) - 1 = j := ⟨k - 1, by omega⟩
        have Hj : Hid (k = j + 1) := Lib.hid (by omega)
        have hjl : j < l.length := by omega
        obtain ⟨bk', off', y, z', e', hbb', hq', c0', c1'⟩ := hA.hrd hjl hb
        simp only [Option.some.injEq, Addr.mk.injEq, and_true] at e'
        obtain ⟨rfl, rfl⟩ := e'
        have d0' := later_cell c0'
        clear hk0
        cases g1 : decide (x ≤ y)
        all_goals
          go_wp2
          refine wp_region_later (by kernel_rfl) (by kernel_rfl) ?_
          repeat (go_big_quiet_step (fail))
          refine wpQuiet_nil ?_
          rintro w4 ⟨⟨_, hb4⟩, rfl⟩
          go_wp2
        · go_roundw
          case rel => exact ⟨k + 1, by omega, by go_num, rise_on Hall.out (by have e := Hj.out; subst e; exact at_ok hq.out hq'.out H1.out H2.out (by simpa using g1)), below_trans hb hb4⟩
          case measure => simp [intOf]; omega
        · go_ret
          exact ⟨ret_int (rise_err Hall.out hlt (by have e := Hj.out; subst e; exact at_form hq.out hq'.out H1.out H2.out (by simpa using g1)) (by decide)).symm, below_trans hb hb4⟩
    · go_wp2
      go_ret
      exact ⟨ret_int (rise_yes Hall.out (by omega)).symm, hb⟩

end Go.Proofs.YtmlppnapodamaaaDoor
