/- Contracts of the reference's within, Check, Total, Of. For lists whose length is an int's. -/
import Derived.Test.YtiphhkfmemkldaaDoorLedD
namespace Go.Proofs.YtiphhkfmemkldaaDoor
open Go.RowKit
set_option linter.unusedVariables false
set_option linter.unusedSimpArgs false

set_option maxHeartbeats 400000 in
theorem within6_any (n b : Int) (w : World) :
    Calls Tryd.prog 84 #[.int .i64 n, .int .i64 b] w fun e w' => e = .returned (.bool (betwB n 0 b)) ∧ w = w' := by
  go_enter Tryd.func84, Tryd.ntmps84
  go_wp2
  all_goals (go_ret; exact ⟨ret_bool (by simp [betwB]; try omega), rfl⟩)
theorem kind_cases (k : Int) : (kindB k = true ∧ 1 ≤ k ∧ k ≤ 4) ∨ (kindB k = false ∧ k < 1) ∨ (kindB k = false ∧ 4 < k) := by
  unfold kindB betwB
  by_cases h1 : 1 ≤ k <;> by_cases h2 : k ≤ 4 <;> simp [h1, h2] <;> omega

set_option maxHeartbeats 1000000 in
theorem rLed_any (A : Option Addr) (c : Nat) (l : List Itm) (w : World) (h : Arr 2 Itm.enc w w.heap.size A l) (hl : l.length ≤ 4611686018427387904) :
    Calls Tryd.prog 66 #[.slice A l.length c] w fun e w' => e = .returned (.int .i64 (ledE l)) ∧ w = w' := by
  by_cases h4 : 1000 < l.length
  · go_enter Tryd.func66, Tryd.ntmps66
    go_wp2
    go_ret
    exact ⟨ret_int (ledE_many h4).symm, rfl⟩
  · have h4' : decide (1000 < (l.length : Int)) = false := by simp; omega
    go_enter Tryd.func66, Tryd.ntmps66
    go_wp2
    go_loop [3] (fun i => ∃ k : Nat, k ≤ l.length ∧ i = .int .i64 k ∧ firstE (l.take k) = 0) (fun i => l.length - (intOf i).toNat)
    case atStart => exact ⟨0, Nat.zero_le _, rfl, rfl⟩
    case round =>
      obtain ⟨k, hk, rfl, hall⟩ := hrel
      have Hall := Lib.hid hall; clear hall
      by_cases hlt : k < l.length
      · obtain ⟨b, off, qk, qb, rfl, hbb, hq, c0, c1⟩ := h.itm hlt (Below.refl _ _)
        rcases itmE_cases ⟨qk, qb⟩ with ⟨k1, e1⟩ | ⟨k1, k2, e1⟩ | ⟨k1, k2, e1⟩
        · have fin := Lib.hid ((ledE_few h4).trans ((first_bad Hall.out hq.out (by rw [e1]; decide)).trans e1))
          clear e1
          rcases kind_cases qk with ⟨h1, _⟩ | ⟨_, h1⟩ | ⟨_, h1⟩
          · simp only at k1; rw [h1] at k1; cases k1
          · clear k1
            go_wp2
            go_ret
            exact ⟨ret_int fin.out.symm, rfl⟩
          · clear k1
            have h1' : ¬ qk < 1 := by omega
            go_wp2
            go_ret
            exact ⟨ret_int fin.out.symm, rfl⟩
        · have K2 := Lib.hid k2
          have fin := Lib.hid ((ledE_few h4).trans ((first_bad Hall.out hq.out (by rw [e1]; decide)).trans e1))
          obtain ⟨h1, h2⟩ : 1 ≤ qk ∧ qk ≤ 4 := by simpa [kindB, betwB] using k1
          clear k1 k2 e1
          go_wp2_with (go_at_call 84; refine (within6_any _ _ _).mono ?_; rintro e w' ⟨rfl, rfl⟩; rw [K2.out])
          go_ret
          exact ⟨ret_int fin.out.symm, rfl⟩
        · have K2 := Lib.hid k2
          have fin := Lib.hid (first_take Hall.out hq.out e1)
          obtain ⟨h1, h2⟩ : 1 ≤ qk ∧ qk ≤ 4 := by simpa [kindB, betwB] using k1
          clear k1 k2 e1
          go_wp2_with (go_at_call 84; refine (within6_any _ _ _).mono ?_; rintro e w' ⟨rfl, rfl⟩; rw [K2.out])
          go_round
          case rel => exact ⟨k + 1, by omega, by go_num, fin.out⟩
          case measure => simp [intOf]; omega
      · go_wp2
        go_ret
        exact ⟨ret_int (by rw [ledE_few h4, ← Hall.out, List.take_of_length_le (by omega)]), rfl⟩

end Go.Proofs.YtiphhkfmemkldaaDoor
