/- Contracts of the checks of slots and of the reference's checks: 'heardE' and 'slotsE'. No condition but that a list's length is an int's. -/
import Derived.Test.YteoaaphjbggobaaGreatRise
namespace Go.Proofs.YteoaaphjbggobaaGreat
open Go.RowKit
set_option linter.unusedVariables false
set_option linter.unusedSimpArgs false

theorem slots1_any (x : Int) (w : World) : Calls Tryz.prog 112 #[.int .i64 x] w fun e w' => e = .returned (.int .i64 x) ∧ w = w' := by
  go_enter Tryz.func112, Tryz.ntmps112
  go_wp2
  go_ret
  exact ⟨rfl, rfl⟩
theorem slots2_any (x : Int) (w : World) : Calls Tryz.prog 113 #[.int .i64 x] w fun e w' => e = .returned (.int .i64 0) ∧ w = w' := by
  go_enter Tryz.func113, Tryz.ntmps113
  go_wp2
  go_ret
  exact ⟨rfl, rfl⟩

set_option maxRecDepth 100000 in
set_option maxHeartbeats 2000000 in
theorem risingInt_any (A : Option Addr) (n : Nat) (l : List Int) (a b : Int) (w : World) (hA : Arr 1 encI w w.heap.size A l) (hl : l.length ≤ 4611686018427387904) :
    Calls Tryz.prog 111 #[.slice A l.length n, .func (.func 112) #[] #[], .int .i64 a, .int .i64 b, .func (.func 113) #[] #[]] w fun e w' => e = .returned (.int .i64 (slotsE l a b)) ∧ w = w' := by
  go_enter Tryz.func111, Tryz.ntmps111
  go_wp2
  go_loop [16] (fun i => ∃ k : Nat, k ≤ l.length ∧ i = .int .i64 k ∧ riseTo idI noFault a b l k = 0) (fun i => l.length - (intOf i).toNat)
  case atStart => exact ⟨0, Nat.zero_le _, rfl, rfl⟩
  case round =>
    obtain ⟨k, hk, rfl, hall⟩ := hrel
    have Hall := Lib.hid hall; clear hall
    by_cases hlt : k < l.length
    · obtain ⟨bk, off, x, rfl, hbb, hq, c0⟩ := hA.int hlt (Below.refl _ _)
      cases h1 : betwB x a b
      · have H1 := Lib.hid h1; clear h1
        go_wp2_with (first
          | (go_at_call 112; refine (slots1_any _ _).mono ?_; rintro e w' ⟨rfl, rfl⟩)
          | (go_at_call 57; refine (between_any _ _ _ _).mono ?_; rintro e w' ⟨rfl, rfl⟩; rw [H1.out]))
        go_ret
        exact ⟨ret_int (rise_err Hall.out hlt (at_range hq.out H1.out) (by decide)).symm, rfl⟩
      · have H1 := Lib.hid h1; clear h1
        by_cases hk0 : k = 0
        · have Hk0 := Lib.hid hk0
          have g0 : decide (0 < k) = false := by simp; omega
          clear hk0
          go_wp2_with (first
            | (go_at_call 112; refine (slots1_any _ _).mono ?_; rintro e w' ⟨rfl, rfl⟩)
            | (go_at_call 113; refine (slots2_any _ _).mono ?_; rintro e w' ⟨rfl, rfl⟩)
            | (go_at_call 57; refine (between_any _ _ _ _).mono ?_; rintro e w' ⟨rfl, rfl⟩; rw [H1.out]))
          go_round
          case rel => exact ⟨k + 1, by omega, by go_num, rise_on Hall.out (by have e := Hk0.out; subst e; exact at_first hq.out H1.out rfl)⟩
          case measure => simp [intOf]; omega
        · have g0 : decide (0 < k) = true := by simp; omega
          obtain ⟨j, hj⟩ : ∃ j : Nat, (k : Int) - 1 = j := ⟨k - 1, by omega⟩
          have Hj : Hid (k = j + 1) := Lib.hid (by omega)
          have hjl : j < l.length := by omega
          obtain ⟨bk', off', y, e', hbb', hq', c0'⟩ := hA.int hjl (Below.refl _ _)
          simp only [Option.some.injEq, Addr.mk.injEq, and_true] at e'
          obtain ⟨rfl, rfl⟩ := e'
          clear hk0
          cases g1 : decide (x ≤ y)
          all_goals
            go_wp2_with (first
              | (go_at_call 112; refine (slots1_any _ _).mono ?_; rintro e w' ⟨rfl, rfl⟩)
              | (go_at_call 113; refine (slots2_any _ _).mono ?_; rintro e w' ⟨rfl, rfl⟩)
              | (go_at_call 57; refine (between_any _ _ _ _).mono ?_; rintro e w' ⟨rfl, rfl⟩; rw [H1.out]))
          · go_round
            case rel => exact ⟨k + 1, by omega, by go_num, rise_on Hall.out (by have e := Hj.out; subst e; exact at_ok hq.out hq'.out H1.out rfl (by simpa [idI] using g1))⟩
            case measure => simp [intOf]; omega
          · go_ret
            exact ⟨ret_int (rise_err Hall.out hlt (by have e := Hj.out; subst e; exact at_form hq.out hq'.out H1.out rfl (by simpa [idI] using g1)) (by decide)).symm, rfl⟩
    · go_wp2
      go_ret
      exact ⟨ret_int (rise_yes Hall.out (by omega)).symm, rfl⟩

theorem checkHeard_any (A : Option Addr) (n : Nat) (l : List Hrd) (a b : Int) (w : World) (hA : Arr 2 Hrd.enc w w.heap.size A l) (hl : l.length ≤ 4611686018427387904) :
    Calls Tryz.prog 64 #[.slice A l.length n, .int .i64 a, .int .i64 b] w fun e w' => e = .returned (.int .i64 (heardE l a b)) ∧ Below w.heap.size w w' := by
  go_enter Tryz.func64, Tryz.ntmps64
  go_wp2_with (go_at_call 108; refine (risingHeard_any A n l a b _ hA hl).mono ?_; rintro e w2 ⟨rfl, hb2⟩)
  go_ret
  exact ⟨rfl, hb2⟩
theorem checkSlots_any (A : Option Addr) (n : Nat) (l : List Int) (a b : Int) (w : World) (hA : Arr 1 encI w w.heap.size A l) (hl : l.length ≤ 4611686018427387904) :
    Calls Tryz.prog 65 #[.slice A l.length n, .int .i64 a, .int .i64 b] w fun e w' => e = .returned (.int .i64 (slotsE l a b)) ∧ w = w' := by
  go_enter Tryz.func65, Tryz.ntmps65
  go_wp2_with (go_at_call 111; refine (risingInt_any A n l a b _ hA hl).mono ?_; rintro e w' ⟨rfl, rfl⟩)
  go_ret
  exact ⟨rfl, rfl⟩

end Go.Proofs.YteoaaphjbggobaaGreat
