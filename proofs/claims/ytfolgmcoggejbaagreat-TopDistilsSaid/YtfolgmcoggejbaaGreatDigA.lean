/- Contracts of Digest and Confirm, the program's and the reference's. For any width, key and digest; strings of at most 100000 bits. -/
import Derived.Test.YtfolgmcoggejbaaGreatGfK
namespace Go.Proofs.YtfolgmcoggejbaaGreat
open Go.RowKit
set_option linter.unusedVariables false
set_option linter.unusedSimpArgs false

def digE (w : Int) (key : Nat) (m : List Bool) : Int := if 512 < m.length then 4 else hshE w key m
def digN (w : Int) (key : Nat) (m : List Bool) : Nat := if 512 < m.length then 0 else hshN w key m
def cfE (w : Int) (key : Nat) (m : List Bool) (d : Nat) : Int := if digE w key m = 0 ∧ digN w key m ≠ d then 19 else digE w key m

set_option maxHeartbeats 400000 in
theorem Digest_any (w : Int) (key : Nat) (A : Option Addr) (c : Nat) (m : List Bool) (v : World) (h : Arr 1 encB v v.heap.size A m) (hc : m.length ≤ c) (hmc : c ≤ maxLen) :
    Calls Tryz.prog 11 #[.int .i64 w, .int .u64 key, .slice A m.length c] v fun e v' => e = .returned (.tuple #[.int .u64 (digN w key m), .int .i64 (digE w key m)]) ∧ Below v.heap.size v v' := by
  by_cases hl : 512 < m.length
  · have F1 : Hid (digE w key m = 4 ∧ digN w key m = 0) := Lib.hid ⟨by unfold digE; rw [if_pos hl], by unfold digN; rw [if_pos hl]⟩
    have d1 : decide (512 < (m.length : Int)) = true := by simp; omega
    go_enter Tryz.func11, Tryz.ntmps11
    go_wp2
    go_ret2
    exact ⟨by rw [F1.out.1, F1.out.2]; rfl, Below.refl _ _⟩
  · have F1 : Hid (digE w key m = hshE w key m ∧ digN w key m = hshN w key m) := Lib.hid ⟨by unfold digE; rw [if_neg hl], by unfold digN; rw [if_neg hl]⟩
    have d1 : decide (512 < (m.length : Int)) = false := by simp; omega
    have cH := Hash_any w key A c m v h hc hmc
    go_enter Tryz.func11, Tryz.ntmps11
    go_wp2_with (go_at_call 51; refine cH.mono ?_; rintro e w1 ⟨rfl, hb1⟩)
    go_ret2
    exact ⟨by rw [F1.out.1, F1.out.2]; rfl, hb1⟩

/-- The three ways through Confirm. -/
theorem cf_cases (w : Int) (key : Nat) (m : List Bool) (d : Nat) :
    (cfE w key m d = digE w key m ∧ (digE w key m == 0) = false) ∨ (cfE w key m d = 0 ∧ digE w key m = 0 ∧ digN w key m = d) ∨ (cfE w key m d = 19 ∧ digE w key m = 0 ∧ ((digN w key m : Int) != (d : Int)) = true) := by
  by_cases h : digE w key m = 0
  · by_cases h2 : digN w key m = d
    · right; left; exact ⟨by unfold cfE; rw [if_neg (by simp [h2]), h], h, h2⟩
    · right; right; exact ⟨by unfold cfE; rw [if_pos ⟨h, h2⟩], h, by simp; omega⟩
  · left; exact ⟨by unfold cfE; rw [if_neg (by simp [h])], by simpa using h⟩

set_option maxHeartbeats 400000 in
theorem Confirm_any (w : Int) (key d : Nat) (A : Option Addr) (c : Nat) (m : List Bool) (v : World) (h : Arr 1 encB v v.heap.size A m) (hc : m.length ≤ c) (hmc : c ≤ maxLen) :
    Calls Tryz.prog 12 #[.int .i64 w, .int .u64 key, .slice A m.length c, .int .u64 d] v fun e v' => e = .returned (.int .i64 (cfE w key m d)) ∧ Below v.heap.size v v' := by
  have cD := Digest_any w key A c m v h hc hmc
  have cs := cf_cases w key m d
  generalize digE w key m = E at *
  generalize digN w key m = N at *
  generalize cfE w key m d = F at *
  rcases cs with ⟨rfl, h1⟩ | ⟨rfl, rfl, rfl⟩ | ⟨rfl, rfl, h2⟩
  all_goals (
    go_enter Tryz.func12, Tryz.ntmps12
    go_wp2_with (go_at_call 11; refine cD.mono ?_; rintro e w1 ⟨rfl, hb1⟩)
    go_ret
    exact ⟨rfl, hb1⟩)
end Go.Proofs.YtfolgmcoggejbaaGreat
