/- Contracts of the reference's checks of lists, and of the two checks of both lists. No condition but that a list's length is an int's. -/
import Derived.Test.YtfolgmcoggejbaaGreatChk
namespace Go.Proofs.YtfolgmcoggejbaaGreat
open Go.RowKit
set_option linter.unusedVariables false
set_option linter.unusedSimpArgs false

set_option maxHeartbeats 400000 in
theorem checkBoth_any (A : Option Addr) (n : Nat) (p : List Pls) (C : Option Addr) (m : Nat) (c : List Clk) (w : World) (hA : Arr 5 Pls.enc w w.heap.size A p) (hC : Arr 2 Clk.enc w w.heap.size C c)
    (hl : p.length ≤ 4611686018427387904) (hm : c.length ≤ 4611686018427387904) :
    Calls Tryz.prog 252 #[.slice A p.length n, .slice C c.length m] w fun e w' => e = .returned (.int .i64 (bothE p c)) ∧ Below w.heap.size w w' := by
  by_cases hp : allE Pls.ok p = 0
  · have Hp := Lib.hid hp
    go_enter Tryz.func252, Tryz.ntmps252
    go_wp2_with (first | (go_at_call 258; refine (checkPulses_any A n p _ hA hl).mono ?_; rintro e w2 ⟨rfl, hb2⟩; rw [Hp.out]) | (go_at_call 255; refine (checkClicks_any C m c _ (hC.on hb2) hm).mono ?_; rintro e w3 ⟨rfl, hb3⟩))
    go_ret
    exact ⟨ret_int (by simp [bothE, Hp.out]), below_trans hb2 hb3⟩
  · have Hp := Lib.hid hp
    have hp' : (allE Pls.ok p != 0) = true := by simpa using hp
    go_enter Tryz.func252, Tryz.ntmps252
    go_wp2_with (go_at_call 258; refine (checkPulses_any A n p _ hA hl).mono ?_; rintro e w2 ⟨rfl, hb2⟩)
    go_ret
    exact ⟨ret_int (by simp [bothE, Hp.out]), hb2⟩

end Go.Proofs.YtfolgmcoggejbaaGreat
