/- Contract of the reference's brought. For 64-bit numbers with a positive denominator. -/
import Derived.Test.YteoaaphjbggobaaGreatDoorRcdA
import Derived.Test.YteoaaphjbggobaaGreatDoorRfxAll
import Derived.Test.YteoaaphjbggobaaGreatDoorRefAll
namespace Go.Proofs.YteoaaphjbggobaaGreatDoor
open Go.RowKit
set_option linter.unusedVariables false
set_option linter.unusedSimpArgs false

theorem results_cell1 {fn : Func} {p : Tmp} {ty : TypeId} (h : fn.results = #[.cell p ty]) (tmps : Array Value) (P : Program) (w : World) :
    (results fn tmps).run P w =
      ((asAddr (tmps.getD p undef)).run P w).andThen fun a w₁ => (loadVar ty a).run P w₁ := by
  simp only [results, h]
  simp [Sem.run_bind, Result.andThen]
/-- The numerator that brought takes. -/
def brtN (num : Int) (D : Nat) : Nat := (max 0 (min num (D : Int))).toNat
theorem one_valid {f : Frc} (h1 : f.l.length ≤ 64) (h2 : f.m.length ≤ 64) (h5 : 0 < V f.m) : validE [f] = 0 := by
  refine validE_zero.2 ⟨?_, ?_⟩
  · simp [Frc.lng]; omega
  · simp [Frc.zro]; omega
theorem small_64 {n : Nat} (h : n < 18446744073709551616) : (limbs n).length ≤ 64 ∧ (dg n).length ≤ 256 :=
  ⟨Nat.le_trans (limbs_le_of (k := 2) (Nat.lt_of_lt_of_le h (by decide))) (by decide), Nat.le_trans (dg_len (m := 64) (k := 8) h (by decide)) (by decide)⟩

end Go.Proofs.YteoaaphjbggobaaGreatDoor
