/- Contracts of the reference's Mul and Compare on small numbers; the yields and faults of both sides in one word. For any arrangement and gains. -/
import Derived.Test.YteoaaphjbggobaaGreatDoorYldAll
namespace Go.Proofs.YteoaaphjbggobaaGreatDoor
open Go.RowKit
set_option linter.unusedVariables false
set_option linter.unusedSimpArgs false

theorem frp_any {f : Nat} {args : Array Value} {w : World} {E num den : Int} (h1 : E = 0 → Calls Tryz.prog f args w fun e w' => FrP w w' (rdN (brtN num den.toNat) den.toNat) (rdD (brtN num den.toNat) den.toNat) 0 e) (h2 : E ≠ 0 → Calls Tryz.prog f args w fun e w' => FrP w w' 0 0 E e) : Calls Tryz.prog f args w fun e w' => FrP w w' (brN E num den) (brD E num den) E e := by
  unfold brN brD
  by_cases h : E = 0
  · rw [if_pos h, if_pos h, h]
    exact h1 h
  · rw [if_neg h, if_neg h]
    exact h2 h
theorem Yield_any (o : Opt) (g : Gn) (w : World) : Calls Tryz.prog 15 #[o.val, g.val] w fun e w' => FrP w w' (brN (gainsE o g) (yNum o g) (yDen o g)) (brD (gainsE o g) (yNum o g) (yDen o g)) (gainsE o g) e := frp_any (yld_ok o g w) (yld_no o g w)
theorem Faults_any (o : Opt) (g : Gn) (w : World) : Calls Tryz.prog 16 #[o.val, g.val] w fun e w' => FrP w w' (brN (gainsE o g) (fNum o g) (fDen o g)) (brD (gainsE o g) (fNum o g) (fDen o g)) (gainsE o g) e := frp_any (flt_ok o g w) (flt_no o g w)
end Go.Proofs.YteoaaphjbggobaaGreatDoor
