/- What the listed package variables give the walks; a world that meets the list; for rows that list three tables. No condition. -/
import Derived.Test.YtpejoghdmkpfcaaGreatDoorRows
import Derived.Test.YtpejoghdmkpfcaaGreatDoorTxtA
import Derived.Test.YtpejoghdmkpfcaaGreatDoorOpenG
import Derived.ProofKit
import Derived.LaidMore
import Derived.OpenShut
import Derived.Stop.Joined
import Derived.Lib.LaidTab
import Derived.Stop.LaidErr
namespace Go.Proofs.YtpejoghdmkpfcaaGreatDoor
open Go.ChangeShapes Go.WideShapes Go.ChangeAt Go.RowKit Go.Deep Go.Joins
set_option linter.unusedVariables false
set_option linter.unusedSimpArgs false

def laid3 : List (String × DataW Unit) := [("math/bits.deBruijn32tab", Rows.laid_math_bits_deBruijn32tab), ("math/bits.deBruijn64tab", Rows.laid_math_bits_deBruijn64tab), ("internal/strconv.uint64pow10", Rows.laid_internal_strconv_uint64pow10)]
theorem own : ownKnob Tryz.prog.godebug = none := by kernel_rfl
theorem laidOut : laidOutB Tryz.prog = true := by kernel_rfl
theorem door3 (os : Os) (args : Array Value) : laidMetH Tryz.prog laid3 ((World.doorLaid Tryz.prog 400 os).forCall (fun _ _ => 0) ⟨#[], args, []⟩).memory :=
  laidMetH_of_parts3 (fuel := 8) (laidMet_of_run' 8 (by kernel_rfl) (by kernel_rfl)) (by kernel_rfl) (by kernel_rfl)
theorem tab_data : (Rows.laid_internal_strconv_uint64pow10 : DataW Unit) = Lib.tabData .u64 Lib.pow10Tab := by kernel_rfl
theorem tab3 {W : World} (h : laidMetH Tryz.prog laid3 W) : Tab W := by
  rw [MakeChecks.laidMetH_plain _ _ _ (by kernel_rfl)] at h
  have h2 : laidMet Tryz.prog [("internal/strconv.uint64pow10", Lib.tabData .u64 Lib.pow10Tab)] W := by
    rw [← tab_data]; exact laidMet.tail (laidMet.tail h)
  exact Lib.tabIs_of_head tab_name (t := 179) (by kernel_rfl) Tryz.underlying179 Tryz.underlying27 (by kernel_rfl) (by kernel_rfl) h2

section
variable {H : Type} {en : TypeId × Value → H} {w : World} {base : Nat} {spare : Nat → Bool} {held : Bool}
theorem dec_item {n : Nat} {cs : List Value} {y : DataW H × List MemPlace} (h : DataW.trod en Tryz.prog w base spare held n 65 cs = some y) : ∃ x : Itm, cs = x.enc ∧ (i64ok x.kind ∧ i64ok x.bits) := by
  obtain ⟨hlen, n', hf⟩ := trod_fields Tryz.underlying65 (by kernel_rfl) (by kernel_rfl) h
  match cs, hlen with
  | [c0, c1], _ =>
    obtain ⟨_, h0⟩ := hf 0 _ c0 rfl rfl
    obtain ⟨_, h1⟩ := hf 1 _ c1 rfl rfl
    obtain ⟨a, e0, _, w0⟩ := DataW.trod_int Tryz.underlying3 h0
    obtain ⟨b, e1, _, w1⟩ := DataW.trod_int Tryz.underlying3 h1
    simp at e0 e1; subst e0 e1
    exact ⟨⟨a, b⟩, rfl, i64ok_of w0, i64ok_of w1⟩
end

end Go.Proofs.YtpejoghdmkpfcaaGreatDoor
