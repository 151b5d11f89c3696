/- The numbers of the closed statement DistilKnown. -/
import Derived.Test.YtpejoghdmkpfcaaGreatDoorPrsP
import Derived.Test.YtpejoghdmkpfcaaGreatDoorKnownD
import Derived.Test.YtpejoghdmkpfcaaGreatDoorPolF
import Derived.Test.YtpejoghdmkpfcaaGreatDoorMixA
namespace Go.Proofs.YtpejoghdmkpfcaaGreatDoor
open Go.RowKit Go.Maps
set_option linter.unusedVariables false
set_option linter.unusedSimpArgs false

theorem kw_ent3 : ent [⟨1, 7⟩] 3 16 = .yes [⟨1, 7⟩, ⟨3, 16⟩] := by kernel_rfl
theorem kw_led : ledE [⟨1, 7⟩, ⟨3, 16⟩] = 0 ∧ totE [⟨1, 7⟩, ⟨3, 16⟩] = 23 ∧ ofI [⟨1, 7⟩, ⟨3, 16⟩] 3 = 16 ∧ ofE [⟨1, 7⟩, ⟨3, 16⟩] 3 = 0 := by decide +kernel
theorem dig16 : Lib.itoa 16 = [49, 54] := by
  rw [show (16 : Int) = ((16 : Nat) : Int) from rfl, Lib.itoa_nonneg, dec_step (by decide), Lib.decDigits_one (i := 16 / 10) (by decide), Lib.decDigits_one (i := 16 % 10) (by decide)]; rfl
theorem kw_text : textL [⟨1, 7⟩, ⟨3, 16⟩] = [112, 97, 114, 105, 116, 121, 32, 55, 10, 104, 97, 115, 104, 32, 49, 54, 10] := by
  simp only [textL, lineL, List.flatMap_cons, List.flatMap_nil, dig7, dig16]; rfl
def kwS : List UInt8 := [112, 97, 114, 105, 116, 121, 32, 48, 55, 10]
theorem kw_ref : (refG [] kwS).map (fun x => (x.kind, x.bits)) = [(1, 7)] := by decide +kernel
theorem kw_read {E : Int} {L : List Itm} (h : ReadR kwS E L) : E = 6 ∧ L = [] := by
  have hr : refG [] kwS = [⟨1, 7⟩] := by
    have := kw_ref
    match hx : refG [] kwS, this with
    | [⟨a, b⟩], h => simp at h; obtain ⟨rfl, rfl⟩ := h; rfl
  have hne : ¬ (ledE (refG [] kwS) = 0 ∧ textL (refG [] kwS) = kwS) := by
    rw [hr, ex_text]
    exact fun h => absurd h.2 (by decide)
  rcases read_ref (s := kwS) with h1 | h1
  · exact (hne ⟨h1.1, h1.2.1⟩).elim
  · exact h.one h1.2
theorem kw_read0 {E : Int} {L : List Itm} (h : ReadR [] E L) : E = 0 ∧ L = [] := h.one (.inl ⟨rfl, by decide, rfl⟩)
theorem kw_cost : costI 8 1 = 4 ∧ costI 8 0 = 1 ∧ costI 8 8 = 9 := by decide +kernel
theorem kw_len : lenI 64 0 [⟨3, 16⟩] 60 = 0 := by decide +kernel
theorem kw_col : colN 8 [] [] = 256 ∧ colN 8 [false] [true] = 1 ∧ colE 32 [false] [true] = 2 := by decide +kernel
theorem kw_tag : tgN 8 2 5 (numL 1 8) = 18 ∧ tgE 8 2 5 (numL 1 8) = 0 := by decide +kernel
theorem kw_fr : frN 8 7 7 [false] [false] = 256 ∧ frN 8 7 8 [false] [false] = 0 := by decide +kernel
def kwB : List Bool := List.replicate 40 false
def kwC : List Bool := List.replicate 64 false
theorem kw_pool : kwB.length / (2 * 8) = 2 ∧ kwC.length / (2 * 8) = 4 ∧ nxE 8 kwB [] 0 = 0 ∧ nxI 8 kwB [] 0 = 0 ∧ nxE 8 kwB [] 1 = 0 ∧ nxI 8 kwB [] 1 = 1 ∧ plE 8 kwB [] 2 [] = 14 ∧ plE 8 kwB [] 0 [true] = 0 ∧ plE 8 kwB [0] 0 [true] = 16 ∧ nxE 8 kwB [0] 0 = 14 ∧ nxE 8 kwC [0] 0 = 0 ∧ nxI 8 kwC [0] 0 = 2 ∧ reE kwB (List.replicate 24 false) = 0 := by decide +kernel
theorem kw_bits : kwB ++ List.replicate 24 false = kwC := by decide
end Go.Proofs.YtpejoghdmkpfcaaGreatDoor
