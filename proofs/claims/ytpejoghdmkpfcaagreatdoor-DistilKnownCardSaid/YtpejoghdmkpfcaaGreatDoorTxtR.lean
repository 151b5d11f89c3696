/- Contracts of the reference's words, digits and Text. For a ledger. -/
import Derived.Test.YtpejoghdmkpfcaaGreatDoorTxtA
import Derived.Test.YtpejoghdmkpfcaaGreatDoorLedAll
import Derived.Deep.RegionHeld3
namespace Go.Proofs.YtpejoghdmkpfcaaGreatDoor
open Go.RowKit
set_option linter.unusedVariables false
set_option linter.unusedSimpArgs false

/-- The condition on the worlds may be strengthened on the way. -/
theorem held_mono {P : Program} {md : Region.Mode} {ops : Array Oper} {Q : Exit → Act → World → Prop} {S S' : World → Prop} (hS : ∀ w, S' w → S w) : ∀ (fuel : Nat) (listed : Array Bool) (a : Act) (w : World), wpAnyH P md ops Q S' fuel listed a w → wpAnyH P md ops Q S fuel listed a w
  | 0, _, _, _, h => h
  | fuel + 1, listed, a, w, h => ⟨h.1, fun i hi => wpOp_mono (fun a' w' hh => ⟨hS w' hh.1, held_mono hS fuel _ a' w' hh.2⟩) (h.2 i hi)⟩

theorem dec_step {n : Nat} (h : ¬ n < 10) : Lib.decDigits n = Lib.decDigits (n / 10) ++ Lib.decDigits (n % 10) := by
  conv => lhs; rw [Lib.decDigits]
  rw [dif_neg h, Lib.decDigits_one (i := n % 10) (by omega)]
theorem dec_len {n : Nat} (h : n ≤ 65536) : (Lib.decDigits n).length ≤ 21 := by
  have := Lib.itoa_length_le (n : Int) (by omega) (by omega)
  rwa [Lib.itoa_nonneg] at this

end Go.Proofs.YtpejoghdmkpfcaaGreatDoor
