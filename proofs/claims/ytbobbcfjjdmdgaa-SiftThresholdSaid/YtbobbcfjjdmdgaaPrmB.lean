/- Contracts of the reference's Below and Perm. For at most 65536 numbers. -/
import Derived.Test.YtbobbcfjjdmdgaaPrmA
import Derived.Test.YtbobbcfjjdmdgaaApt
namespace Go.Proofs.Ytbobbcfjjdmdgaa
open Go.RowKit
set_option linter.unusedVariables false
set_option linter.unusedSimpArgs false

theorem below_drw (w : World) (n : Nat) : Below w.heap.size w (w.drewN n) := ⟨rfl, rfl, rfl, Nat.le_refl _, fun _ _ => rfl⟩
theorem own_ptr' {α : Type} {w : World} {B e z : Nat} {enc : α → List Value} {v : Value} {l : List α} (h : Own w B e z enc v l) (hl : 0 < l.length) : ∃ g c, v = .slice (some ⟨g, 0, none⟩) l.length c ∧ B ≤ g ∧ g < w.heap.size := by
  rcases h.2 with ⟨_, h0⟩ | ⟨g, cap, cur, rfl, hb, hg, _⟩
  · omega
  · exact ⟨g, cap, rfl, hb, (Array.getElem?_eq_some_iff.1 hg).1⟩
end Go.Proofs.Ytbobbcfjjdmdgaa
