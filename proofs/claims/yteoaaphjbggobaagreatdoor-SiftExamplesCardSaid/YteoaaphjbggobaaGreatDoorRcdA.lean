/- Contracts of the reference's gcd, reduced, Reduce. For numbers of at most 3000000 digits whose quotients have at most 256. -/
import Derived.Test.YteoaaphjbggobaaGreatDoorRfxAll
import Derived.Test.YteoaaphjbggobaaGreatDoorGcdAll
import Derived.Deep.LoopGhost
namespace Go.Proofs.YteoaaphjbggobaaGreatDoor
open Go.RowKit
set_option linter.unusedVariables false
set_option linter.unusedSimpArgs false

theorem dg_nil : dg 0 = [] := by unfold dg; exact digB_zero ..
theorem dg_mono {x y : Nat} (h : x ≤ y) : (dg x).length ≤ (dg y).length := digB_len_le b8 (Nat.lt_of_le_of_lt h (digB_lt b8 y))
theorem dgl_le {l : List Nat} (h : Dig B32 l) : (dg (V l)).length ≤ 4 * l.length := dg_len (m := 32 * l.length) (k := 4 * l.length) (V_lt h) (by omega)
theorem dg_none {x : Nat} (h : (dg x).length = 0) : x = 0 := by
  have := digB_lt b8 x
  unfold dg at h
  rw [h] at this
  simpa using this

theorem redS {w y : World} {a b : Value} (h : Below w.heap.size w y) (h0 : y.cell? ⟨w.heap.size, 0, none⟩ = some a) (h1 : y.cell? ⟨w.heap.size, 1, none⟩ = some b) (u v : Value) :
    Below w.heap.size w ((y.setCell ⟨w.heap.size + 1, 0, none⟩ u).setCell ⟨w.heap.size + 1, 1, none⟩ v) ∧ ((y.setCell ⟨w.heap.size + 1, 0, none⟩ u).setCell ⟨w.heap.size + 1, 1, none⟩ v).cell? ⟨w.heap.size, 0, none⟩ = some a ∧ ((y.setCell ⟨w.heap.size + 1, 0, none⟩ u).setCell ⟨w.heap.size + 1, 1, none⟩ v).cell? ⟨w.heap.size, 1, none⟩ = some b := by
  have e : w.heap.size ≤ w.heap.size + 1 := by omega
  refine ⟨(h.setCell e u).setCell e v, ?_, ?_⟩ <;> go_simp

end Go.Proofs.YteoaaphjbggobaaGreatDoor
