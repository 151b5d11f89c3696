/- How the sift laws' slices of structs come in. No condition. -/
import Derived.Test.YthcjlfnkpmeonaaOpenG
namespace Go.Proofs.Ythcjlfnkpmeonaa
open Go.ChangeShapes Go.WideShapes Go.ChangeAt Go.RowKit Go.Deep Go.Joins
set_option linter.unusedVariables false
set_option linter.unusedSimpArgs false

section
variable {H : Type} {en : TypeId × Value → H} {w : World} {base : Nat} {spare : Nat → Bool} {held : Bool}
theorem dec_click {n : Nat} {cs : List Value} {y : DataW H × List MemPlace} (h : DataW.trod en Try.prog w base spare held n 113 cs = some y) : ∃ x : Clk, cs = x.enc ∧ (i64ok x.basis ∧ i64ok x.kind) := by
  obtain ⟨hlen, n', hf⟩ := trod_fields Try.underlying113 (by kernel_rfl) (by kernel_rfl) h
  match cs, hlen with
  | [c0, c1], _ =>
    obtain ⟨_, h0⟩ := hf 0 _ c0 rfl rfl
    obtain ⟨_, h1⟩ := hf 1 _ c1 rfl rfl
    obtain ⟨a, e0, _, w0⟩ := DataW.trod_int Try.underlying3 h0
    obtain ⟨b, e1, _, w1⟩ := DataW.trod_int Try.underlying3 h1
    simp at e0 e1; subst e0 e1
    exact ⟨⟨a, b⟩, rfl, i64ok_of w0, i64ok_of w1⟩
theorem dec_pulse {n : Nat} {cs : List Value} {y : DataW H × List MemPlace} (h : DataW.trod en Try.prog w base spare held n 116 cs = some y) : ∃ x : Pls, cs = x.enc ∧ (i64ok x.basis ∧ i64ok x.cls ∧ i64ok x.ph) := by
  obtain ⟨hlen, n', hf⟩ := trod_fields Try.underlying116 (by kernel_rfl) (by kernel_rfl) h
  match cs, hlen with
  | [c0, c1, c2, c3, c4], _ =>
    obtain ⟨_, h0⟩ := hf 0 _ c0 rfl rfl
    obtain ⟨_, h1⟩ := hf 1 _ c1 rfl rfl
    obtain ⟨_, h2⟩ := hf 2 _ c2 rfl rfl
    obtain ⟨_, h3⟩ := hf 3 _ c3 rfl rfl
    obtain ⟨_, h4⟩ := hf 4 _ c4 rfl rfl
    obtain ⟨a, e0, _, w0⟩ := DataW.trod_int Try.underlying3 h0
    obtain ⟨b, e1, _⟩ := DataW.trod_bool Try.underlying4 h1
    obtain ⟨c, e2, _, w2⟩ := DataW.trod_int Try.underlying3 h2
    obtain ⟨d, e3, _, w3⟩ := DataW.trod_int Try.underlying3 h3
    obtain ⟨f, e4, _⟩ := DataW.trod_bool Try.underlying4 h4
    simp at e0 e1 e2 e3 e4; subst e0 e1 e2 e3 e4
    exact ⟨⟨a, b, c, d, f⟩, rfl, i64ok_of w0, i64ok_of w2, i64ok_of w3⟩
end

end Go.Proofs.Ythcjlfnkpmeonaa
