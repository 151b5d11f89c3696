/- How a flight's plan comes in: an arrangement, rules, a number, seeds, a first slot. No condition. -/
import Derived.Test.YthcjlfnkpmeonaaOpnO
import Derived.Test.YthcjlfnkpmeonaaRulA
namespace Go.Proofs.Ythcjlfnkpmeonaa
open Go.ChangeShapes Go.WideShapes Go.ChangeAt Go.RowKit Go.Deep Go.Joins
set_option linter.unusedVariables false
set_option linter.unusedSimpArgs false

theorem arr24 {cs : Array Value} (h : cs.size = 24) : ∃ c0 c1 c2 c3 c4 c5 c6 c7 c8 c9 c10 c11 c12 c13 c14 c15 c16 c17 c18 c19 c20 c21 c22 c23, cs = #[c0, c1, c2, c3, c4, c5, c6, c7, c8, c9, c10, c11, c12, c13, c14, c15, c16, c17, c18, c19, c20, c21, c22, c23] := by
  obtain ⟨l⟩ := cs
  match l, h with
  | [c0, c1, c2, c3, c4, c5, c6, c7, c8, c9, c10, c11, c12, c13, c14, c15, c16, c17, c18, c19, c20, c21, c22, c23], _ => exact ⟨_, _, _, _, _, _, _, _, _, _, _, _, _, _, _, _, _, _, _, _, _, _, _, _, rfl⟩
section
variable {H : Type} {en : TypeId × Value → H} {w : World} {base : Nat} {sp : Nat → Bool} {held : Bool}
theorem dec_rule {n : Nat} {cs : List Value} {y : DataW H × List MemPlace} (h : DataW.trod en Try.prog w base sp held n 97 cs = some y) : ∃ x : Rul, cs = x.enc ∧ True := by
  obtain ⟨hlen, n', hf⟩ := trod_fields Try.underlying97 (by kernel_rfl) (by kernel_rfl) h
  match cs, hlen with
  | [c0, c1, c2, c3, c4], _ =>
    obtain ⟨_, h0⟩ := hf 0 _ c0 rfl rfl
    obtain ⟨_, h1⟩ := hf 1 _ c1 rfl rfl
    obtain ⟨_, h2⟩ := hf 2 _ c2 rfl rfl
    obtain ⟨_, h3⟩ := hf 3 _ c3 rfl rfl
    obtain ⟨_, h4⟩ := hf 4 _ c4 rfl rfl
    obtain ⟨a, e0, _⟩ := DataW.trod_int Try.underlying3 h0
    obtain ⟨b, e1, _⟩ := DataW.trod_int Try.underlying3 h1
    obtain ⟨c, e2, _⟩ := DataW.trod_int Try.underlying3 h2
    obtain ⟨d, e3, _⟩ := DataW.trod_int Try.underlying3 h3
    obtain ⟨f, e4, _⟩ := DataW.trod_int Try.underlying3 h4
    simp at e0 e1 e2 e3 e4; subst e0 e1 e2 e3 e4
    exact ⟨⟨a, b, c, d, f⟩, rfl, trivial⟩
set_option maxRecDepth 100000 in
theorem opt_cells {fuel : Nat} {c0 c1 c2 c3 c4 c5 c6 c7 c8 c9 c10 c11 c12 c13 c14 c15 c16 c17 : Value} {y : DataW H × List MemPlace} (hf : DataW.trod en Try.prog w base sp held fuel 26 [c0, c1, c2, c3, c4, c5, c6, c7, c8, c9, c10, c11, c12, c13, c14, c15, c16, c17] = some y) :
    ∃ o : Opt, c0 = .int .i64 o.k ∧ c1 = .int .i64 o.c0 ∧ c2 = .int .i64 o.c1 ∧ c3 = .int .i64 o.c2 ∧ c4 = .int .i64 o.v0 ∧ c5 = .int .i64 o.v1 ∧ c6 = .int .i64 o.v2 ∧ c7 = .int .i64 o.v3 ∧ c8 = .int .i64 o.w0 ∧ c9 = .int .i64 o.w1 ∧ c10 = .int .i64 o.w2 ∧ c11 = .int .i64 o.w3 ∧ c12 = .int .i64 o.s0 ∧ c13 = .int .i64 o.s1 ∧ c14 = .int .i64 o.s2 ∧ c15 = .int .i64 o.s3 ∧ c16 = .int .i64 o.eta ∧ c17 = .int .i64 o.dark := by
  obtain ⟨xs, n, _, _, _, hl, hd⟩ := DataW.trod_struct Try.underlying26 hf
  obtain ⟨_, z0⟩ := field_of hd hl 0 3 0 1 (by kernel_rfl) (by kernel_rfl)
  obtain ⟨_, z1⟩ := field_of hd hl 1 22 1 3 (by kernel_rfl) (by kernel_rfl)
  obtain ⟨_, z2⟩ := field_of hd hl 2 24 4 12 (by kernel_rfl) (by kernel_rfl)
  obtain ⟨_, z3⟩ := field_of hd hl 3 3 16 1 (by kernel_rfl) (by kernel_rfl)
  obtain ⟨_, z4⟩ := field_of hd hl 4 3 17 1 (by kernel_rfl) (by kernel_rfl)
  obtain ⟨x0, rfl⟩ := one_int z0
  obtain ⟨x1, x2, x3, rfl, rfl, rfl⟩ := three_ints z1
  obtain ⟨ys, m, _, _, _, hl2, hd2⟩ := DataW.trod_array Try.underlying24 z2
  obtain ⟨_, y0⟩ := elem_of hd2 hl2 0 4 (by decide) (by kernel_rfl)
  obtain ⟨_, y1⟩ := elem_of hd2 hl2 1 4 (by decide) (by kernel_rfl)
  obtain ⟨_, y2⟩ := elem_of hd2 hl2 2 4 (by decide) (by kernel_rfl)
  obtain ⟨x4, x5, x6, x7, rfl, rfl, rfl, rfl⟩ := four_ints y0
  obtain ⟨x8, x9, x10, x11, rfl, rfl, rfl, rfl⟩ := four_ints y1
  obtain ⟨x12, x13, x14, x15, rfl, rfl, rfl, rfl⟩ := four_ints y2
  obtain ⟨x16, rfl⟩ := one_int z3
  obtain ⟨x17, rfl⟩ := one_int z4
  exact ⟨⟨x0, x1, x2, x3, x4, x5, x6, x7, x8, x9, x10, x11, x12, x13, x14, x15, x16, x17⟩, rfl, rfl, rfl, rfl, rfl, rfl, rfl, rfl, rfl, rfl, rfl, rfl, rfl, rfl, rfl, rfl, rfl, rfl⟩
theorem one_u64 {fuel : Nat} {c : Value} {y : DataW H × List MemPlace} (h : DataW.trod en Try.prog w base sp held fuel 31 [c] = some y) : ∃ x : Nat, c = .int .u64 (x : Int) := by
  obtain ⟨x, e, _, wf⟩ := DataW.trod_int Try.underlying31 h
  have hb := bounds_u64 wf
  obtain ⟨x, rfl⟩ := Int.eq_ofNat_of_zero_le hb.1
  exact ⟨x, by simpa using e⟩
theorem one_u8' {fuel : Nat} {c : Value} {y : DataW H × List MemPlace} (h : DataW.trod en Try.prog w base sp held fuel 5 [c] = some y) : ∃ x : Nat, c = .int .u8 (x : Int) ∧ x < 256 := by
  obtain ⟨x, e, _, wf⟩ := DataW.trod_int Try.underlying5 h
  have hb := bounds_u8 wf
  obtain ⟨x, rfl⟩ := Int.eq_ofNat_of_zero_le hb.1
  exact ⟨x, by simpa using e, by omega⟩
end

end Go.Proofs.Ythcjlfnkpmeonaa
