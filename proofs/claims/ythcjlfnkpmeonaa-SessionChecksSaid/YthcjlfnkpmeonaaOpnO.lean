/- How an arrangement and gains come in: aggregates of integers. No condition. -/
import Derived.Test.YthcjlfnkpmeonaaOpen
import Derived.Test.YthcjlfnkpmeonaaOptAll
import Derived.OpenShut
import Derived.Laws.IdiomArrays
namespace Go.Proofs.Ythcjlfnkpmeonaa
open Go.ChangeShapes Go.WideShapes Go.ChangeAt Go.RowKit Go.Deep Go.Joins
set_option linter.unusedVariables false
set_option linter.unusedSimpArgs false

section
variable {H : Type} {en : TypeId × Value → H} {w : World} {base : Nat} {sp : Nat → Bool} {held : Bool}

theorem arr18 {cs : Array Value} (h : cs.size = 18) : ∃ c0 c1 c2 c3 c4 c5 c6 c7 c8 c9 c10 c11 c12 c13 c14 c15 c16 c17, cs = #[c0, c1, c2, c3, c4, c5, c6, c7, c8, c9, c10, c11, c12, c13, c14, c15, c16, c17] := by
  obtain ⟨l⟩ := cs
  match l, h with
  | [c0, c1, c2, c3, c4, c5, c6, c7, c8, c9, c10, c11, c12, c13, c14, c15, c16, c17], _ => exact ⟨_, _, _, _, _, _, _, _, _, _, _, _, _, _, _, _, _, _, rfl⟩
theorem arr9 {cs : Array Value} (h : cs.size = 9) : ∃ c0 c1 c2 c3 c4 c5 c6 c7 c8, cs = #[c0, c1, c2, c3, c4, c5, c6, c7, c8] := by
  obtain ⟨l⟩ := cs
  match l, h with
  | [c0, c1, c2, c3, c4, c5, c6, c7, c8], _ => exact ⟨_, _, _, _, _, _, _, _, _, rfl⟩
theorem okWide_array {n : Nat} {e : TypeId} {P : Program} {r : Reach} {t : TypeId} {v : Value} (ht : P.underlying t = some (.array n e)) (h : Value.okWide P w r base t v) : ∃ cs, v = .agg cs ∧ cs.size = P.cellsOf t := by
  simp only [Value.okWide, ht] at h
  obtain ⟨cs, h1, h2, _⟩ := h
  exact ⟨cs, h1, h2⟩
/-- A field's cells, whatever its type. -/
theorem field_of {P : Program} {fs : Array Field} {xs : List (DataW H × List MemPlace)} {cs : List Value} {n : Nat}
    (hd : ∀ (i : Nat) (f : Field), fs[i]? = some f → DataW.trod en P w base sp held n f.type ((cs.drop f.offset).take (P.cellsOf f.type)) = xs[i]?) (hl : xs.length = fs.size)
    (i : Nat) (T : TypeId) (off k : Nat) (hf : (fs[i]?).map (fun f => (f.type, f.offset)) = some (T, off)) (hk : P.cellsOf T = k) : ∃ y, DataW.trod en P w base sp held n T ((cs.drop off).take k) = some y := by
  cases h : fs[i]? with
  | none => rw [h] at hf; simp at hf
  | some f =>
    rw [h] at hf
    simp only [Option.map_some, Option.some.injEq, Prod.mk.injEq] at hf
    obtain ⟨rfl, rfl⟩ := hf
    have hi : i < xs.length := by rw [hl]; exact (Array.getElem?_eq_some_iff.1 h).1
    have := hd i f h
    rw [hk, List.getElem?_eq_getElem hi] at this
    exact ⟨_, this⟩
theorem elem_of {P : Program} {m : Nat} {e : TypeId} {xs : List (DataW H × List MemPlace)} {cs : List Value} {n : Nat}
    (hd : ∀ (i : Nat), i < m → DataW.trod en P w base sp held n e ((cs.drop (i * P.cellsOf e)).take (P.cellsOf e)) = xs[i]?) (hl : xs.length = m)
    (i k : Nat) (hi : i < m) (hk : P.cellsOf e = k) : ∃ y, DataW.trod en P w base sp held n e ((cs.drop (i * k)).take k) = some y := by
  have := hd i hi
  rw [hk, List.getElem?_eq_getElem (by rw [hl]; exact hi)] at this
  exact ⟨_, this⟩
theorem one_int {fuel : Nat} {c : Value} {y : DataW H × List MemPlace} (h : DataW.trod en Try.prog w base sp held fuel 3 [c] = some y) : ∃ x, c = .int .i64 x := by
  obtain ⟨x, e, _⟩ := DataW.trod_int Try.underlying3 h
  exact ⟨x, by simpa using e⟩
theorem four_ints {fuel : Nat} {c0 c1 c2 c3 : Value} {y : DataW H × List MemPlace} (h : DataW.trod en Try.prog w base sp held fuel 23 [c0, c1, c2, c3] = some y) : ∃ x0 x1 x2 x3, c0 = .int .i64 x0 ∧ c1 = .int .i64 x1 ∧ c2 = .int .i64 x2 ∧ c3 = .int .i64 x3 := by
  obtain ⟨_, _, _, _, _, _, h0, h1, h2, h3⟩ := trod_array4 Try.underlying23 (by kernel_rfl) h
  obtain ⟨x0, e0⟩ := one_int h0
  obtain ⟨x1, e1⟩ := one_int h1
  obtain ⟨x2, e2⟩ := one_int h2
  obtain ⟨x3, e3⟩ := one_int h3
  exact ⟨x0, x1, x2, x3, e0, e1, e2, e3⟩
theorem three_ints {fuel : Nat} {c0 c1 c2 : Value} {y : DataW H × List MemPlace} (h : DataW.trod en Try.prog w base sp held fuel 22 [c0, c1, c2] = some y) : ∃ x0 x1 x2, c0 = .int .i64 x0 ∧ c1 = .int .i64 x1 ∧ c2 = .int .i64 x2 := by
  obtain ⟨_, _, _, _, _, h0, h1, h2⟩ := trod_array3 Try.underlying22 (by kernel_rfl) h
  obtain ⟨x0, e0⟩ := one_int h0
  obtain ⟨x1, e1⟩ := one_int h1
  obtain ⟨x2, e2⟩ := one_int h2
  exact ⟨x0, x1, x2, e0, e1, e2⟩
set_option maxRecDepth 100000 in
theorem open_opt {W : World} {base2 : Nat} {v : Value} {d : DataW H} {p : List MemPlace} (hv : Value.okWide Try.prog W .any base2 26 v) (h : DataW.Trod en Try.prog w base sp held 26 v d p) : ∃ o : Opt, v = o.val := by
  obtain ⟨cs, rfl, hsz⟩ := okWide_struct Try.underlying26 hv
  obtain ⟨c0, c1, c2, c3, c4, c5, c6, c7, c8, c9, c10, c11, c12, c13, c14, c15, c16, c17, rfl⟩ := arr18 (hsz.trans (show Try.prog.cellsOf 26 = 18 from by kernel_rfl))
  obtain ⟨fuel, hf⟩ := h
  obtain ⟨xs, n, _, _, _, hl, hd⟩ := DataW.trod_struct Try.underlying26 hf
  obtain ⟨_, z0⟩ := field_of hd hl 0 3 0 1 (by kernel_rfl) (by kernel_rfl)
  obtain ⟨_, z1⟩ := field_of hd hl 1 22 1 3 (by kernel_rfl) (by kernel_rfl)
  obtain ⟨_, z2⟩ := field_of hd hl 2 24 4 12 (by kernel_rfl) (by kernel_rfl)
  obtain ⟨_, z3⟩ := field_of hd hl 3 3 16 1 (by kernel_rfl) (by kernel_rfl)
  obtain ⟨_, z4⟩ := field_of hd hl 4 3 17 1 (by kernel_rfl) (by kernel_rfl)
  obtain ⟨x0, rfl⟩ := one_int z0
  obtain ⟨x1, x2, x3, rfl, rfl, rfl⟩ := three_ints z1
  obtain ⟨ys, m, _, _, _, hl2, hd2⟩ := DataW.trod_array Try.underlying24 z2
  obtain ⟨_, y0⟩ := elem_of hd2 hl2 0 4 (by decide) (by kernel_rfl)
  obtain ⟨_, y1⟩ := elem_of hd2 hl2 1 4 (by decide) (by kernel_rfl)
  obtain ⟨_, y2⟩ := elem_of hd2 hl2 2 4 (by decide) (by kernel_rfl)
  obtain ⟨x4, x5, x6, x7, rfl, rfl, rfl, rfl⟩ := four_ints y0
  obtain ⟨x8, x9, x10, x11, rfl, rfl, rfl, rfl⟩ := four_ints y1
  obtain ⟨x12, x13, x14, x15, rfl, rfl, rfl, rfl⟩ := four_ints y2
  obtain ⟨x16, rfl⟩ := one_int z3
  obtain ⟨x17, rfl⟩ := one_int z4
  exact ⟨⟨x0, x1, x2, x3, x4, x5, x6, x7, x8, x9, x10, x11, x12, x13, x14, x15, x16, x17⟩, rfl⟩
end

end Go.Proofs.Ythcjlfnkpmeonaa
