/- Words for a slice of slices that the call makes row by row. For elements of one cell. -/
import Derived.Test.YtpejoghdmkpfcaaGreatDoorRefAll
import Derived.Test.YtpejoghdmkpfcaaGreatDoorNumAll
namespace Go.Proofs.YtpejoghdmkpfcaaGreatDoor
open Go.RowKit
set_option linter.unusedVariables false
set_option linter.unusedSimpArgs false

/-- A slice of slices (tS the type of a row, tE that of an element of one cell); all of it is the call's own, from base on. -/
def SRows {α : Type} (tS tE : TypeId) (enc : α → List Value) (w : World) (base : Nat) (v : Value) (L : List (List α)) : Prop :=
  ∃ items : List It, items.length = L.length ∧ Own w base tS 1 (fun x => [It.enc x]) v items ∧
    ∀ (k : Nat) (it : It) (l : List α), items[k]? = some it → L[k]? = some l → Own w base tE 1 enc it.enc l ∧ (it.enc.ownBlock = none ∨ it.enc.ownBlock ≠ v.ownBlock)
section
variable {α : Type} {tS tE : TypeId} {enc : α → List Value}
theorem SRows.nil (w : World) (base : Nat) : SRows tS tE enc w base (.slice none 0 0) [] := ⟨[], rfl, Own.nil, fun k it l h => by simp at h⟩
theorem SRows.keep {w w' : World} {base : Nat} {v : Value} {L : List (List α)} {g : Nat} (h : SRows tS tE enc w base v L) (hg : w.grownBy w' (some g)) (hlt : g < base) : SRows tS tE enc w' base v L := by
  obtain ⟨items, hl, ho, hi⟩ := h
  exact ⟨items, hl, ho.keep_lt hg hlt, fun k it l h1 h2 => ⟨(hi k it l h1 h2).1.keep_lt hg hlt, (hi k it l h1 h2).2⟩⟩
theorem SRows.on {w w' : World} {base : Nat} {v : Value} {L : List (List α)} (h : SRows tS tE enc w base v L) (hb : Below w.heap.size w w') : SRows tS tE enc w' base v L := by
  obtain ⟨items, hl, ho, hi⟩ := h
  exact ⟨items, hl, ho.below hb, fun k it l h1 h2 => ⟨(hi k it l h1 h2).1.below hb, (hi k it l h1 h2).2⟩⟩
theorem SRows.get {w : World} {base : Nat} {v : Value} {L : List (List α)} (h : SRows tS tE enc w base v L) (hs : ∀ x, (enc x).length = 1) : ∃ A c, v = .slice A L.length c ∧
    ∀ (k : Nat) (l : List α), L[k]? = some l → ∃ g, A = some ⟨g, 0, none⟩ ∧ g < w.heap.size ∧ ∃ B d, w.cell? ⟨g, k, none⟩ = some (.slice B l.length d) ∧ Arr 1 enc w w.heap.size B l := by
  obtain ⟨items, hl, ho, hi⟩ := h
  obtain ⟨A, c, rfl, _, _, _, ar⟩ := ho.form (fun _ => rfl)
  refine ⟨A, c, by rw [hl], fun k l hk => ?_⟩
  have hkl : k < items.length := by rw [hl]; exact (List.getElem?_eq_some_iff.1 hk).1
  have hit : items[k]? = some items[k] := List.getElem?_eq_getElem hkl
  obtain ⟨o1, _⟩ := hi k _ l hit hk
  obtain ⟨B, d, hB, _, _, _, arB⟩ := o1.form hs
  rcases ho.2 with ⟨h0, hz⟩ | ⟨g, cap, cur, h0, _⟩
  · rw [hz] at hkl; omega
  · cases h0
    refine ⟨g, rfl, ho.g_lt, B, d, ?_, arB⟩
    rw [← hB]
    exact Own.at1 (f := It.enc) ho rfl hit

/-- 'out = append(out, x)' at a plain list of operations, x the call's own. -/
theorem wpList_srow {T : TypeId} {i0 : TypeInfo} (hT : Tryz.prog.underlying T = some (.slice tS)) (hi : Tryz.prog.info? tS = some i0) (hz0 : i0.zero = some (.slice none 0 0)) (hz1 : i0.size = 1) (hz2 : i0.bytes = 24) (hs1 : ∀ x, (enc x).length = 1) {ops : Array Oper} {rest : List Oper} {o : Oper} {a : Act} {Q : Exit → Act → World → Prop} {W : World} (hgd : o.guard = none) (s x : Operand)
    (ho : o.op = .call { callee := .builtin .append, args := #[s, x], argTypes := #[T, T] }) (base : Nat) {v : Value} {L : List (List α)} (hr : SRows tS tE enc W base v L) (hs : a.eval s = v) (hn : L.length ≤ 1000000)
    {u : Value} {l : List α} {bx : Nat} (hx : a.eval x = .slice (some ⟨bx, 0, none⟩) 1 1) (hc : W.cell? ⟨bx, 0, none⟩ = some u) (hu : Own W base tE 1 enc u l) (hA2 : u.ownBlock = none ∨ u.ownBlock ≠ v.ownBlock) (hbase : base ≤ W.heap.size)
    (h : ∀ v' w', SRows tS tE enc w' base v' (L ++ [l]) → Below base W w' → wpList Tryz.prog ops Q rest (a.put o.dst v') w') : wpList Tryz.prog ops Q (o :: rest) a W := by
  obtain ⟨items, hl, hown, hit⟩ := hr
  obtain ⟨A, c, hue, _, _, _, _⟩ := hu.form hs1
  have hown2 : W.ownsRow base tS 1 v items.length (items.map It.enc) := by
    have := hown; unfold Own at this; rw [flat1] at this; exact this
  refine wpList_append_lies (P := Tryz.prog) W hgd s x T ho base tS i0 _ 1 24 hT hi hz0 hz1 hz2 rfl (by decide) _ items.length _ hs hown2 ⟨bx, 0, none⟩ 1 1 [u] hx rfl ?_ (by rw [hue]; simp [Value.oneCell']) (by decide) (by unfold maxLen; omega) (by omega) hbase _ rfl ?_
  · intro j y hy
    cases j with
    | zero => obtain rfl : u = y := by simpa using hy
              exact hc
    | succ j => simp at hy
  · intro g' cap' w' h2 h3 h4 h5
    refine h _ w' ?_ ((Below.refl _ _).grown h3 hbase (fun q hq => (World.ownsRow.lt hown q hq).1))
    have hlt : ∀ y : Value, ∀ L' : List α, Own W base tE 1 enc y L' → (y.ownBlock = none ∨ y.ownBlock ≠ v.ownBlock) → (y.ownBlock = none ∨ y.ownBlock ≠ some g') := by
      intro y L' hy hne
      rcases hne with hne | hne
      · exact .inl hne
      · cases hb : y.ownBlock with
        | none => exact .inl rfl
        | some b =>
          refine .inr fun hbg => ?_
          have hb' := (World.ownsRow.lt hy b hb).2
          have hbe : b = g' := by simpa using hbg
          rcases h4 with h4 | h4
          · exact hne (by rw [hb, h4, hbe])
          · omega
    refine ⟨items ++ [⟨A, l.length, c⟩], by simp [hl], ?_, ?_⟩
    · unfold Own
      rw [flat1, List.map_append, List.length_append]
      rw [hue] at h2
      exact h2
    · intro k it l' hk hk'
      rcases Nat.lt_or_ge k items.length with hh | hh
      · rw [List.getElem?_append_left (by omega)] at hk hk'
        obtain ⟨o1, o2⟩ := hit k it l' hk hk'
        exact ⟨o1.keep h3 o2, hlt _ _ o1 o2⟩
      · have hke : k = items.length := by
          have := (List.getElem?_eq_some_iff.1 hk).1
          rw [List.length_append] at this
          simp at this; omega
        subst hke
        rw [List.getElem?_append_right (by omega), Nat.sub_self] at hk
        rw [List.getElem?_append_right (by omega), hl, Nat.sub_self] at hk'
        obtain rfl : (⟨A, l.length, c⟩ : It) = it := by simpa using hk
        obtain rfl : l = l' := by simpa using hk'
        have e : It.enc ⟨A, l.length, c⟩ = u := hue.symm
        rw [e]
        exact ⟨hu.keep h3 hA2, hlt _ _ hu hA2⟩
end

end Go.Proofs.YtpejoghdmkpfcaaGreatDoor
