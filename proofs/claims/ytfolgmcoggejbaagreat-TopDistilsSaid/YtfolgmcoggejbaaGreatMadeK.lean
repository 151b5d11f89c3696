/- Slices of structs of the call's own: made whole, an element's cell read and set. No condition. -/
import Derived.Test.YtfolgmcoggejbaaGreatMade
namespace Go.Proofs.YtfolgmcoggejbaaGreat
open Go.RowKit
set_option linter.unusedVariables false
set_option linter.unusedSimpArgs false

theorem flat_set {α : Type} {sz : Nat} {enc : α → List Value} (hs : ∀ x, (enc x).length = sz) : ∀ (l : List α) (k : Nat) (x x' : α) (j : Nat) (u : Value), l[k]? = some x → j < sz → enc x' = (enc x).set j u → (l.flatMap enc).set (k * sz + j) u = (l.set k x').flatMap enc
  | [], k, x, x', j, u, h, _, _ => by simp at h
  | y :: l, 0, x, x', j, u, h, hj, he => by
    obtain rfl : y = x := by simpa using h
    rw [List.flatMap_cons, Nat.zero_mul, Nat.zero_add, List.set_cons_zero, List.flatMap_cons, he, List.set_append, if_pos (by rw [hs]; exact hj)]
  | y :: l, k + 1, x, x', j, u, h, hj, he => by
    have h' : l[k]? = some x := by simpa using h
    have e : (k + 1) * sz + j = sz + (k * sz + j) := by rw [Nat.add_mul]; omega
    rw [List.flatMap_cons, e, List.set_append, if_neg (by rw [hs]; omega), hs, show sz + (k * sz + j) - sz = k * sz + j from by omega, flat_set hs l k x x' j u h' hj he, List.set_cons_succ, List.flatMap_cons]

section
variable {α : Type} {sz : Nat} {enc : α → List Value} {w : World} {base e g n cap : Nat} {l : List α}
theorem Own.atK (h : Own w base e sz enc (.slice (some ⟨g, 0, none⟩) n cap) l) (hn : l.length = n) (hs : ∀ x, (enc x).length = sz) {k : Nat} {x : α} (hx : l[k]? = some x) {j : Nat} {u : Value} (hu : (enc x)[j]? = some u) : w.cell? ⟨g, k * sz + j, none⟩ = some u := by
  subst hn
  have hk := (List.getElem?_eq_some_iff.1 hx).1
  have hj : j < sz := by have := (List.getElem?_eq_some_iff.1 hu).1; rwa [hs] at this
  have hlt : k * sz + j < l.length * sz := by
    have := Nat.mul_le_mul_right sz (show k + 1 ≤ l.length from hk)
    rw [Nat.add_mul] at this; omega
  rw [World.ownsRow.cellAt h (k * sz + j) hlt, flat_at hs l k x hx j hj]
  exact hu
theorem Own.frK (h : Own w base e sz enc (.slice (some ⟨g, 0, none⟩) n cap) l) (hn : l.length = n) (j : Nat) : w.frozen? ⟨g, j, none⟩ = false := by subst hn; exact World.ownsRow.frozenAt h j
theorem Own.setK (h : Own w base e sz enc (.slice (some ⟨g, 0, none⟩) n cap) l) (hn : l.length = n) (hs : ∀ x, (enc x).length = sz) {k : Nat} {x x' : α} (hx : l[k]? = some x) {j : Nat} {u : Value} (hj : j < sz) (hu : enc x' = (enc x).set j u) :
    Own (w.setCell ⟨g, k * sz + j, none⟩ u) base e sz enc (.slice (some ⟨g, 0, none⟩) n cap) (l.set k x') := by
  subst hn
  have := (World.ownsRow.stored h (k * sz + j) u).1
  unfold Own
  rw [List.length_set, ← flat_set hs l k x x' j u hx hj hu]
  exact this
end

theorem toList_madeK {α : Type} {enc : α → List Value} {sz : Nat} (d : α) (cs : Array Value) (N : Nat) (hcs : cs.toList = enc d) (hs : ∀ x, (enc x).length = sz) (hsz : 0 < sz) : (madeCells cs (N * sz)).toList = (List.replicate N d).flatMap enc := by
  have hz : cs.size = sz := by rw [← Array.length_toList, hcs, hs]
  apply List.ext_getElem?
  intro i
  by_cases h : i < N * sz
  · have hq : i / sz < N := Nat.div_lt_of_lt_mul (by rw [Nat.mul_comm]; exact h)
    have hr : i % sz < sz := Nat.mod_lt _ hsz
    have e : i = i / sz * sz + i % sz := by rw [Nat.mul_comm]; exact (Nat.div_add_mod _ _).symm
    have h1 := flat_at hs (List.replicate N d) (i / sz) d (by simp [hq]) (i % sz) hr
    rw [← e] at h1
    have hr2 : i % sz < (enc d).length := by rw [hs]; exact hr
    rw [h1, List.getElem?_eq_getElem hr2]
    have h2 : (madeCells cs (N * sz)).toList[i]? = some (cs[i % cs.size]!) := by
      unfold madeCells
      rw [Array.getElem?_toList, Array.getElem?_map, Array.getElem?_range, if_pos h]
      rfl
    rw [h2, hz]
    congr 1
    rw [getElem!_pos cs (i % sz) (by rw [hz]; exact hr), ← Array.getElem_toList]
    simp only [hcs]
  · rw [List.getElem?_eq_none (by rw [Array.length_toList, size_madeCells]; omega), List.getElem?_eq_none (by rw [flat_len hs, List.length_replicate]; omega)]

/-- 'make([]T, n)' of structs. -/
theorem wpList_mkK {P : Program} {w : World} {ops : Array Oper} {rest : List Oper} {o : Oper} {a : Act} {Q : Exit → Act → World → Prop} (hgd : o.guard = none) (l c : Operand) (t : TypeId) (hop : o.op = Op.makeSlice t l c)
    (e : TypeId) (i : TypeInfo) (z : Value) (sz bytes : Nat) (ht : P.underlying t = some (.slice e)) (hi : P.info? e = some i) (hz : i.zero = some z) (hsize : i.size = sz) (hby : i.bytes = bytes) (hsz : 0 < sz)
    {α : Type} {enc : α → List Value} (hs : ∀ x, (enc x).length = sz) (d : α) (hd : z.cells.toList = enc d) (kl kc : IntKind) (L C : Int) (n : Nat) (hl : a.eval l = .int kl L) (hc : a.eval c = .int kc C) (hL : L = (n : Int)) (hC : C = (n : Int)) (hn : bytes * n ≤ 281474976710656) (hnm : n ≤ maxLen)
    (h : ∀ w', Own w' w.heap.size e sz enc (.slice (some ⟨w.heap.size, 0, none⟩) n n) (List.replicate n d) → Below w.heap.size w w' → wpList P ops Q rest (a.put o.dst (.slice (some ⟨w.heap.size, 0, none⟩) n n)) w') :
    wpList P ops Q (o :: rest) a w := by
  refine wpList_make_full w hgd l c t hop w.heap.size e i z sz ht hi hz hsize kl kc L C n hl hc hL hC (by rw [hby]; exact hn) hnm (Nat.le_refl _) (fun w' h1 h2 => h w' ?_ ⟨h2.os, h2.tape, h2.output, h2.size, fun k hk => h2.block k hk (by simp)⟩)
  unfold Own
  rw [toList_madeK d z.cells n hd hs hsz] at h1
  rw [List.length_replicate]
  exact h1

end Go.Proofs.YtfolgmcoggejbaaGreat
