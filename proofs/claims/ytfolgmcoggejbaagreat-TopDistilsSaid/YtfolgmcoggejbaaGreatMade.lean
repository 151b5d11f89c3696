/- Words for a slice that a call makes whole by make and then fills place by place. No condition. -/
import Derived.Test.YtfolgmcoggejbaaGreatData
import Derived.Deep.RegionHeld3
namespace Go.Proofs.YtfolgmcoggejbaaGreat
open Go.RowKit
set_option linter.unusedVariables false
set_option linter.unusedSimpArgs false

theorem flat1 {α : Type} (f : α → Value) (l : List α) : l.flatMap (fun x => [f x]) = l.map f := by
  induction l with
  | nil => rfl
  | cons x l ih => rw [List.flatMap_cons, ih]; rfl

/-- 'make([]T, n)', T of one cell. -/
theorem wpList_mk {P : Program} {w : World} {ops : Array Oper} {rest : List Oper} {o : Oper} {a : Act} {Q : Exit → Act → World → Prop} (hgd : o.guard = none) (l c : Operand) (t : TypeId) (hop : o.op = Op.makeSlice t l c)
    (e : TypeId) (i : TypeInfo) (z : Value) (bytes : Nat) (ht : P.underlying t = some (.slice e)) (hi : P.info? e = some i) (hz : i.zero = some z) (hsize : i.size = 1) (hby : i.bytes = bytes) (hone : z.cells = #[z])
    {α : Type} (f : α → Value) (d : α) (hd : f d = z) (kl kc : IntKind) (L C : Int) (n : Nat) (hl : a.eval l = .int kl L) (hc : a.eval c = .int kc C) (hL : L = (n : Int)) (hC : C = (n : Int)) (hn : bytes * n ≤ 281474976710656) (hnm : n ≤ maxLen)
    (h : ∀ w', Own w' w.heap.size e 1 (fun x => [f x]) (.slice (some ⟨w.heap.size, 0, none⟩) n n) (List.replicate n d) → Below w.heap.size w w' → wpList P ops Q rest (a.put o.dst (.slice (some ⟨w.heap.size, 0, none⟩) n n)) w') :
    wpList P ops Q (o :: rest) a w := by
  refine wpList_make_full w hgd l c t hop w.heap.size e i z 1 ht hi hz hsize kl kc L C n hl hc hL hC (by rw [hby]; exact hn) hnm (Nat.le_refl _) (fun w' h1 h2 => h w' ?_ ⟨h2.os, h2.tape, h2.output, h2.size, fun k hk => h2.block k hk (by simp)⟩)
  unfold Own
  rw [hone, Nat.mul_one, toList_madeCells_one] at h1
  rw [flat1, List.length_replicate, List.map_replicate, hd]
  exact h1

section
variable {α : Type} {f : α → Value} {w : World} {base e g n cap : Nat} {l : List α}
theorem Own.at1 (h : Own w base e 1 (fun x => [f x]) (.slice (some ⟨g, 0, none⟩) n cap) l) (hn : l.length = n) {k : Nat} {x : α} (hx : l[k]? = some x) : w.cell? ⟨g, k, none⟩ = some (f x) := by
  subst hn
  have hk := (List.getElem?_eq_some_iff.1 hx).1
  have := World.ownsRow.cellAt h k (by omega)
  rw [this, flat1, List.getElem?_map, hx]; rfl
theorem Own.fr1 (h : Own w base e 1 (fun x => [f x]) (.slice (some ⟨g, 0, none⟩) n cap) l) (hn : l.length = n) (k : Nat) : w.frozen? ⟨g, k, none⟩ = false := by subst hn; exact World.ownsRow.frozenAt h k
theorem Own.set1 (h : Own w base e 1 (fun x => [f x]) (.slice (some ⟨g, 0, none⟩) n cap) l) (hn : l.length = n) (k : Nat) (x : α) : Own (w.setCell ⟨g, k, none⟩ (f x)) base e 1 (fun x => [f x]) (.slice (some ⟨g, 0, none⟩) n cap) (l.set k x) := by
  subst hn
  have := (World.ownsRow.stored h k (f x)).1
  unfold Own
  rw [List.length_set]
  rw [flat1] at this ⊢
  rw [List.map_set]
  exact this
theorem Own.base_le {sz : Nat} {enc : α → List Value} (h : Own w base e sz enc (.slice (some ⟨g, 0, none⟩) n cap) l) : base ≤ g := (World.ownsRow.lt h g rfl).1
theorem Own.g_lt {sz : Nat} {enc : α → List Value} (h : Own w base e sz enc (.slice (some ⟨g, 0, none⟩) n cap) l) : g < w.heap.size := (World.ownsRow.lt h g rfl).2
theorem Own.down {base' sz : Nat} {enc : α → List Value} {v : Value} (h : Own w base e sz enc v l) (hb : base' ≤ base) : Own w base' e sz enc v l := by
  refine ⟨h.1, ?_⟩
  rcases h.2 with hn | ⟨g, cap, cur, hv, hg, r⟩
  · exact .inl hn
  · exact .inr ⟨g, cap, cur, hv, by omega, r⟩
end

/-- The first k places are filled. -/
def fill {α : Type} (L : List α) (d : α) (k : Nat) : List α := L.take k ++ List.replicate (L.length - k) d
theorem fill_zero {α : Type} (L : List α) (d : α) : fill L d 0 = List.replicate L.length d := by simp [fill]
theorem fill_len {α : Type} (L : List α) (d : α) {k : Nat} (h : k ≤ L.length) : (fill L d k).length = L.length := by simp [fill]; omega
theorem fill_all {α : Type} (L : List α) (d : α) {k : Nat} (h : L.length ≤ k) : fill L d k = L := by
  unfold fill; rw [List.take_of_length_le h, show L.length - k = 0 from by omega]; simp
theorem fill_set {α : Type} {L : List α} (d : α) {k : Nat} {x : α} (h : L[k]? = some x) : (fill L d k).set k x = fill L d (k + 1) := by
  have hk := (List.getElem?_eq_some_iff.1 h).1
  unfold fill
  have hl : (L.take k).length = k := by simp; omega
  rw [take_snoc h, List.set_append, if_neg (by omega), hl, Nat.sub_self, show L.length - k = (L.length - (k + 1)) + 1 from by omega, List.replicate_succ, List.set_cons_zero]
  simp
theorem fill_at {α : Type} {L : List α} (d : α) {k : Nat} (h : k < L.length) : (fill L d k)[k]? = some d := by
  unfold fill
  have hl : (L.take k).length = k := by simp; omega
  rw [List.getElem?_append_right (by omega), hl, Nat.sub_self, List.getElem?_replicate, if_pos (by omega)]

/-- 'out = append(out, x)' in a region that draws its order. -/
theorem step_snoc {P : Program} {W : World} {ops : Array Oper} {o : Oper} {a : Act} {K : Act → World → Prop} {Q : Exit → Act → World → Prop} {E : Prop} (hgd : o.guard = none) (s x : Operand) (t : TypeId)
    (ho : o.op = .call { callee := .builtin .append, args := #[s, x], argTypes := #[t, t] })
    (base : Nat) (e : TypeId) (i : TypeInfo) (z : Value) (size bytes : Nat) (ht : P.underlying t = some (.slice e)) (hi : P.info? e = some i) (hz : i.zero = some z)
    (hsize : i.size = size) (hby : i.bytes = bytes) (hzs : z.cells.size = size) (hsz : 0 < size)
    {α : Type} {enc : α → List Value} (v : Value) (l : List α) (x0 : α) (hs : a.eval s = v) (hown : Own W base e size enc v l)
    {g : Nat} (hx : a.eval x = .slice (some ⟨g, 0, none⟩) 1 1) (hnews : ∀ j u, (enc x0)[j]? = some u → W.cell? ⟨g, j, none⟩ = some u) (hlen : (enc x0).length = size) (h1 : ∀ u ∈ enc x0, u.oneCell' = true)
    (hbytes : (l.length + 1) * bytes ≤ 140737488355328) (hbp : 0 < bytes) (hbase : base ≤ W.heap.size)
    (h : ∀ v' w', Own w' base e size enc v' (l ++ [x0]) → Below base W w' → K (a.put o.dst v') w') : if Region.wanted o (yielded ops a.tmps) = true then Oper.wp P o a W K Q else E := by
  have h63 : l.length + 1 ≤ maxLen := by
    have := Nat.le_mul_of_pos_right (l.length + 1) hbp
    unfold maxLen; omega
  rw [if_pos (by simp [Region.wanted, hgd])]
  refine wp_append_own W s x t ho base e i z size bytes ht hi hz hsize hby hzs hsz v l.length (l.flatMap enc) hs hown ⟨g, 0, none⟩ 1 1 (enc x0) hx (by rw [hlen, Nat.one_mul]) (fun j u hu => ?_) h1 h63 hbytes hbase (fun v' w' h2 h3 _ => h v' w' (Own.snoc h2) ?_)
  · have hadd : (⟨g, 0, none⟩ : Addr).add j = ⟨g, j, none⟩ := by unfold Addr.add; split <;> simp_all
    rw [hadd]
    exact hnews j u hu
  · exact (Below.refl _ _).grown h3 hbase (fun k hk => (World.ownsRow.lt hown k hk).1)
theorem Own.drew {α : Type} {w : World} {base e sz : Nat} {enc : α → List Value} {v : Value} {l : List α} (h : Own w base e sz enc v l) : Own w.drew base e sz enc v l := h

theorem news_new {w : World} {cs : Array Value} {T : TypeId} {vs : List Value} (hcs : cs.toList = vs) : ∀ j u, vs[j]? = some u → (w.alloc (.cells cs T)).drew.cell? ⟨w.heap.size, j, none⟩ = some u :=
  fun j u hu => (new_cell (w := w) (T := T) (by rw [← hu, ← hcs]; simp) : (w.alloc (.cells cs T)).cell? ⟨w.heap.size, j, none⟩ = some u)

end Go.Proofs.YtfolgmcoggejbaaGreat
