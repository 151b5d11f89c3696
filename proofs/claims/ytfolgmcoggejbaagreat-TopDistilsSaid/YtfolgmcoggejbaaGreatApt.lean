/- Words for two slices of a call's own that grow side by side. No condition. -/
import Derived.Test.YtfolgmcoggejbaaGreatMade
import Derived.Maps.AppendAt
namespace Go.Proofs.YtfolgmcoggejbaaGreat
open Go.RowKit
set_option linter.unusedVariables false
set_option linter.unusedSimpArgs false

/-- Two values whose blocks are not the same. -/
def Ap (u v : Value) : Prop := u.ownBlock = none ∨ u.ownBlock ≠ v.ownBlock
theorem Ap.symm {u v : Value} (h : Ap u v) : Ap v u := by
  unfold Ap at *
  rcases h with h | h
  · cases hv : v.ownBlock with
    | none => exact .inl rfl
    | some x => exact .inr (by rw [h]; simp)
  · exact .inr fun e => h e.symm
/-- The value x' lies where x lay, or in a block that is new. -/
def At (w : World) (x x' : Value) : Prop := x'.ownBlock = x.ownBlock ∨ ∃ H, x'.ownBlock = some H ∧ w.heap.size ≤ H
section
variable {α β : Type} {w w' : World} {b e z : Nat} {enc : α → List Value} {u x x' : Value} {l : List α}
theorem ap_new (h : Own w b e z enc u l) (ha : Ap u x) (hat : At w x x') : Ap u x' := by
  rcases hat with hat | ⟨H, hat, hH⟩
  · unfold Ap; rw [hat]; exact ha
  · unfold Ap
    cases hu : u.ownBlock with
    | none => exact .inl rfl
    | some g =>
      have := (World.ownsRow.lt h g hu).2
      exact .inr (by rw [hat]; simp; omega)
theorem own_new (h : Own w b e z enc u l) (ha : Ap u x) (hg : w.grownBy w' x.ownBlock) : Own w' b e z enc u l := h.keep hg ha
theorem ap_low {v : Value} {f : β → List Value} {l2 : List β} {e2 z2 : Nat} (h : Own w b e z enc u l) (h2 : Own w' w.heap.size e2 z2 f v l2) : Ap v u := by
  unfold Ap
  cases hv : v.ownBlock with
  | none => exact .inl rfl
  | some g =>
    refine .inr fun hu => ?_
    have h3 := (World.ownsRow.lt h2 g hv).1
    have h4 := (World.ownsRow.lt h g hu.symm).2
    omega
end
/-- 'out = append(out, x)': out is the call's own: where the new slice lies is said, too. -/
theorem wpList_snocS {P : Program} {w0 : World} {ops : Array Oper} {rest : List Oper} {o : Oper} {a : Act} {Q : Exit → Act → World → Prop} (hgd : o.guard = none) (s x : Operand) (t : TypeId)
    (ho : o.op = .call { callee := .builtin .append, args := #[s, x], argTypes := #[t, t] })
    (base : Nat) (e : TypeId) (i : TypeInfo) (z : Value) (size bytes : Nat) (ht : P.underlying t = some (.slice e)) (hi : P.info? e = some i) (hz : i.zero = some z)
    (hsize : i.size = size) (hby : i.bytes = bytes) (hzs : z.cells.size = size) (hsz : 0 < size)
    {α : Type} {enc : α → List Value} (v : Value) (l : List α) (x0 : α) (cs : Array Value) (T : TypeId) (hs : a.eval s = v) (hown : Own w0 base e size enc v l)
    {g : Nat} (hx : a.eval x = .slice (some ⟨g, 0, none⟩) 1 1) (hcs : cs.toList = enc x0) (hlen : (enc x0).length = size) (h1 : ∀ u ∈ enc x0, u.oneCell' = true)
    (hbytes : (l.length + 1) * bytes ≤ 140737488355328) (hbp : 0 < bytes) (hbase : base ≤ w0.heap.size) (hg : g = w0.heap.size)
    (h : ∀ v' w', Own w' base e size enc v' (l ++ [x0]) → w0.grownBy w' v.ownBlock → At w0 v v' → wpList P ops Q rest (a.put o.dst v') w') : wpList P ops Q (o :: rest) a (w0.alloc (.cells cs T)) := by
  subst hg
  have h63 : l.length + 1 ≤ maxLen := by
    have := Nat.le_mul_of_pos_right (l.length + 1) hbp
    unfold maxLen; omega
  refine wpList_append_own_at _ hgd s x t ho base e i z size bytes ht hi hz hsize hby hzs hsz v l.length (l.flatMap enc) hs (World.ownsRow.alloc hown _) ⟨w0.heap.size, 0, none⟩ 1 1 (enc x0) hx (by rw [hlen, Nat.one_mul]) (fun j u hu => ?_) h1 h63 hbytes (by simp; omega) (fun v' w' h2 h3 _ h5 => h v' w' (Own.snoc h2) ?_ ?_)
  · have hadd : (⟨w0.heap.size, 0, none⟩ : Addr).add j = ⟨w0.heap.size, j, none⟩ := by unfold Addr.add; split <;> simp_all
    rw [hadd]
    exact new_cell (by rw [← hu, ← hcs]; simp)
  · exact ((grown_of_below (below_alloc (Below.refl _ _) (.cells cs T))).but _).trans h3
  · rcases h5 with h5 | h5
    · exact .inl h5
    · exact .inr ⟨_, h5, by simp⟩
/-- 'out = append(out, x)' in a region that draws its order: what was written is said, too. -/
theorem step_snocG {P : Program} {W : World} {ops : Array Oper} {o : Oper} {a : Act} {K : Act → World → Prop} {Q : Exit → Act → World → Prop} {E : Prop} (hgd : o.guard = none) (s x : Operand) (t : TypeId)
    (ho : o.op = .call { callee := .builtin .append, args := #[s, x], argTypes := #[t, t] })
    (base : Nat) (e : TypeId) (i : TypeInfo) (z : Value) (size bytes : Nat) (ht : P.underlying t = some (.slice e)) (hi : P.info? e = some i) (hz : i.zero = some z)
    (hsize : i.size = size) (hby : i.bytes = bytes) (hzs : z.cells.size = size) (hsz : 0 < size)
    {α : Type} {enc : α → List Value} (v : Value) (l : List α) (x0 : α) (hs : a.eval s = v) (hown : Own W base e size enc v l)
    {g : Nat} (hx : a.eval x = .slice (some ⟨g, 0, none⟩) 1 1) (hnews : ∀ j u, (enc x0)[j]? = some u → W.cell? ⟨g, j, none⟩ = some u) (hlen : (enc x0).length = size) (h1 : ∀ u ∈ enc x0, u.oneCell' = true)
    (hbytes : (l.length + 1) * bytes ≤ 140737488355328) (hbp : 0 < bytes) (hbase : base ≤ W.heap.size)
    (h : ∀ v' w', Own w' base e size enc v' (l ++ [x0]) → Below base W w' → W.grownBy w' v.ownBlock → K (a.put o.dst v') w') : if Region.wanted o (yielded ops a.tmps) = true then Oper.wp P o a W K Q else E := by
  have h63 : l.length + 1 ≤ maxLen := by
    have := Nat.le_mul_of_pos_right (l.length + 1) hbp
    unfold maxLen; omega
  rw [if_pos (by simp [Region.wanted, hgd])]
  refine wp_append_own W s x t ho base e i z size bytes ht hi hz hsize hby hzs hsz v l.length (l.flatMap enc) hs hown ⟨g, 0, none⟩ 1 1 (enc x0) hx (by rw [hlen, Nat.one_mul]) (fun j u hu => ?_) h1 h63 hbytes hbase (fun v' w' h2 h3 _ => h v' w' (Own.snoc h2) ?_ h3)
  · have hadd : (⟨g, 0, none⟩ : Addr).add j = ⟨g, j, none⟩ := by unfold Addr.add; split <;> simp_all
    rw [hadd]
    exact hnews j u hu
  · exact (Below.refl _ _).grown h3 hbase (fun k hk => (World.ownsRow.lt hown k hk).1)
/-- A slice literal of the call's own. -/
theorem own_lit {α : Type} {sz : Nat} {enc : α → List Value} (w : World) (base : Nat) (e : TypeId) (l : List α) (cs : Array Value) (n : Nat) (hb : base ≤ w.heap.size) (hn : l.length = n) (hm : n ≤ maxLen) (hcs : cs.toList = l.flatMap enc) (hs : cs.size = n * sz) :
    Own (w.alloc (.cells cs e)) base e sz enc (.slice (some ⟨w.heap.size, 0, none⟩) n n) l := by
  subst hn
  unfold Own
  exact ⟨by rw [← hcs, Array.length_toList]; exact hs, .inr ⟨w.heap.size, l.length, cs, rfl, hb, heap_alloc_new w _, Nat.le_refl _, hm, hs, by rw [← hcs, ← hs, ← Array.length_toList, List.take_length]⟩⟩

end Go.Proofs.YtfolgmcoggejbaaGreat
