/- The append of a whole slice to a slice of the call's own, in a region that draws its order: where the new slice lies is said, too. No condition. -/
import Derived.Test.YtdngehgjbledfaaGreatTstD
namespace Go.Proofs.YtdngehgjbledfaaGreat
open Go.RowKit
set_option linter.unusedVariables false
set_option linter.unusedSimpArgs false

theorem step_appS {P : Program} {W : World} {ops : Array Oper} {o : Oper} {a : Act} {K : Act → World → Prop} {Q : Exit → Act → World → Prop} {E : Prop} (hgd : o.guard = none) (s x : Operand) (t : TypeId)
    (ho : o.op = .call { callee := .builtin .append, args := #[s, x], argTypes := #[t, t] })
    (base : Nat) (e : TypeId) (i : TypeInfo) (z : Value) (size bytes : Nat) (ht : P.underlying t = some (.slice e)) (hi : P.info? e = some i) (hz : i.zero = some z)
    (hsize : i.size = size) (hby : i.bytes = bytes) (hzs : z.cells.size = size) (hsz : 0 < size)
    {α : Type} {enc : α → List Value} (hs' : ∀ x, (enc x).length = size) (h1 : ∀ x, ∀ u ∈ enc x, u.oneCell' = true) (v : Value) (l : List α) (l2 : List α) (A : Option Addr) (n c B : Nat) (hn : l2.length = n) (hs : a.eval s = v) (hown : Own W base e size enc v l)
    (hx : a.eval x = .slice A n c) (hA : Arr size enc W B A l2) (hnil : A = none → c = 0)
    (hbytes : (l.length + l2.length) * bytes ≤ 140737488355328) (hbp : 0 < bytes) (hbase : base ≤ W.heap.size)
    (h : ∀ v' w', Own w' base e size enc v' (l ++ l2) → Below base W w' → W.grownBy w' v.ownBlock → At W v v' → K (a.put o.dst v') w') : if Region.wanted o (yielded ops a.tmps) = true then Oper.wp P o a W K Q else E := by
  subst hn
  have h63 : l.length + l2.length ≤ maxLen := by
    have := Nat.le_mul_of_pos_right (l.length + l2.length) hbp
    unfold maxLen; omega
  rw [if_pos (by simp [Region.wanted, hgd])]
  have hgo : ∀ ad, A = some ad → (∀ j u, (l2.flatMap enc)[j]? = some u → W.cell? (ad.add j) = some u) → Oper.wp P o a W K Q := by
    rintro ad rfl hnews
    obtain ⟨v', w', hr, h2, h3, _, h5⟩ := run_append_own_at (P := P) W base t o.type e i z size bytes ht hi hz hsize hby hzs hsz v l.length (l.flatMap enc) hown ad l2.length c (l2.flatMap enc) (flat_len hs' l2) hnews (fun u hu => by
      obtain ⟨y, _, hy⟩ := List.mem_flatMap.1 hu
      exact h1 y u hy) h63 hbytes hbase
    unfold Oper.wp execOp
    simp only [ho, resolve, invoke, builtin, Sem.run_bind, Sem.run_pure, Result.andThen_ok, List.map_toArray, List.map_cons, List.map_nil, hs, hx, hr]
    refine h v' w' ?_ ?_ h3 ?_
    · unfold Own; rw [List.length_append, List.flatMap_append]; exact h2
    · exact (Below.refl _ _).grown h3 hbase (fun k hk => (World.ownsRow.lt hown k hk).1)
    · rcases h5 with h5 | h5
      · exact .inl h5
      · exact .inr ⟨_, h5, Nat.le_refl _⟩
  cases l2 with
  | nil =>
    cases A with
    | none =>
      obtain rfl : c = 0 := hnil rfl
      have hrun := run_append_owned_none (P := P) (w := W) base t o.type e i size ht hi v l.length (l.flatMap enc) hown
      unfold Oper.wp
      have hx' : a.eval x = .slice none 0 0 := hx
      simp [execOp, ho, resolve, invoke, builtin, hs, hx', hrun, Result.andThen]
      exact h v W (by simpa using hown) (Below.refl _ _) ⟨rfl, rfl, rfl, Nat.le_refl _, fun _ _ _ => rfl⟩ (.inl rfl)
    | some ad => exact hgo ad rfl (by simp)
  | cons y ys =>
    obtain ⟨b, off, rfl, _, hc⟩ := hA (by simp)
    exact hgo _ rfl (flat_cell hs' hsz hc)
theorem ap_lits {g h n c m d : Nat} (hne : g ≠ h) : Ap (.slice (some ⟨g, 0, none⟩) n c) (.slice (some ⟨h, 0, none⟩) m d) := .inr (by simp [Value.ownBlock]; exact hne)

section
variable (w : World) (c1 c2 c3 : Array Value) (T1 T2 T3 : TypeId)
theorem box_0 {j : Nat} {v : Value} (h : c1[j]? = some v) : (((w.alloc (.cells c1 T1)).alloc (.cells c2 T2)).alloc (.cells c3 T3)).cell? ⟨w.heap.size, j, none⟩ = some v :=
  bel_cell (below_alloc (below_alloc (Below.refl _ _) _) _) (new_cell h)
theorem box_1 {j : Nat} {v : Value} (h : c2[j]? = some v) : (((w.alloc (.cells c1 T1)).alloc (.cells c2 T2)).alloc (.cells c3 T3)).cell? ⟨w.heap.size + 1, j, none⟩ = some v := by
  have := bel_cell (below_alloc (Below.refl _ _) (.cells c3 T3)) (new_cell (w := w.alloc (.cells c1 T1)) (T := T2) h)
  rw [show (w.alloc (.cells c1 T1)).heap.size = w.heap.size + 1 from by simp] at this; exact this
theorem box_2 {j : Nat} {v : Value} (h : c3[j]? = some v) : (((w.alloc (.cells c1 T1)).alloc (.cells c2 T2)).alloc (.cells c3 T3)).cell? ⟨w.heap.size + 1 + 1, j, none⟩ = some v := by
  have := new_cell (w := (w.alloc (.cells c1 T1)).alloc (.cells c2 T2)) (T := T3) h
  rw [show ((w.alloc (.cells c1 T1)).alloc (.cells c2 T2)).heap.size = w.heap.size + 1 + 1 from by simp] at this; exact this
end

end Go.Proofs.YtdngehgjbledfaaGreat
