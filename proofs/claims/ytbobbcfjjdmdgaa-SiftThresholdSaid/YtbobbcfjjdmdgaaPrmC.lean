/- Contract of the reference's sorted. For at most 65536 numbers. -/
import Derived.Test.YtbobbcfjjdmdgaaPrmB
import Derived.Deep.RegionHeld3
namespace Go.Proofs.Ytbobbcfjjdmdgaa
open Go.RowKit
set_option linter.unusedVariables false
set_option linter.unusedSimpArgs false

/-- 'out = append(out, xs...)' in a region that draws its order: out is the call's own, xs reads as a list. -/
theorem step_app {P : Program} {W : World} {ops : Array Oper} {o : Oper} {a : Act} {K : Act → World → Prop} {Q : Exit → Act → World → Prop} {E : Prop} (hgd : o.guard = none) (s x : Operand) (t : TypeId)
    (ho : o.op = .call { callee := .builtin .append, args := #[s, x], argTypes := #[t, t] })
    (base : Nat) (e : TypeId) (i : TypeInfo) (z : Value) (size bytes : Nat) (ht : P.underlying t = some (.slice e)) (hi : P.info? e = some i) (hz : i.zero = some z)
    (hsize : i.size = size) (hby : i.bytes = bytes) (hzs : z.cells.size = size) (hsz : 0 < size)
    {α : Type} {enc : α → List Value} (hs' : ∀ x, (enc x).length = size) (h1 : ∀ x, ∀ u ∈ enc x, u.oneCell' = true) (v : Value) (l : List α) (l2 : List α) (A : Option Addr) (n c B : Nat) (hn : l2.length = n) (hs : a.eval s = v) (hown : Own W base e size enc v l)
    (hx : a.eval x = .slice A n c) (hA : Arr size enc W B A l2) (hnil : A = none → c = 0)
    (hbytes : (l.length + l2.length) * bytes ≤ 140737488355328) (hbp : 0 < bytes) (hbase : base ≤ W.heap.size)
    (h : ∀ v' w', Own w' base e size enc v' (l ++ l2) → Below base W w' → W.grownBy w' v.ownBlock → K (a.put o.dst v') w') : if Region.wanted o (yielded ops a.tmps) = true then Oper.wp P o a W K Q else E := by
  subst hn
  have h63 : l.length + l2.length ≤ maxLen := by
    have := Nat.le_mul_of_pos_right (l.length + l2.length) hbp
    unfold maxLen; omega
  rw [if_pos (by simp [Region.wanted, hgd])]
  have hgo : ∀ ad, A = some ad → (∀ j u, (l2.flatMap enc)[j]? = some u → W.cell? (ad.add j) = some u) → Oper.wp P o a W K Q := by
    rintro ad rfl hnews
    refine wp_append_own W s x t ho base e i z size bytes ht hi hz hsize hby hzs hsz v l.length (l.flatMap enc) hs hown ad l2.length c (l2.flatMap enc) hx (flat_len hs' l2) hnews (fun u hu => ?_) h63 hbytes hbase (fun v' w' h2 h3 _ => h v' w' ?_ ?_ h3)
    · obtain ⟨y, _, hy⟩ := List.mem_flatMap.1 hu
      exact h1 y u hy
    · unfold Own; rw [List.length_append, List.flatMap_append]; exact h2
    · exact (Below.refl _ _).grown h3 hbase (fun k hk => (World.ownsRow.lt hown k hk).1)
  cases l2 with
  | nil =>
    cases A with
    | none =>
      obtain rfl : c = 0 := hnil rfl
      have hrun := run_append_owned_none (P := P) (w := W) base t o.type e i size ht hi v l.length (l.flatMap enc) hown
      unfold Oper.wp
      have hx' : a.eval x = .slice none 0 0 := hx
      simp [execOp, ho, resolve, invoke, builtin, hs, hx', hrun, Result.andThen]
      exact h v W (by simpa using hown) (Below.refl _ _) ⟨rfl, rfl, rfl, Nat.le_refl _, fun _ _ _ => rfl⟩
    | some ad => exact hgo ad rfl (by simp)
  | cons y ys =>
    obtain ⟨b, off, rfl, _, hc⟩ := hA (by simp)
    exact hgo _ rfl (flat_cell hs' hsz hc)

theorem arr_dp {α : Type} {enc : α → List Value} {w : World} {B b off : Nat} {l : List α} (h : Arr 1 enc w B (some ⟨b, off, none⟩) l) (n : Nat) : Arr 1 enc w B (some ⟨b, off + n, none⟩) (l.drop n) := fun hl => by
  obtain ⟨b', off', he, hb, hc⟩ := h (by rintro rfl; simp at hl)
  cases he
  refine ⟨b, off + n, rfl, hb, fun i x hx j u hu => ?_⟩
  have := hc (n + i) x (by simpa using hx) j u hu
  rw [show off + n + i * 1 + j = off + (n + i) * 1 + j from by omega]; exact this
theorem arr_tk {α : Type} {sz : Nat} {enc : α → List Value} {w : World} {B : Nat} {A : Option Addr} {l : List α} (h : Arr sz enc w B A l) (n : Nat) : Arr sz enc w B A (l.take n) := fun hl => by
  obtain ⟨b, off, rfl, hb, hc⟩ := h (by rintro rfl; simp at hl)
  exact ⟨b, off, rfl, hb, fun i x hx => hc i x (by
    rw [List.getElem?_take] at hx
    split at hx
    · exact hx
    · cases hx)⟩
theorem cell_lit {w : World} {g : Nat} {x : Int} (h : w.cell? ⟨g, 0, none⟩ = some (.int .i64 x)) : ∀ j u, (encI x)[j]? = some u → w.cell? ⟨g, j, none⟩ = some u := fun j u hu => by
  cases j with
  | zero => obtain rfl : Value.int .i64 x = u := by simpa [encI] using hu
            exact h
  | succ j => simp [encI] at hu
theorem nxt_cons (y : Int) (L : List Int) (x : Int) : nxtN (y :: L) x = if y < x then nxtN L x + 1 else 0 := by
  unfold nxtN
  rw [List.takeWhile_cons]
  by_cases h : y < x
  · simp [h]
  · simp [h]
theorem at_le {x : Int} : ∀ {L : List Int} {a : Nat}, a < nxtN L x → ∃ y, L[a]? = some y ∧ y < x
  | [], a, h => by simp [nxtN] at h
  | y :: L, a, h => by
    rw [nxt_cons] at h
    split at h
    · rename_i hy
      cases a with
      | zero => exact ⟨y, rfl, hy⟩
      | succ a => simpa using at_le (L := L) (a := a) (by omega)
    · omega
theorem at_eq {x : Int} : ∀ {L : List Int} {y : Int}, L[nxtN L x]? = some y → ¬ y < x
  | [], y, h => by simp at h
  | z :: L, y, h => by
    rw [nxt_cons] at h
    split at h
    · exact at_eq (L := L) (by simpa using h)
    · rename_i hz
      have : z = y := by simpa using h
      omega
theorem ins_cons (x y : Int) (L : List Int) : insL x (y :: L) = if y < x then y :: insL x L else x :: y :: L := by
  unfold insL
  rw [List.takeWhile_cons, List.dropWhile_cons]
  by_cases h : y < x
  · simp [h]
  · simp [h]
theorem ins_split (x : Int) : ∀ (L : List Int), insL x L = L.take (nxtN L x) ++ [x] ++ L.drop (nxtN L x)
  | [] => rfl
  | y :: L => by
    rw [ins_cons, nxt_cons]
    split
    · rw [ins_split x L]; simp
    · simp
theorem ins_len (x : Int) (L : List Int) : (insL x L).length = L.length + 1 := by
  rw [(insL_perm x L).length_eq]; simp
theorem sort_len (L : List Int) : (sortL L).length = L.length := (sortL_perm L).length_eq
theorem sort_take {l : List Int} {i : Nat} {x : Int} (h : l[i]? = some x) : sortL (l.take (i + 1)) = insL x (sortL (l.take i)) := by
  have hk := (List.getElem?_eq_some_iff.1 h).1
  have he := (List.getElem?_eq_some_iff.1 h).2
  rw [List.take_succ_eq_append_getElem hk, he, sortL_snoc]

end Go.Proofs.Ytbobbcfjjdmdgaa
