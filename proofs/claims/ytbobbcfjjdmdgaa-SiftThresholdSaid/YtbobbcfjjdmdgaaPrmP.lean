/- Plain: the order that is drawn by exchanges, its sample in increasing order, and the rest. No condition. -/
import Derived.Test.YtbobbcfjjdmdgaaDrwA
namespace Go.Proofs.Ytbobbcfjjdmdgaa
set_option linter.unusedVariables false
set_option linter.unusedSimpArgs false

/-- Two places exchanged. -/
def swp (l : List Int) (i j : Nat) : List Int := (l.set i (l.getD j 0)).set j (l.getD i 0)
theorem swp_len (l : List Int) (i j : Nat) : (swp l i j).length = l.length := by simp [swp]
theorem swp_perm {l : List Int} {i j : Nat} (hi : i < l.length) (hj : j < l.length) : (swp l i j).Perm l := by
  unfold swp
  have e1 : l.getD j 0 = l[j] := by simp [List.getD, List.getElem?_eq_getElem hj]
  have e2 : l.getD i 0 = l[i] := by simp [List.getD, List.getElem?_eq_getElem hi]
  rw [e1, e2]
  exact List.set_set_perm hi hj
/-- The exchanges from the k-th element down. -/
def prm : Nat → Nat → List Int → Nat × List Int
  | 0, s, l => (s, l)
  | 1, s, l => (s, l)
  | k + 2, s, l => prm (k + 1) (nxS s) (swp l (k + 1) (nxY s % (k + 2)))
theorem prm_perm : ∀ (k s : Nat) (l : List Int), k ≤ l.length → (prm k s l).2.Perm l
  | 0, _, _, _ => List.Perm.refl _
  | 1, _, _, _ => List.Perm.refl _
  | k + 2, s, l, h => by
    rw [prm]
    have hm : nxY s % (k + 2) < k + 2 := Nat.mod_lt _ (by omega)
    exact (prm_perm (k + 1) _ _ (by rw [swp_len]; omega)).trans (swp_perm (by omega) (by omega))
def upL (n : Nat) : List Int := (List.range n).map fun i : Nat => (i : Int)
theorem upL_len (n : Nat) : (upL n).length = n := by simp [upL]
theorem upL_snoc (n : Nat) : upL (n + 1) = upL n ++ [(n : Int)] := by simp [upL, List.range_succ]
theorem upL_at {n k : Nat} (h : k < n) : (upL n)[k]? = some (k : Int) := by simp [upL, h]
def permL (s n : Nat) : List Int := (prm n s (upL n)).2
def permS (s n : Nat) : Nat := (prm n s (upL n)).1
theorem permL_perm (s n : Nat) : (permL s n).Perm (upL n) := prm_perm n s _ (by rw [upL_len]; exact Nat.le_refl _)
theorem permL_len (s n : Nat) : (permL s n).length = n := by rw [(permL_perm s n).length_eq, upL_len]

/-- An element put at its place. -/
def insL (x : Int) (l : List Int) : List Int := l.takeWhile (fun y => decide (y < x)) ++ x :: l.dropWhile (fun y => decide (y < x))
def sortL : List Int → List Int := fun l => l.foldl (fun acc x => insL x acc) []
theorem sortL_snoc (l : List Int) (x : Int) : sortL (l ++ [x]) = insL x (sortL l) := by simp [sortL, List.foldl_append]
theorem insL_perm (x : Int) (l : List Int) : (insL x l).Perm (l ++ [x]) := by
  unfold insL
  have h : (l.takeWhile (fun y => decide (y < x)) ++ x :: l.dropWhile (fun y => decide (y < x))).Perm (x :: (l.takeWhile (fun y => decide (y < x)) ++ l.dropWhile (fun y => decide (y < x)))) := List.perm_middle
  rw [List.takeWhile_append_dropWhile] at h
  exact h.trans (List.perm_append_singleton x l).symm
theorem sortL_perm (l : List Int) : (sortL l).Perm l := by
  suffices h : ∀ (r : List Int), (sortL r.reverse).Perm r.reverse by simpa using h l.reverse
  intro r
  induction r with
  | nil => exact List.Perm.refl _
  | cons x r ih =>
    rw [List.reverse_cons, sortL_snoc]
    exact (insL_perm x _).trans (ih.append_right [x])
theorem insL_sorted (x : Int) : ∀ (l : List Int), l.Pairwise (fun a b => a ≤ b) → (insL x l).Pairwise (fun a b => a ≤ b)
  | [], _ => by simp [insL]
  | y :: l, h => by
    obtain ⟨h1, h2⟩ := List.pairwise_cons.1 h
    by_cases hy : y < x
    · have e : insL x (y :: l) = y :: insL x l := by simp [insL, hy]
      rw [e, List.pairwise_cons]
      refine ⟨fun z hz => ?_, insL_sorted x l h2⟩
      rcases List.mem_append.1 ((insL_perm x l).mem_iff.1 hz) with hz | hz
      · exact h1 z hz
      · have : z = x := by simpa using hz
        omega
    · have e : insL x (y :: l) = x :: y :: l := by simp [insL, hy]
      rw [e, List.pairwise_cons]
      refine ⟨fun z hz => ?_, h⟩
      rcases List.mem_cons.1 hz with rfl | hz
      · omega
      · have := h1 z hz; omega
theorem sortL_sorted (l : List Int) : (sortL l).Pairwise (fun a b => a ≤ b) := by
  suffices h : ∀ (r : List Int), (sortL r.reverse).Pairwise (fun a b => a ≤ b) by simpa using h l.reverse
  intro r
  induction r with
  | nil => simp [sortL]
  | cons x r ih => rw [List.reverse_cons, sortL_snoc]; exact insL_sorted x _ ih
theorem merge_sortL (l : List Int) : l.mergeSort (fun x y => decide (x ≤ y)) = sortL l := by
  refine List.Perm.eq_of_pairwise (le := fun a b : Int => a ≤ b) (fun a b _ _ h1 h2 => by omega) ?_ (sortL_sorted l) ((List.mergeSort_perm l _).trans (sortL_perm l).symm)
  have := List.pairwise_mergeSort (le := fun x y : Int => decide (x ≤ y)) (fun a b c h1 h2 => by simp at *; omega) (fun a b => by simp; omega) l
  exact this.imp (fun h => by simpa using h)

/-- The sample, and all other numbers. -/
def smpL (s n k : Nat) : List Int := sortL ((permL s n).take k)
def rstL (L : List Int) (n : Nat) : List Int := (upL n).filter fun i => !L.contains i
theorem smpL_len {s n k : Nat} (h : k ≤ n) : (smpL s n k).length = k := by
  unfold smpL; rw [(sortL_perm _).length_eq, List.length_take, permL_len]; omega
theorem upL_nodup (n : Nat) : (upL n).Nodup := by
  unfold upL
  refine List.Pairwise.map _ (fun a b h => ?_) (List.nodup_range (n := n))
  omega
theorem smpL_nodup (s n k : Nat) : (smpL s n k).Nodup := by
  unfold smpL
  rw [(sortL_perm _).nodup_iff]
  exact ((permL_perm s n).nodup_iff.2 (upL_nodup n)).sublist (List.take_sublist _ _)
theorem smpL_strict (s n k : Nat) : (smpL s n k).Pairwise (fun a b => a < b) := by
  have h1 := sortL_sorted ((permL s n).take k)
  have h2 := smpL_nodup s n k
  have h3 := List.Pairwise.and h1 h2
  exact h3.imp (fun ⟨h, h'⟩ => by omega)
theorem smpL_mem {s n k : Nat} {x : Int} (h : x ∈ smpL s n k) : 0 ≤ x ∧ x < n := by
  have h1 := List.mem_of_mem_take ((sortL_perm _).mem_iff.1 h)
  have h2 := (permL_perm s n).mem_iff.1 h1
  simp [upL] at h2
  obtain ⟨a, ha, rfl⟩ := h2
  omega
theorem rstL_snoc_yes {L : List Int} {n : Nat} (h : (n : Int) ∈ L) : rstL L (n + 1) = rstL L n := by
  unfold rstL; rw [upL_snoc, List.filter_append]; simp [h]
theorem rstL_snoc_no {L : List Int} {n : Nat} (h : ¬ (n : Int) ∈ L) : rstL L (n + 1) = rstL L n ++ [(n : Int)] := by
  unfold rstL; rw [upL_snoc, List.filter_append]; simp [h]
/-- How many of the sample lie below. -/
def nxtN (L : List Int) (i : Int) : Nat := (L.takeWhile fun x => decide (x < i)).length
theorem nxt_step : ∀ (L : List Int) (i : Int), L.Pairwise (fun a b => a < b) → (i ∈ L ∧ L[nxtN L i]? = some i ∧ nxtN L (i + 1) = nxtN L i + 1) ∨ (¬ i ∈ L ∧ L[nxtN L i]? ≠ some i ∧ nxtN L (i + 1) = nxtN L i)
  | [], i, _ => by right; simp [nxtN]
  | x :: L, i, h => by
    obtain ⟨h1, h2⟩ := List.pairwise_cons.1 h
    rcases Int.lt_trichotomy x i with hx | hx | hx
    · have e1 : nxtN (x :: L) i = nxtN L i + 1 := by simp [nxtN, hx]
      have e2 : nxtN (x :: L) (i + 1) = nxtN L (i + 1) + 1 := by simp [nxtN, show x < i + 1 by omega]
      have e3 : i ∈ x :: L ↔ i ∈ L := by simp; omega
      rw [e1, e2, e3, List.getElem?_cons_succ]
      rcases nxt_step L i h2 with ⟨a, b, c⟩ | ⟨a, b, c⟩
      · exact .inl ⟨a, b, by omega⟩
      · exact .inr ⟨a, b, by omega⟩
    · subst hx
      left
      have e1 : nxtN (x :: L) x = 0 := by simp [nxtN]
      have e2 : nxtN (x :: L) (x + 1) = 1 := by
        have : L.takeWhile (fun y => decide (y < x + 1)) = [] := by
          cases L with
          | nil => rfl
          | cons y L => rw [List.takeWhile_cons, decide_eq_false (show ¬ y < x + 1 by have := h1 y (by simp); omega)]; rfl
        simp [nxtN, show x < x + 1 by omega, this]
      exact ⟨by simp, by rw [e1]; rfl, by rw [e1, e2]⟩
    · right
      have e1 : nxtN (x :: L) i = 0 := by unfold nxtN; rw [List.takeWhile_cons, decide_eq_false (show ¬ x < i by omega)]; rfl
      have e2 : nxtN (x :: L) (i + 1) = 0 := by unfold nxtN; rw [List.takeWhile_cons, decide_eq_false (show ¬ x < i + 1 by omega)]; rfl
      refine ⟨fun hm => ?_, ?_, by rw [e1, e2]⟩
      · rcases List.mem_cons.1 hm with rfl | hm
        · omega
        · have := h1 i hm; omega
      · rw [e1]; simp; omega
theorem nxt_le (L : List Int) (i : Int) : nxtN L i ≤ L.length := List.Sublist.length_le (List.takeWhile_sublist _)
theorem nxt_zero {L : List Int} (h : ∀ x ∈ L, 0 ≤ x) : nxtN L 0 = 0 := by
  cases L with
  | nil => rfl
  | cons x L => unfold nxtN; rw [List.takeWhile_cons, decide_eq_false (show ¬ x < 0 by have := h x (by simp); omega)]; rfl

end Go.Proofs.Ytbobbcfjjdmdgaa
