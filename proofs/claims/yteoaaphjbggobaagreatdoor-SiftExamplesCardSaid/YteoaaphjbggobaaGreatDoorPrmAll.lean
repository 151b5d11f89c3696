/- Plain: the order that is drawn by exchanges, its sample in increasing order, and the rest. No condition. Contracts of the generator's shuffle, Perm and Sample. For at most 65536 numbers. Contracts of the reference's Below and Perm. For at most 65536 numbers. Contract of the reference's sorted. For at most 65536 numbers. Contracts of sift's Sample and of the reference's. For at most 512 numbers, or refused. -/
import Derived.Test.YteoaaphjbggobaaGreatDoorDrwA
import Derived.Test.YteoaaphjbggobaaGreatDoorMade
import Derived.Test.YteoaaphjbggobaaGreatDoorShelf
import Derived.Lib.SlKeysI
import Derived.RegionTactic
import Derived.ChangeAlike
import Derived.Test.YteoaaphjbggobaaGreatDoorApt
import Derived.Deep.RegionHeld3
import Derived.Test.YteoaaphjbggobaaGreatDoorChk
namespace Go.Proofs.YteoaaphjbggobaaGreatDoor
set_option linter.unusedVariables false
set_option linter.unusedSimpArgs false

/-- Two places exchanged. -/
def swp (l : List Int) (i j : Nat) : List Int := (l.set i (l.getD j 0)).set j (l.getD i 0)
theorem swp_len (l : List Int) (i j : Nat) : (swp l i j).length = l.length := by simp [swp]
theorem swp_perm {l : List Int} {i j : Nat} (hi : i < l.length) (hj : j < l.length) : (swp l i j).Perm l := by
  unfold swp
  have e1 : l.getD j 0 = l[j] := by simp [List.getD, List.getElem?_eq_getElem hj]
  have e2 : l.getD i 0 = l[i] := by simp [List.getD, List.getElem?_eq_getElem hi]
  rw [e1, e2]
  exact List.set_set_perm hi hj
/-- The exchanges from the k-th element down. -/
def prm : Nat → Nat → List Int → Nat × List Int
  | 0, s, l => (s, l)
  | 1, s, l => (s, l)
  | k + 2, s, l => prm (k + 1) (nxS s) (swp l (k + 1) (nxY s % (k + 2)))
theorem prm_perm : ∀ (k s : Nat) (l : List Int), k ≤ l.length → (prm k s l).2.Perm l
  | 0, _, _, _ => List.Perm.refl _
  | 1, _, _, _ => List.Perm.refl _
  | k + 2, s, l, h => by
    rw [prm]
    have hm : nxY s % (k + 2) < k + 2 := Nat.mod_lt _ (by omega)
    exact (prm_perm (k + 1) _ _ (by rw [swp_len]; omega)).trans (swp_perm (by omega) (by omega))
def upL (n : Nat) : List Int := (List.range n).map fun i : Nat => (i : Int)
theorem upL_len (n : Nat) : (upL n).length = n := by simp [upL]
theorem upL_snoc (n : Nat) : upL (n + 1) = upL n ++ [(n : Int)] := by simp [upL, List.range_succ]
theorem upL_at {n k : Nat} (h : k < n) : (upL n)[k]? = some (k : Int) := by simp [upL, h]
def permL (s n : Nat) : List Int := (prm n s (upL n)).2
def permS (s n : Nat) : Nat := (prm n s (upL n)).1
theorem permL_perm (s n : Nat) : (permL s n).Perm (upL n) := prm_perm n s _ (by rw [upL_len]; exact Nat.le_refl _)
theorem permL_len (s n : Nat) : (permL s n).length = n := by rw [(permL_perm s n).length_eq, upL_len]

/-- An element put at its place. -/
def insL (x : Int) (l : List Int) : List Int := l.takeWhile (fun y => decide (y < x)) ++ x :: l.dropWhile (fun y => decide (y < x))
def sortL : List Int → List Int := fun l => l.foldl (fun acc x => insL x acc) []
theorem sortL_snoc (l : List Int) (x : Int) : sortL (l ++ [x]) = insL x (sortL l) := by simp [sortL, List.foldl_append]
theorem insL_perm (x : Int) (l : List Int) : (insL x l).Perm (l ++ [x]) := by
  unfold insL
  have h : (l.takeWhile (fun y => decide (y < x)) ++ x :: l.dropWhile (fun y => decide (y < x))).Perm (x :: (l.takeWhile (fun y => decide (y < x)) ++ l.dropWhile (fun y => decide (y < x)))) := List.perm_middle
  rw [List.takeWhile_append_dropWhile] at h
  exact h.trans (List.perm_append_singleton x l).symm
theorem sortL_perm (l : List Int) : (sortL l).Perm l := by
  suffices h : ∀ (r : List Int), (sortL r.reverse).Perm r.reverse by simpa using h l.reverse
  intro r
  induction r with
  | nil => exact List.Perm.refl _
  | cons x r ih =>
    rw [List.reverse_cons, sortL_snoc]
    exact (insL_perm x _).trans (ih.append_right [x])
theorem insL_sorted (x : Int) : ∀ (l : List Int), l.Pairwise (fun a b => a ≤ b) → (insL x l).Pairwise (fun a b => a ≤ b)
  | [], _ => by simp [insL]
  | y :: l, h => by
    obtain ⟨h1, h2⟩ := List.pairwise_cons.1 h
    by_cases hy : y < x
    · have e : insL x (y :: l) = y :: insL x l := by simp [insL, hy]
      rw [e, List.pairwise_cons]
      refine ⟨fun z hz => ?_, insL_sorted x l h2⟩
      rcases List.mem_append.1 ((insL_perm x l).mem_iff.1 hz) with hz | hz
      · exact h1 z hz
      · have : z = x := by simpa using hz
        omega
    · have e : insL x (y :: l) = x :: y :: l := by simp [insL, hy]
      rw [e, List.pairwise_cons]
      refine ⟨fun z hz => ?_, h⟩
      rcases List.mem_cons.1 hz with rfl | hz
      · omega
      · have := h1 z hz; omega
theorem sortL_sorted (l : List Int) : (sortL l).Pairwise (fun a b => a ≤ b) := by
  suffices h : ∀ (r : List Int), (sortL r.reverse).Pairwise (fun a b => a ≤ b) by simpa using h l.reverse
  intro r
  induction r with
  | nil => simp [sortL]
  | cons x r ih => rw [List.reverse_cons, sortL_snoc]; exact insL_sorted x _ ih
theorem merge_sortL (l : List Int) : l.mergeSort (fun x y => decide (x ≤ y)) = sortL l := by
  refine List.Perm.eq_of_pairwise (le := fun a b : Int => a ≤ b) (fun a b _ _ h1 h2 => by omega) ?_ (sortL_sorted l) ((List.mergeSort_perm l _).trans (sortL_perm l).symm)
  have := List.pairwise_mergeSort (le := fun x y : Int => decide (x ≤ y)) (fun a b c h1 h2 => by simp at *; omega) (fun a b => by simp; omega) l
  exact this.imp (fun h => by simpa using h)

/-- The sample, and all other numbers. -/
def smpL (s n k : Nat) : List Int := sortL ((permL s n).take k)
def rstL (L : List Int) (n : Nat) : List Int := (upL n).filter fun i => !L.contains i
theorem smpL_len {s n k : Nat} (h : k ≤ n) : (smpL s n k).length = k := by
  unfold smpL; rw [(sortL_perm _).length_eq, List.length_take, permL_len]; omega
theorem upL_nodup (n : Nat) : (upL n).Nodup := by
  unfold upL
  refine List.Pairwise.map _ (fun a b h => ?_) (List.nodup_range (n := n))
  omega
theorem smpL_nodup (s n k : Nat) : (smpL s n k).Nodup := by
  unfold smpL
  rw [(sortL_perm _).nodup_iff]
  exact ((permL_perm s n).nodup_iff.2 (upL_nodup n)).sublist (List.take_sublist _ _)
theorem smpL_strict (s n k : Nat) : (smpL s n k).Pairwise (fun a b => a < b) := by
  have h1 := sortL_sorted ((permL s n).take k)
  have h2 := smpL_nodup s n k
  have h3 := List.Pairwise.and h1 h2
  exact h3.imp (fun ⟨h, h'⟩ => by omega)
theorem smpL_mem {s n k : Nat} {x : Int} (h : x ∈ smpL s n k) : 0 ≤ x ∧ x < n := by
  have h1 := List.mem_of_mem_take ((sortL_perm _).mem_iff.1 h)
  have h2 := (permL_perm s n).mem_iff.1 h1
  simp [upL] at h2
  obtain ⟨a, ha, rfl⟩ := h2
  omega
theorem rstL_snoc_yes {L : List Int} {n : Nat} (h : (n : Int) ∈ L) : rstL L (n + 1) = rstL L n := by
  unfold rstL; rw [upL_snoc, List.filter_append]; simp [h]
theorem rstL_snoc_no {L : List Int} {n : Nat} (h : ¬ (n : Int) ∈ L) : rstL L (n + 1) = rstL L n ++ [(n : Int)] := by
  unfold rstL; rw [upL_snoc, List.filter_append]; simp [h]
/-- How many of the sample lie below. -/
def nxtN (L : List Int) (i : Int) : Nat := (L.takeWhile fun x => decide (x < i)).length
theorem nxt_step : ∀ (L : List Int) (i : Int), L.Pairwise (fun a b => a < b) → (i ∈ L ∧ L[nxtN L i]? = some i ∧ nxtN L (i + 1) = nxtN L i + 1) ∨ (¬ i ∈ L ∧ L[nxtN L i]? ≠ some i ∧ nxtN L (i + 1) = nxtN L i)
  | [], i, _ => by right; simp [nxtN]
  | x :: L, i, h => by
    obtain ⟨h1, h2⟩ := List.pairwise_cons.1 h
    rcases Int.lt_trichotomy x i with hx | hx | hx
    · have e1 : nxtN (x :: L) i = nxtN L i + 1 := by simp [nxtN, hx]
      have e2 : nxtN (x :: L) (i + 1) = nxtN L (i + 1) + 1 := by simp [nxtN, show x < i + 1 by omega]
      have e3 : i ∈ x :: L ↔ i ∈ L := by simp; omega
      rw [e1, e2, e3, List.getElem?_cons_succ]
      rcases nxt_step L i h2 with ⟨a, b, c⟩ | ⟨a, b, c⟩
      · exact .inl ⟨a, b, by omega⟩
      · exact .inr ⟨a, b, by omega⟩
    · subst hx
      left
      have e1 : nxtN (x :: L) x = 0 := by simp [nxtN]
      have e2 : nxtN (x :: L) (x + 1) = 1 := by
        have : L.takeWhile (fun y => decide (y < x + 1)) = [] := by
          cases L with
          | nil => rfl
          | cons y L => rw [List.takeWhile_cons, decide_eq_false (show ¬ y < x + 1 by have := h1 y (by simp); omega)]; rfl
        simp [nxtN, show x < x + 1 by omega, this]
      exact ⟨by simp, by rw [e1]; rfl, by rw [e1, e2]⟩
    · right
      have e1 : nxtN (x :: L) i = 0 := by unfold nxtN; rw [List.takeWhile_cons, decide_eq_false (show ¬ x < i by omega)]; rfl
      have e2 : nxtN (x :: L) (i + 1) = 0 := by unfold nxtN; rw [List.takeWhile_cons, decide_eq_false (show ¬ x < i + 1 by omega)]; rfl
      refine ⟨fun hm => ?_, ?_, by rw [e1, e2]⟩
      · rcases List.mem_cons.1 hm with rfl | hm
        · omega
        · have := h1 i hm; omega
      · rw [e1]; simp; omega
theorem nxt_le (L : List Int) (i : Int) : nxtN L i ≤ L.length := List.Sublist.length_le (List.takeWhile_sublist _)
theorem nxt_zero {L : List Int} (h : ∀ x ∈ L, 0 ≤ x) : nxtN L 0 = 0 := by
  cases L with
  | nil => rfl
  | cons x L => unfold nxtN; rw [List.takeWhile_cons, decide_eq_false (show ¬ x < 0 by have := h x (by simp); omega)]; rfl

end Go.Proofs.YteoaaphjbggobaaGreatDoor

namespace Go.Proofs.YteoaaphjbggobaaGreatDoor
open Go.RowKit
set_option linter.unusedVariables false
set_option linter.unusedSimpArgs false

theorem prm_step {i s : Nat} {l : List Int} (h : 0 < i) : prm (i + 1) s l = prm i (nxS s) (swp l i (nxY s % (i + 1))) := by
  obtain ⟨q, rfl⟩ : ∃ q, i = q + 1 := ⟨i - 1, by omega⟩
  rfl
theorem swp_set {l : List Int} {i j : Nat} {x y : Int} (hi : l[i]? = some x) (hj : l[j]? = some y) : swp l i j = (l.set i y).set j x := by
  unfold swp
  simp [List.getD, hi, hj]
theorem swp_same {l : List Int} {i : Nat} {x : Int} (hi : l[i]? = some x) : swp l i i = l.set i x := by
  rw [swp_set hi hi]; simp
theorem prm_nil (s : Nat) (l : List Int) : prm 0 s l = (s, l) := rfl
theorem int_info5 : (Tryz.prog.info? 3).map (fun i => (i.zero, i.size, i.bytes)) = some (some (.int .i64 0), 1, 8) := by kernel_rfl
theorem own_nn {w : World} {base : Nat} {v : Value} {l : List Int} (h : Own w base 3 1 encI v l) (hv : v ≠ .slice none 0 0) : ∃ g cap cur, v = .slice (some ⟨g, 0, none⟩) l.length cap ∧ base ≤ g ∧ w.heap[g]? = some (.cells cur 3 (0, 0)) ∧ l.length ≤ cap ∧ cap ≤ maxLen ∧ cur.size = cap * 1 ∧ cur.toList.take l.length = l.map encZ := by
  have hm : l.flatMap encI = l.map encZ := flat1 (Value.int .i64) l
  rcases h.2 with ⟨h0, _⟩ | ⟨g, cap, cur, rfl, hb, hg, h1, h2, h3, h4⟩
  · exact (hv h0).elim
  · exact ⟨g, cap, cur, rfl, hb, hg, h1, h2, h3, by rw [← hm]; simpa using h4⟩
theorem own_base {α : Type} {w : World} {base base' e z : Nat} {enc : α → List Value} {v : Value} {l : List α} (h : Own w base e z enc v l) (hb : base' ≤ base) : Own w base' e z enc v l := by
  refine ⟨h.1, ?_⟩
  rcases h.2 with hn | ⟨g, cap, cur, hv, hbg, rest⟩
  · exact .inl hn
  · exact .inr ⟨g, cap, cur, hv, Nat.le_trans hb hbg, rest⟩
theorem own_map {w : World} {base : Nat} {v : Value} {l : List Int} {n : Nat} (hn : l.length = n) (h : w.ownsRow base 3 1 v n (l.map encZ)) : Own w base 3 1 encI v l := by
  subst hn
  unfold Own
  rw [show l.flatMap encI = l.map encZ from flat1 (Value.int .i64) l]
  exact h
end Go.Proofs.YteoaaphjbggobaaGreatDoor

namespace Go.Proofs.YteoaaphjbggobaaGreatDoor
open Go.RowKit
set_option linter.unusedVariables false
set_option linter.unusedSimpArgs false

theorem below_drw (w : World) (n : Nat) : Below w.heap.size w (w.drewN n) := ⟨rfl, rfl, rfl, Nat.le_refl _, fun _ _ => rfl⟩
theorem own_ptr' {α : Type} {w : World} {B e z : Nat} {enc : α → List Value} {v : Value} {l : List α} (h : Own w B e z enc v l) (hl : 0 < l.length) : ∃ g c, v = .slice (some ⟨g, 0, none⟩) l.length c ∧ B ≤ g ∧ g < w.heap.size := by
  rcases h.2 with ⟨_, h0⟩ | ⟨g, cap, cur, rfl, hb, hg, _⟩
  · omega
  · exact ⟨g, cap, rfl, hb, (Array.getElem?_eq_some_iff.1 hg).1⟩
end Go.Proofs.YteoaaphjbggobaaGreatDoor

namespace Go.Proofs.YteoaaphjbggobaaGreatDoor
open Go.RowKit
set_option linter.unusedVariables false
set_option linter.unusedSimpArgs false

/-- 'out = append(out, xs...)' in a region that draws its order: out is the call's own, xs reads as a list. -/
theorem step_app {P : Program} {W : World} {ops : Array Oper} {o : Oper} {a : Act} {K : Act → World → Prop} {Q : Exit → Act → World → Prop} {E : Prop} (hgd : o.guard = none) (s x : Operand) (t : TypeId)
    (ho : o.op = .call { callee := .builtin .append, args := #[s, x], argTypes := #[t, t] })
    (base : Nat) (e : TypeId) (i : TypeInfo) (z : Value) (size bytes : Nat) (ht : P.underlying t = some (.slice e)) (hi : P.info? e = some i) (hz : i.zero = some z)
    (hsize : i.size = size) (hby : i.bytes = bytes) (hzs : z.cells.size = size) (hsz : 0 < size)
    {α : Type} {enc : α → List Value} (hs' : ∀ x, (enc x).length = size) (h1 : ∀ x, ∀ u ∈ enc x, u.oneCell' = true) (v : Value) (l : List α) (l2 : List α) (A : Option Addr) (n c B : Nat) (hn : l2.length = n) (hs : a.eval s = v) (hown : Own W base e size enc v l)
    (hx : a.eval x = .slice A n c) (hA : Arr size enc W B A l2) (hnil : A = none → c = 0)
    (hbytes : (l.length + l2.length) * bytes ≤ 140737488355328) (hbp : 0 < bytes) (hbase : base ≤ W.heap.size)
    (h : ∀ v' w', Own w' base e size enc v' (l ++ l2) → Below base W w' → W.grownBy w' v.ownBlock → K (a.put o.dst v') w') : if Region.wanted o (yielded ops a.tmps) = true then Oper.wp P o a W K Q else E := by
  subst hn
  have h63 : l.length + l2.length ≤ maxLen := by
    have := Nat.le_mul_of_pos_right (l.length + l2.length) hbp
    unfold maxLen; omega
  rw [if_pos (by simp [Region.wanted, hgd])]
  have hgo : ∀ ad, A = some ad → (∀ j u, (l2.flatMap enc)[j]? = some u → W.cell? (ad.add j) = some u) → Oper.wp P o a W K Q := by
    rintro ad rfl hnews
    refine wp_append_own W s x t ho base e i z size bytes ht hi hz hsize hby hzs hsz v l.length (l.flatMap enc) hs hown ad l2.length c (l2.flatMap enc) hx (flat_len hs' l2) hnews (fun u hu => ?_) h63 hbytes hbase (fun v' w' h2 h3 _ => h v' w' ?_ ?_ h3)
    · obtain ⟨y, _, hy⟩ := List.mem_flatMap.1 hu
      exact h1 y u hy
    · unfold Own; rw [List.length_append, List.flatMap_append]; exact h2
    · exact (Below.refl _ _).grown h3 hbase (fun k hk => (World.ownsRow.lt hown k hk).1)
  cases l2 with
  | nil =>
    cases A with
    | none =>
      obtain rfl : c = 0 := hnil rfl
      have hrun := run_append_owned_none (P := P) (w := W) base t o.type e i size ht hi v l.length (l.flatMap enc) hown
      unfold Oper.wp
      have hx' : a.eval x = .slice none 0 0 := hx
      simp [execOp, ho, resolve, invoke, builtin, hs, hx', hrun, Result.andThen]
      exact h v W (by simpa using hown) (Below.refl _ _) ⟨rfl, rfl, rfl, Nat.le_refl _, fun _ _ _ => rfl⟩
    | some ad => exact hgo ad rfl (by simp)
  | cons y ys =>
    obtain ⟨b, off, rfl, _, hc⟩ := hA (by simp)
    exact hgo _ rfl (flat_cell hs' hsz hc)

theorem arr_dp {α : Type} {enc : α → List Value} {w : World} {B b off : Nat} {l : List α} (h : Arr 1 enc w B (some ⟨b, off, none⟩) l) (n : Nat) : Arr 1 enc w B (some ⟨b, off + n, none⟩) (l.drop n) := fun hl => by
  obtain ⟨b', off', he, hb, hc⟩ := h (by rintro rfl; simp at hl)
  cases he
  refine ⟨b, off + n, rfl, hb, fun i x hx j u hu => ?_⟩
  have := hc (n + i) x (by simpa using hx) j u hu
  rw [show off + n + i * 1 + j = off + (n + i) * 1 + j from by omega]; exact this
theorem arr_tk {α : Type} {sz : Nat} {enc : α → List Value} {w : World} {B : Nat} {A : Option Addr} {l : List α} (h : Arr sz enc w B A l) (n : Nat) : Arr sz enc w B A (l.take n) := fun hl => by
  obtain ⟨b, off, rfl, hb, hc⟩ := h (by rintro rfl; simp at hl)
  exact ⟨b, off, rfl, hb, fun i x hx => hc i x (by
    rw [List.getElem?_take] at hx
    split at hx
    · exact hx
    · cases hx)⟩
theorem cell_lit {w : World} {g : Nat} {x : Int} (h : w.cell? ⟨g, 0, none⟩ = some (.int .i64 x)) : ∀ j u, (encI x)[j]? = some u → w.cell? ⟨g, j, none⟩ = some u := fun j u hu => by
  cases j with
  | zero => obtain rfl : Value.int .i64 x = u := by simpa [encI] using hu
            exact h
  | succ j => simp [encI] at hu
theorem nxt_cons (y : Int) (L : List Int) (x : Int) : nxtN (y :: L) x = if y < x then nxtN L x + 1 else 0 := by
  unfold nxtN
  rw [List.takeWhile_cons]
  by_cases h : y < x
  · simp [h]
  · simp [h]
theorem at_le {x : Int} : ∀ {L : List Int} {a : Nat}, a < nxtN L x → ∃ y, L[a]? = some y ∧ y < x
  | [], a, h => by simp [nxtN] at h
  | y :: L, a, h => by
    rw [nxt_cons] at h
    split at h
    · rename_i hy
      cases a with
      | zero => exact ⟨y, rfl, hy⟩
      | succ a => simpa using at_le (L := L) (a := a) (by omega)
    · omega
theorem at_eq {x : Int} : ∀ {L : List Int} {y : Int}, L[nxtN L x]? = some y → ¬ y < x
  | [], y, h => by simp at h
  | z :: L, y, h => by
    rw [nxt_cons] at h
    split at h
    · exact at_eq (L := L) (by simpa using h)
    · rename_i hz
      have : z = y := by simpa using h
      omega
theorem ins_cons (x y : Int) (L : List Int) : insL x (y :: L) = if y < x then y :: insL x L else x :: y :: L := by
  unfold insL
  rw [List.takeWhile_cons, List.dropWhile_cons]
  by_cases h : y < x
  · simp [h]
  · simp [h]
theorem ins_split (x : Int) : ∀ (L : List Int), insL x L = L.take (nxtN L x) ++ [x] ++ L.drop (nxtN L x)
  | [] => rfl
  | y :: L => by
    rw [ins_cons, nxt_cons]
    split
    · rw [ins_split x L]; simp
    · simp
theorem ins_len (x : Int) (L : List Int) : (insL x L).length = L.length + 1 := by
  rw [(insL_perm x L).length_eq]; simp
theorem sort_len (L : List Int) : (sortL L).length = L.length := (sortL_perm L).length_eq
theorem sort_take {l : List Int} {i : Nat} {x : Int} (h : l[i]? = some x) : sortL (l.take (i + 1)) = insL x (sortL (l.take i)) := by
  have hk := (List.getElem?_eq_some_iff.1 h).1
  have he := (List.getElem?_eq_some_iff.1 h).2
  rw [List.take_succ_eq_append_getElem hk, he, sortL_snoc]

end Go.Proofs.YteoaaphjbggobaaGreatDoor

namespace Go.Proofs.YteoaaphjbggobaaGreatDoor
open Go.RowKit
set_option linter.unusedVariables false
set_option linter.unusedSimpArgs false

def smE (n k : Int) : Int := if betwB n 0 512 = true ∧ betwB k 0 n = true then 0 else 3
theorem smE_ok {n k : Int} (h : smE n k = 0) : 0 ≤ n ∧ n ≤ 512 ∧ 0 ≤ k ∧ k ≤ n := by
  unfold smE at h
  split at h
  · rename_i h2; simp [betwB] at h2; omega
  · cases h
def smL (s : Nat) (n k : Int) : List Int := if smE n k = 0 then smpL s n.toNat k.toNat else []
def rsL (s : Nat) (n k : Int) : List Int := if smE n k = 0 then rstL (smpL s n.toNat k.toNat) n.toNat else []
theorem sm_bad {s : Nat} {n k : Int} (h : smE n k ≠ 0) : smE n k = 3 ∧ smL s n k = [] ∧ rsL s n k = [] := by
  refine ⟨?_, by unfold smL; rw [if_neg h], by unfold rsL; rw [if_neg h]⟩
  unfold smE at *
  split
  · rename_i h2; rw [if_pos h2] at h; exact (h rfl).elim
  · rfl
theorem rst_len (L : List Int) (n : Nat) : (rstL L n).length ≤ n := by
  unfold rstL; exact Nat.le_trans (List.length_filter_le _ _) (by rw [upL_len]; exact Nat.le_refl _)
theorem rst_zero (L : List Int) : rstL L 0 = [] := rfl
theorem below_of_grownS {w w' : World} (h : w.grownBy w' none) : Below w.heap.size w w' := ⟨h.os, h.tape, h.output, h.size, fun k hk => h.block k hk (by simp)⟩
theorem of_decide_eq {p : Prop} [Decidable p] {b : Bool} (h : decide p = b) : if b then p else ¬ p := by
  cases b
  · simpa using h
  · simpa using h
/-- What Sample hands back. -/
def SmR (w w' : World) (s : Nat) (n k : Int) (e : Ending) : Prop := ∃ v1 v2, e = .returned (.tuple #[v1, v2, .int .i64 (smE n k)]) ∧ Own w' w.heap.size 3 1 encI v1 (smL s n k) ∧ Own w' w.heap.size 3 1 encI v2 (rsL s n k) ∧ Below w.heap.size w w'
theorem smR_bad {w w' : World} {s : Nat} {n k : Int} (h : smE n k ≠ 0) (hb : Below w.heap.size w w') : SmR w w' s n k (.returned (.tuple #[.slice none 0 0, .slice none 0 0, .int .i64 3])) := by
  obtain ⟨h1, h2, h3⟩ := sm_bad (s := s) h
  exact ⟨_, _, by rw [h1], by rw [h2]; exact Own.nil, by rw [h3]; exact Own.nil, hb⟩
theorem smR_good {w w' : World} {s n k : Nat} (h : smE n k = 0) {v1 v2 : Value} (h1 : Own w' w.heap.size 3 1 encI v1 (smpL s n k)) (h2 : Own w' w.heap.size 3 1 encI v2 (rstL (smpL s n k) n)) (hb : Below w.heap.size w w') : SmR w w' s n k (.returned (.tuple #[v1, v2, .int .i64 0])) :=
  ⟨v1, v2, by rw [h], by unfold smL; rw [if_pos h]; exact h1, by unfold rsL; rw [if_pos h]; exact h2, hb⟩

theorem mem_take_snoc {L : List Int} {m : Nat} {y x : Int} (h : L[m]? = some y) : decide (x ∈ L.take (m + 1)) = (decide (x ∈ L.take m) || (y == x)) := by
  have hk := (List.getElem?_eq_some_iff.1 h).1
  have he := (List.getElem?_eq_some_iff.1 h).2
  rw [List.take_succ_eq_append_getElem hk, he]
  by_cases h1 : x ∈ L.take m
  · simp [h1]
  · by_cases h2 : y = x
    · simp [h2]
    · simp [h1, h2, Ne.symm h2]
end Go.Proofs.YteoaaphjbggobaaGreatDoor
