/- Plain: the order that is drawn by exchanges, its sample in increasing order, and the rest. No condition. Contracts of the generator's shuffle, Perm and Sample. For at most 65536 numbers. Contracts of the reference's Below and Perm. For at most 65536 numbers. Contract of the reference's sorted. For at most 65536 numbers. Contracts of sift's Sample and of the reference's. For at most 512 numbers, or refused. -/
import Derived.Test.YtfolgmcoggejbaaGreatDrwA
import Derived.Test.YtfolgmcoggejbaaGreatMade
import Derived.Test.YtfolgmcoggejbaaGreatShelf
import Derived.Lib.SlKeysI
import Derived.RegionTactic
import Derived.ChangeAlike
import Derived.Test.YtfolgmcoggejbaaGreatApt
import Derived.Deep.RegionHeld3
import Derived.Test.YtfolgmcoggejbaaGreatChk
namespace Go.Proofs.YtfolgmcoggejbaaGreat
set_option linter.unusedVariables false
set_option linter.unusedSimpArgs false

/-- Two places exchanged. -/
def swp (l : List Int) (i j : Nat) : List Int := (l.set i (l.getD j 0)).set j (l.getD i 0)
theorem swp_len (l : List Int) (i j : Nat) : (swp l i j).length = l.length := by simp [swp]
theorem swp_perm {l : List Int} {i j : Nat} (hi : i < l.length) (hj : j < l.length) : (swp l i j).Perm l := by
  unfold swp
  have e1 : l.getD j 0 = l[j] := by simp [List.getD, List.getElem?_eq_getElem hj]
  have e2 : l.getD i 0 = l[i] := by simp [List.getD, List.getElem?_eq_getElem hi]
  rw [e1, e2]
  exact List.set_set_perm hi hj
/-- The exchanges from the k-th element down. -/
def prm : Nat → Nat → List Int → Nat × List Int
  | 0, s, l => (s, l)
  | 1, s, l => (s, l)
  | k + 2, s, l => prm (k + 1) (nxS s) (swp l (k + 1) (nxY s % (k + 2)))
theorem prm_perm : ∀ (k s : Nat) (l : List Int), k ≤ l.length → (prm k s l).2.Perm l
  | 0, _, _, _ => List.Perm.refl _
  | 1, _, _, _ => List.Perm.refl _
  | k + 2, s, l, h => by
    rw [prm]
    have hm : nxY s % (k + 2) < k + 2 := Nat.mod_lt _ (by omega)
    exact (prm_perm (k + 1) _ _ (by rw [swp_len]; omega)).trans (swp_perm (by omega) (by omega))
def upL (n : Nat) : List Int := (List.range n).map fun i : Nat => (i : Int)
theorem upL_len (n : Nat) : (upL n).length = n := by simp [upL]
theorem upL_snoc (n : Nat) : upL (n + 1) = upL n ++ [(n : Int)] := by simp [upL, List.range_succ]
theorem upL_at {n k : Nat} (h : k < n) : (upL n)[k]? = some (k : Int) := by simp [upL, h]
def permL (s n : Nat) : List Int := (prm n s (upL n)).2
def permS (s n : Nat) : Nat := (prm n s (upL n)).1
theorem permL_perm (s n : Nat) : (permL s n).Perm (upL n) := prm_perm n s _ (by rw [upL_len]; exact Nat.le_refl _)
theorem permL_len (s n : Nat) : (permL s n).length = n := by rw [(permL_perm s n).length_eq, upL_len]

/-- An element put at its place. -/
def insL (x : Int) (l : List Int) : List Int := l.takeWhile (fun y => decide (y < x)) ++ x :: l.dropWhile (fun y => decide (y < x))
def sortL : List Int → List Int := fun l => l.foldl (fun acc x => insL x acc) []
theorem sortL_snoc (l : List Int) (x : Int) : sortL (l ++ [x]) = insL x (sortL l) := by simp [sortL, List.foldl_append]
theorem insL_perm (x : Int) (l : List Int) : (insL x l).Perm (l ++ [x]) := by
  unfold insL
  have h : (l.takeWhile (fun y => decide (y < x)) ++ x :: l.dropWhile (fun y => decide (y < x))).Perm (x :: (l.takeWhile (fun y => decide (y < x)) ++ l.dropWhile (fun y => decide (y < x)))) := List.perm_middle
  rw [List.takeWhile_append_dropWhile] at h
  exact h.trans (List.perm_append_singleton x l).symm
theorem sortL_perm (l : List Int) : (sortL l).Perm l := by
  suffices h : ∀ (r : List Int), (sortL r.reverse).Perm r.reverse by simpa using h l.reverse
  intro r
  induction r with
  | nil => exact List.Perm.refl _
  | cons x r ih =>
    rw [List.reverse_cons, sortL_snoc]
    exact (insL_perm x _).trans (ih.append_right [x])
theorem insL_sorted (x : Int) : ∀ (l : List Int), l.Pairwise (fun a b => a ≤ b) → (insL x l).Pairwise (fun a b => a ≤ b)
  | [], _ => by simp [insL]
  | y :: l, h => by
    obtain ⟨h1, h2⟩ := List.pairwise_cons.1 h
    by_cases hy : y < x
    · have e : insL x (y :: l) = y :: insL x l := by simp [insL, hy]
      rw [e, List.pairwise_cons]
      refine ⟨fun z hz => ?_, insL_sorted x l h2⟩
      rcases List.mem_append.1 ((insL_perm x l).mem_iff.1 hz) with hz | hz
      · exact h1 z hz
      · have : z = x := by simpa using hz
        omega
    · have e : insL x (y :: l) = x :: y :: l := by simp [insL, hy]
      rw [e, List.pairwise_cons]
      refine ⟨fun z hz => ?_, h⟩
      rcases List.mem_cons.1 hz with rfl | hz
      · omega
      · have := h1 z hz; omega
theorem sortL_sorted (l : List Int) : (sortL l).Pairwise (fun a b => a ≤ b) := by
  suffices h : ∀ (r : List Int), (sortL r.reverse).Pairwise (fun a b => a ≤ b) by simpa using h l.reverse
  intro r
  induction r with
  | nil => simp [sortL]
  | cons x r ih => rw [List.reverse_cons, sortL_snoc]; exact insL_sorted x _ ih
theorem merge_sortL (l : List Int) : l.mergeSort (fun x y => decide (x ≤ y)) = sortL l := by
  refine List.Perm.eq_of_pairwise (le := fun a b : Int => a ≤ b) (fun a b _ _ h1 h2 => by omega) ?_ (sortL_sorted l) ((List.mergeSort_perm l _).trans (sortL_perm l).symm)
  have := List.pairwise_mergeSort (le := fun x y : Int => decide (x ≤ y)) (fun a b c h1 h2 => by simp at *; omega) (fun a b => by simp; omega) l
  exact this.imp (fun h => by simpa using h)

/-- The sample, and all other numbers. -/
def smpL (s n k : Nat) : List Int := sortL ((permL s n).take k)
def rstL (L : List Int) (n : Nat) : List Int := (upL n).filter fun i => !L.contains i
theorem smpL_len {s n k : Nat} (h : k ≤ n) : (smpL s n k).length = k := by
  unfold smpL; rw [(sortL_perm _).length_eq, List.length_take, permL_len]; omega
theorem upL_nodup (n : Nat) : (upL n).Nodup := by
  unfold upL
  refine List.Pairwise.map _ (fun a b h => ?_) (List.nodup_range (n := n))
  omega
theorem smpL_nodup (s n k : Nat) : (smpL s n k).Nodup := by
  unfold smpL
  rw [(sortL_perm _).nodup_iff]
  exact ((permL_perm s n).nodup_iff.2 (upL_nodup n)).sublist (List.take_sublist _ _)
theorem smpL_strict (s n k : Nat) : (smpL s n k).Pairwise (fun a b => a < b) := by
  have h1 := sortL_sorted ((permL s n).take k)
  have h2 := smpL_nodup s n k
  have h3 := List.Pairwise.and h1 h2
  exact h3.imp (fun ⟨h, h'⟩ => by omega)
theorem smpL_mem {s n k : Nat} {x : Int} (h : x ∈ smpL s n k) : 0 ≤ x ∧ x < n := by
  have h1 := List.mem_of_mem_take ((sortL_perm _).mem_iff.1 h)
  have h2 := (permL_perm s n).mem_iff.1 h1
  simp [upL] at h2
  obtain ⟨a, ha, rfl⟩ := h2
  omega
theorem rstL_snoc_yes {L : List Int} {n : Nat} (h : (n : Int) ∈ L) : rstL L (n + 1) = rstL L n := by
  unfold rstL; rw [upL_snoc, List.filter_append]; simp [h]
theorem rstL_snoc_no {L : List Int} {n : Nat} (h : ¬ (n : Int) ∈ L) : rstL L (n + 1) = rstL L n ++ [(n : Int)] := by
  unfold rstL; rw [upL_snoc, List.filter_append]; simp [h]
/-- How many of the sample lie below. -/
def nxtN (L : List Int) (i : Int) : Nat := (L.takeWhile fun x => decide (x < i)).length
theorem nxt_step : ∀ (L : List Int) (i : Int), L.Pairwise (fun a b => a < b) → (i ∈ L ∧ L[nxtN L i]? = some i ∧ nxtN L (i + 1) = nxtN L i + 1) ∨ (¬ i ∈ L ∧ L[nxtN L i]? ≠ some i ∧ nxtN L (i + 1) = nxtN L i)
  | [], i, _ => by right; simp [nxtN]
  | x :: L, i, h => by
    obtain ⟨h1, h2⟩ := List.pairwise_cons.1 h
    rcases Int.lt_trichotomy x i with hx | hx | hx
    · have e1 : nxtN (x :: L) i = nxtN L i + 1 := by simp [nxtN, hx]
      have e2 : nxtN (x :: L) (i + 1) = nxtN L (i + 1) + 1 := by simp [nxtN, show x < i + 1 by omega]
      have e3 : i ∈ x :: L ↔ i ∈ L := by simp; omega
      rw [e1, e2, e3, List.getElem?_cons_succ]
      rcases nxt_step L i h2 with ⟨a, b, c⟩ | ⟨a, b, c⟩
      · exact .inl ⟨a, b, by omega⟩
      · exact .inr ⟨a, b, by omega⟩
    · subst hx
      left
      have e1 : nxtN (x :: L) x = 0 := by simp [nxtN]
      have e2 : nxtN (x :: L) (x + 1) = 1 := by
        have : L.takeWhile (fun y => decide (y < x + 1)) = [] := by
          cases L with
          | nil => rfl
          | cons y L => rw [List.takeWhile_cons, decide_eq_false (show ¬ y < x + 1 by have := h1 y (by simp); omega)]; rfl
        simp [nxtN, show x < x + 1 by omega, this]
      exact ⟨by simp, by rw [e1]; rfl, by rw [e1, e2]⟩
    · right
      have e1 : nxtN (x :: L) i = 0 := by unfold nxtN; rw [List.takeWhile_cons, decide_eq_false (show ¬ x < i by omega)]; rfl
      have e2 : nxtN (x :: L) (i + 1) = 0 := by unfold nxtN; rw [List.takeWhile_cons, decide_eq_false (show ¬ x < i + 1 by omega)]; rfl
      refine ⟨fun hm => ?_, ?_, by rw [e1, e2]⟩
      · rcases List.mem_cons.1 hm with rfl | hm
        · omega
        · have := h1 i hm; omega
      · rw [e1]; simp; omega
theorem nxt_le (L : List Int) (i : Int) : nxtN L i ≤ L.length := List.Sublist.length_le (List.takeWhile_sublist _)
theorem nxt_zero {L : List Int} (h : ∀ x ∈ L, 0 ≤ x) : nxtN L 0 = 0 := by
  cases L with
  | nil => rfl
  | cons x L => unfold nxtN; rw [List.takeWhile_cons, decide_eq_false (show ¬ x < 0 by have := h x (by simp); omega)]; rfl

end Go.Proofs.YtfolgmcoggejbaaGreat

namespace Go.Proofs.YtfolgmcoggejbaaGreat
open Go.RowKit
set_option linter.unusedVariables false
set_option linter.unusedSimpArgs false

theorem prm_step {i s : Nat} {l : List Int} (h : 0 < i) : prm (i + 1) s l = prm i (nxS s) (swp l i (nxY s % (i + 1))) := by
  obtain ⟨q, rfl⟩ : ∃ q, i = q + 1 := ⟨i - 1, by omega⟩
  rfl
theorem swp_set {l : List Int} {i j : Nat} {x y : Int} (hi : l[i]? = some x) (hj : l[j]? = some y) : swp l i j = (l.set i y).set j x := by
  unfold swp
  simp [List.getD, hi, hj]
theorem swp_same {l : List Int} {i : Nat} {x : Int} (hi : l[i]? = some x) : swp l i i = l.set i x := by
  rw [swp_set hi hi]; simp
set_option maxRecDepth 100000 in
set_option maxHeartbeats 2000000 in
theorem shuffle_any (g c b s n : Nat) (L : List Int) (w : World) (base B : Nat) (hn : L.length = n) (hn0 : 0 < n) (hm : n ≤ 65536) (own : Own w base 3 1 encI (.slice (some ⟨g, 0, none⟩) n c) L)
    (h0 : w.cell? ⟨b, 0, none⟩ = some (.int .u64 s)) (hf : w.frozen? ⟨b, 0, none⟩ = false) (h1 : w.cell? ⟨b, 1, none⟩ = some (.bool true)) (hbg : b ≠ g) (hBb : B ≤ b) (hBg : B ≤ g) :
    Calls Tryz.prog 202 #[.slice (some ⟨g, 0, none⟩) n c, .func (.func 141) #[.pointer (some ⟨b, 0, none⟩)] #[]] w fun e w' => e = .returned (.tuple #[]) ∧ Own w' base 3 1 encI (.slice (some ⟨g, 0, none⟩) n c) (prm n s L).2 ∧ Below B w w' := by
  obtain ⟨m, hnm⟩ : ∃ m, n = m + 1 := ⟨n - 1, by omega⟩
  have hnm' : (n : Int) - 1 = (m : Int) := by omega
  have mb : m ≤ 65536 := by omega
  have Hn := Lib.hid hn
  have Hnm := Lib.hid hnm
  clear hn hnm
  go_enter Tryz.func202, Tryz.ntmps202
  go_wp2_with fail
  go_loopw [4] (fun iv wr => ∃ (i s' : Nat) (L' : List Int), i + 1 ≤ n ∧ iv = .int .i64 i ∧ Hid (L'.length = n) ∧ Hid (prm (i + 1) s' L' = prm n s L) ∧ Own wr base 3 1 encI (.slice (some ⟨g, 0, none⟩) n c) L' ∧ wr.cell? ⟨b, 0, none⟩ = some (.int .u64 s') ∧ wr.frozen? ⟨b, 0, none⟩ = false ∧ wr.cell? ⟨b, 1, none⟩ = some (.bool true) ∧ Below B w wr) (fun iv _ => (intOf iv).toNat)
  case atStart => exact ⟨m, s, L, by have := Hnm.out; omega, rfl, Hn, Lib.hid (by rw [← Hnm.out]), own, h0, hf, h1, Below.refl _ _⟩
  case round =>
    obtain ⟨i, s', L', hi, rfl, hl, hinv, ow, z0, zf, z1, hb⟩ := hrel
    obtain ⟨w6, rfl⟩ : ∃ w6, w6 = wr := ⟨_, rfl⟩
    clear hnm' own h0 hf h1
    by_cases hi0 : i = 0
    · subst hi0
      go_wp2_with fail
      go_end0
      exact ⟨rfl, by rw [← hinv.out]; exact ow, hb⟩
    · have hi1 : 0 < i := by omega
      have g0 : decide ((0 : Int) < (i : Int)) = true := by simp; omega
      obtain ⟨q, hq⟩ : ∃ q, i = q + 1 := ⟨i - 1, by omega⟩
      have hq' : (i : Int) - 1 = (q : Int) := by omega
      have cN := Next_any b s' w6 z0 zf z1
      have hstep := hinv.out
      rw [prm_step hi1] at hstep
      obtain ⟨y, hy⟩ : ∃ y, nxY s' = y := ⟨_, rfl⟩
      have y64 : y < 2 ^ 64 := by rw [← hy]; exact nxY_lt s'
      have y63 : (y : Int) ≤ 18446744073709551615 := by omega
      obtain ⟨j, hj⟩ : ∃ j, y % (i + 1) = j := ⟨_, rfl⟩
      have hjl : j < i + 1 := by rw [← hj]; exact Nat.mod_lt _ (by omega)
      have jm : (y : Int) % ((i : Int) + 1) = (j : Int) := by rw [← hj]; simp
      have jt : (y : Int).tmod ((i : Int) + 1) = (j : Int) := by rw [← jm]; exact Int.tmod_eq_emod_of_nonneg (by omega)
      rw [hy, hj] at hstep
      rw [hy] at cN
      obtain ⟨xi, hxi⟩ : ∃ x, L'[i]? = some x := ⟨_, List.getElem?_eq_getElem (by rw [hl.out]; omega)⟩
      obtain ⟨xj, hxj⟩ : ∃ x, L'[j]? = some x := ⟨_, List.getElem?_eq_getElem (by rw [hl.out]; omega)⟩
      have jn : (j : Int) < (n : Int) := by omega
      have in_ : (i : Int) < (n : Int) := by omega
      have Hstep := Lib.hid hstep
      have Hxi := Lib.hid hxi; have Hxj := Lib.hid hxj; have Hq := Lib.hid hq
      clear hstep hy hj hxi hxj y64 hq
      go_wp2_with fail
      refine cN.mono ?_
      rintro e w7 ⟨rfl, nd, hw7⟩
      have bd : Below (w6.setCell ⟨b, 0, none⟩ (.int .u64 (nxS s'))).heap.size (w6.setCell ⟨b, 0, none⟩ (.int .u64 (nxS s'))) w7 := by rw [hw7]; exact ⟨rfl, rfl, rfl, Nat.le_refl _, fun _ _ => rfl⟩
      have ow7 : Own w7 base 3 1 encI (.slice (some ⟨g, 0, none⟩) n c) L' := (ow.keep (grown_setCell _ _ _ _) (.inr (fun e => hbg (by simpa [Value.ownBlock] using e.symm)))).below bd
      have y0 : w7.cell? ⟨b, 0, none⟩ = some (.int .u64 (nxS s')) := by rw [hw7]; exact World.cell?_setCell_same _ _ _ z0
      have yf : w7.frozen? ⟨b, 0, none⟩ = false := by rw [hw7]; exact (World.frozen?_setCell _ _ _ _).trans zf
      have y1 : w7.cell? ⟨b, 1, none⟩ = some (.bool true) := by rw [hw7]; exact (World.cell?_setCell_other _ _ _ _ (by simp)).trans z1
      have b7 : Below B w w7 := (hb.setCell (p := ⟨b, 0, none⟩) hBb _).trans (bd.mono (by have := hb.size; have := World.block_lt_of_cell? _ _ z0; simp at this ⊢; omega))
      have ci : w7.cell? ⟨g, i, none⟩ = some (.int .i64 xi) := Own.at1 (f := Value.int .i64) ow7 hl.out Hxi.out
      have cj : w7.cell? ⟨g, j, none⟩ = some (.int .i64 xj) := Own.at1 (f := Value.int .i64) ow7 hl.out Hxj.out
      have fi : w7.frozen? ⟨g, i, none⟩ = false := Own.fr1 (f := Value.int .i64) ow7 hl.out i
      have fj : w7.frozen? ⟨g, j, none⟩ = false := Own.fr1 (f := Value.int .i64) ow7 hl.out j
      have kill : ∀ (o : Nat) (x : Int), (w7.setCell ⟨g, o, none⟩ (.int .i64 x)).cell? ⟨b, 0, none⟩ = some (.int .u64 (nxS s')) ∧ (w7.setCell ⟨g, o, none⟩ (.int .i64 x)).frozen? ⟨b, 0, none⟩ = false ∧ (w7.setCell ⟨g, o, none⟩ (.int .i64 x)).cell? ⟨b, 1, none⟩ = some (.bool true) := fun o x =>
        ⟨(World.cell?_setCell_other _ _ _ _ (fun e => hbg (by injection e with e; exact e.symm))).trans y0, (World.frozen?_setCell _ _ _ _).trans yf, (World.cell?_setCell_other _ _ _ _ (fun e => hbg (by injection e with e; exact e.symm))).trans y1⟩
      have own8 := Own.set1 (f := Value.int .i64) (Own.set1 (f := Value.int .i64) ow7 hl.out i xj) (by rw [List.length_set]; exact hl.out) j xi
      rw [← swp_set Hxi.out Hxj.out] at own8
      have hl8 : (swp L' i j).length = n := by rw [swp_len]; exact hl.out
      have r0 := (World.cell?_setCell_other (w7.setCell ⟨g, i, none⟩ (.int .i64 xj)) ⟨g, j, none⟩ ⟨b, 0, none⟩ (.int .i64 xi) (fun e => hbg (by injection e with e; exact e.symm))).trans (kill i xj).1
      have r1 := (World.cell?_setCell_other (w7.setCell ⟨g, i, none⟩ (.int .i64 xj)) ⟨g, j, none⟩ ⟨b, 1, none⟩ (.int .i64 xi) (fun e => hbg (by injection e with e; exact e.symm))).trans (kill i xj).2.2
      have rf := (World.frozen?_setCell (w7.setCell ⟨g, i, none⟩ (.int .i64 xj)) ⟨g, j, none⟩ ⟨b, 0, none⟩ (.int .i64 xi)).trans (kill i xj).2.1
      have b8 : Below B w ((w7.setCell ⟨g, i, none⟩ (.int .i64 xj)).setCell ⟨g, j, none⟩ (.int .i64 xi)) := (b7.setCell (p := ⟨g, i, none⟩) hBg _).setCell (p := ⟨g, j, none⟩) hBg _
      have fin : Hid (∃ (i_1 s2 : Nat) (L2 : List Int), i_1 + 1 ≤ n ∧ Value.int IntKind.i64 ↑q = Value.int IntKind.i64 ↑i_1 ∧ Hid (L2.length = n) ∧ Hid (prm (i_1 + 1) s2 L2 = prm n s L) ∧
        Own ((w7.setCell ⟨g, i, none⟩ (.int .i64 xj)).setCell ⟨g, j, none⟩ (.int .i64 xi)) base 3 1 encI (.slice (some ⟨g, 0, none⟩) n c) L2 ∧
        ((w7.setCell ⟨g, i, none⟩ (.int .i64 xj)).setCell ⟨g, j, none⟩ (.int .i64 xi)).cell? ⟨b, 0, none⟩ = some (.int .u64 s2) ∧ ((w7.setCell ⟨g, i, none⟩ (.int .i64 xj)).setCell ⟨g, j, none⟩ (.int .i64 xi)).frozen? ⟨b, 0, none⟩ = false ∧
        ((w7.setCell ⟨g, i, none⟩ (.int .i64 xj)).setCell ⟨g, j, none⟩ (.int .i64 xi)).cell? ⟨b, 1, none⟩ = some (.bool true) ∧ Below B w ((w7.setCell ⟨g, i, none⟩ (.int .i64 xj)).setCell ⟨g, j, none⟩ (.int .i64 xi))) :=
        Lib.hid ⟨q, nxS s', swp L' i j, by omega, rfl, Lib.hid hl8, Lib.hid (by rw [← Hq.out]; exact Hstep.out), own8, r0, rf, r1, b8⟩
      clear own8 hl8 r0 r1 rf b8 hw7 bd z0 zf z1 cN hb ow y0 yf y1 kill
      by_cases hij : j = i
      · subst hij
        obtain rfl : xi = xj := Option.some.inj (Hxi.out.symm.trans Hxj.out)
        have cs : (w7.setCell ⟨g, j, none⟩ (.int .i64 xi)).cell? ⟨g, j, none⟩ = some (.int .i64 xi) := World.cell?_setCell_same _ _ _ ci
        go_wp2_with fail
        go_region
        all_goals (
          go_wp2_with fail
          obtain ⟨i_1, s2, L2, f1, f2, f3, f4, f5, f6, f7, f8, f9⟩ := fin.out
          exact ⟨⟨i_1, s2, L2, f1, f2, f3, f4, f5, f6, f7, f8, f9.drew⟩, by simp [intOf]; omega⟩)
      · have hij' : (j : Int) ≠ (i : Int) := by omega
        have ij1 : (⟨g, j, none⟩ : Addr) ≠ ⟨g, i, none⟩ := fun e => hij (by injection e)
        have ij2 : (⟨g, i, none⟩ : Addr) ≠ ⟨g, j, none⟩ := fun e => hij (by injection e with _ e; exact e.symm)
        go_wp2_with fail
        go_region
        all_goals (
          go_wp2_with fail
          obtain ⟨i_1, s2, L2, f1, f2, f3, f4, f5, f6, f7, f8, f9⟩ := fin.out
          exact ⟨⟨i_1, s2, L2, f1, f2, f3, f4, f5, f6, f7, f8, f9.drew⟩, by simp [intOf]; omega⟩)

theorem prm_nil (s : Nat) (l : List Int) : prm 0 s l = (s, l) := rfl
set_option maxHeartbeats 1000000 in
theorem shuffle_zero (g c : Nat) (f : Value) (w : World) : Calls Tryz.prog 202 #[.slice (some ⟨g, 0, none⟩) 0 c, f] w fun e w' => e = .returned (.tuple #[]) ∧ w = w' := by
  go_enter Tryz.func202, Tryz.ntmps202
  go_wp2_with fail
  go_loopw [4] (fun iv wr => iv = .int .i64 (-1) ∧ wr = w) (fun _ _ => 0)
  case atStart => exact ⟨rfl, rfl⟩
  case round =>
    obtain ⟨rfl, rfl⟩ := hrel
    go_wp2_with fail
    go_end0
    exact ⟨rfl, rfl⟩
theorem int_info5 : (Tryz.prog.info? 3).map (fun i => (i.zero, i.size, i.bytes)) = some (some (.int .i64 0), 1, 8) := by kernel_rfl
set_option maxRecDepth 100000 in
set_option maxHeartbeats 2000000 in
theorem Perm_any (b s n B : Nat) (w : World) (hn : n ≤ 65536) (h0 : w.cell? ⟨b, 0, none⟩ = some (.int .u64 s)) (hf : w.frozen? ⟨b, 0, none⟩ = false) (h1 : w.cell? ⟨b, 1, none⟩ = some (.bool true)) (hBb : B ≤ b) :
    Calls Tryz.prog 149 #[.pointer (some ⟨b, 0, none⟩), .int .i64 n] w fun e w' => ∃ g, e = .returned (.tuple #[.slice (some ⟨g, 0, none⟩) n n, .int .i64 0]) ∧ Own w' w.heap.size 3 1 encI (.slice (some ⟨g, 0, none⟩) n n) (permL s n) ∧ Below B w w' := by
  obtain ⟨i0, hi, hz0, hz1, hz2⟩ := info_parts int_info5
  have Hi := Lib.hid hi; have Hz0 := Lib.hid hz0; have Hz1 := Lib.hid hz1; have Hz2 := Lib.hid hz2
  clear hi hz0 hz1 hz2
  have cS := dsize_any b n w h1 ⟨by omega, by omega⟩
  have hbl := World.block_lt_of_cell? w _ h0
  simp only at hbl
  go_enter Tryz.func149, Tryz.ntmps149
  go_wp2_with (first
    | (go_at_call 148; refine (cS).mono ?_; rintro e w' ⟨rfl, rfl⟩)
    | (at_make; refine wpList_mk rfl _ _ 76 rfl 3 i0 _ 8 Tryz.underlying76 Hi.out Hz0.out Hz1.out Hz2.out rfl (fun n : Int => Value.int .i64 n) 0 rfl _ _ _ _ n rfl rfl rfl rfl (by omega) (by unfold maxLen; omega) ?_; intro w1 own1 hb1))
  have z0 := bel_cell hb1 h0
  have z1 := bel_cell hb1 h1
  have zf := (hb1.frozen (World.block_lt_of_cell? _ _ h0)).trans hf
  have hfl : Hid (fill (upL n) 0 0 = List.replicate n 0) := Lib.hid (by rw [fill_zero, upL_len])
  have hBw : B ≤ w.heap.size := by omega
  go_loopw [19] (fun i wr => ∃ k : Nat, k ≤ n ∧ i = .int .i64 k ∧ Own wr w.heap.size 3 1 (fun x => [Value.int .i64 x]) (.slice (some ⟨w.heap.size, 0, none⟩) n n) (fill (upL n) 0 k) ∧ Below w.heap.size w wr) (fun i _ => n - (intOf i).toNat)
  case atStart => exact ⟨0, Nat.zero_le _, rfl, by rw [hfl.out]; exact own1, hb1⟩
  case round =>
    clear z0 z1 zf own1 hb1
    obtain ⟨k, hk, rfl, ow, hb⟩ := hrel
    rcases Nat.lt_or_ge k n with hlt | hge
    · have hlen : (fill (upL n) 0 k).length = n := (fill_len _ _ (by rw [upL_len]; omega)).trans (upL_len _)
      have f0 := ow.at1 hlen (k := k) (fill_at 0 (by rw [upL_len]; exact hlt))
      have f1 := ow.fr1 hlen k
      have ow3 := ow.set1 hlen k (k : Int)
      rw [fill_set 0 (upL_at hlt)] at ow3
      have Hlen := Lib.hid hlen
      clear hlen
      go_wp2_with fail
      exact ⟨⟨k + 1, by omega, by go_num, ow3, hb.setCell (Nat.le_refl _) _⟩, by simp [intOf]; omega⟩
    · obtain rfl : k = n := by omega
      rw [fill_all _ _ (by rw [upL_len]; omega)] at ow
      have z0 := bel_cell hb h0
      have z1 := bel_cell hb h1
      have zf := (hb.frozen (World.block_lt_of_cell? _ _ h0)).trans hf
      by_cases hk0 : k = 0
      · subst hk0
        go_wp2_with (go_at_call 202; refine (shuffle_zero _ _ _ _).mono ?_; rintro e w7 ⟨rfl, rfl⟩)
        go_ret2
        exact ⟨_, rfl, ow, hb.mono hBw⟩
      · have cH := shuffle_any w.heap.size k b s k (upL k) wr w.heap.size B (upL_len k) (by omega) hn ow z0 zf z1 (by omega) hBb hBw
        go_wp2_with (go_at_call 202; refine cH.mono ?_; rintro e w7 ⟨rfl, own7, hb7⟩)
        go_ret2
        exact ⟨_, rfl, own7, (hb.mono hBw).trans hb7⟩

theorem own_nn {w : World} {base : Nat} {v : Value} {l : List Int} (h : Own w base 3 1 encI v l) (hv : v ≠ .slice none 0 0) : ∃ g cap cur, v = .slice (some ⟨g, 0, none⟩) l.length cap ∧ base ≤ g ∧ w.heap[g]? = some (.cells cur 3 (0, 0)) ∧ l.length ≤ cap ∧ cap ≤ maxLen ∧ cur.size = cap * 1 ∧ cur.toList.take l.length = l.map encZ := by
  have hm : l.flatMap encI = l.map encZ := flat1 (Value.int .i64) l
  rcases h.2 with ⟨h0, _⟩ | ⟨g, cap, cur, rfl, hb, hg, h1, h2, h3, h4⟩
  · exact (hv h0).elim
  · exact ⟨g, cap, cur, rfl, hb, hg, h1, h2, h3, by rw [← hm]; simpa using h4⟩
theorem own_base {α : Type} {w : World} {base base' e z : Nat} {enc : α → List Value} {v : Value} {l : List α} (h : Own w base e z enc v l) (hb : base' ≤ base) : Own w base' e z enc v l := by
  refine ⟨h.1, ?_⟩
  rcases h.2 with hn | ⟨g, cap, cur, hv, hbg, rest⟩
  · exact .inl hn
  · exact .inr ⟨g, cap, cur, hv, Nat.le_trans hb hbg, rest⟩
theorem own_map {w : World} {base : Nat} {v : Value} {l : List Int} {n : Nat} (hn : l.length = n) (h : w.ownsRow base 3 1 v n (l.map encZ)) : Own w base 3 1 encI v l := by
  subst hn
  unfold Own
  rw [show l.flatMap encI = l.map encZ from flat1 (Value.int .i64) l]
  exact h
set_option maxRecDepth 100000 in
set_option maxHeartbeats 2000000 in
theorem dSample_any (b s n k B : Nat) (w : World) (hn : n ≤ 65536) (hk : k ≤ n) (h0 : w.cell? ⟨b, 0, none⟩ = some (.int .u64 s)) (hf : w.frozen? ⟨b, 0, none⟩ = false) (h1 : w.cell? ⟨b, 1, none⟩ = some (.bool true)) (hBb : B ≤ b) :
    Calls Tryz.prog 99 #[.pointer (some ⟨b, 0, none⟩), .int .i64 n, .int .i64 k] w fun e w' => ∃ v, e = .returned (.tuple #[v, .int .i64 0]) ∧ Own w' w.heap.size 3 1 encI v (smpL s n k) ∧ Below B w w' := by
  have cS := dsize_any b n w h1 ⟨by omega, by omega⟩
  have cP := Perm_any b s n B w hn h0 hf h1 hBb
  have hbl := World.block_lt_of_cell? w _ h0
  simp only at hbl
  have hkn : (k : Int) ≤ (n : Int) := by omega
  have d1 : decide ((n : Int) < (k : Int)) = false := by simp; omega
  have pl := permL_len s n
  go_enter Tryz.func99, Tryz.ntmps99
  go_wp2_with (first
    | (go_at_call 148; refine (cS).mono ?_; rintro e w' ⟨rfl, rfl⟩)
    | (go_at_call 149; refine cP.mono ?_; rintro e w1 ⟨g, rfl, own1, hb1⟩))
  have cC := Tryz.slices_Clone_int g 0 k n (permL s n) w1 (by omega) (by omega) (fun j hj => by
    rw [Nat.zero_add]
    have := Own.at1 (f := Value.int .i64) own1 pl (k := j) (x := (permL s n).getD j 0) (by simp [List.getD, List.getElem?_eq_getElem hj])
    exact this)
  have hbs1 : w.heap.size ≤ w1.heap.size := by have := (World.ownsRow.lt own1 g rfl); omega
  refine cC.mono ?_
  rintro e w2 ⟨v2, rfl, row2, nn2, hb2⟩
  have own2 := own_map (l := (permL s n).take k) (by rw [List.length_take]; omega) row2
  have tl : ((permL s n).take k).length = k := by rw [List.length_take]; omega
  obtain ⟨g2, cap, cur, rfl, hg2, hh, r1, r2, r3, r4⟩ := own_nn own2 nn2
  have hH : Sort.Holds (Value.int .i64) w2 g2 0 ((permL s n).take k).toArray := holds_of_block_i hh r4
  have cT := Tryz.slices_Sort_int g2 0 cap ((permL s n).take k) w2 hH (Array.getElem?_eq_some_iff.1 hh).1 (by omega)
  have own3 := fun nn os => ownsRow_sorted_i (n := nn) (os := os) (e := 3) (ss := (permL s n).take k) (ts := smpL s n k) (by rw [smpL_len hk, tl]) hg2 hh r1 r2 r3
  rw [merge_sortL] at cT
  change Calls Tryz.prog 150 _ _ (fun e w' => e = .returned (.tuple #[]) ∧ ∃ n_1 os, w' = Sort.grow (Sort.putRow (Value.int .i64) (Sort.ahead w2 n_1) g2 0 (smpL s n k).toArray) os) at cT
  rw [tl] at cT own3 ⊢
  have hbs2 := hb2.size
  clear cC row2 nn2 hH r4 own2 cS cP own1
  go_wp2_with (go_at_call 150; refine cT.mono ?_; rintro e w3 ⟨rfl, nn, os, rfl⟩)
  go_ret2
  exact ⟨_, rfl, own_base (own_map (smpL_len hk) (own3 nn os)) hbs1, (hb1.trans (hb2.mono (by omega))).grown (grownBy_sorted_i _) (by omega) (fun j hj => by cases hj; omega)⟩

end Go.Proofs.YtfolgmcoggejbaaGreat

namespace Go.Proofs.YtfolgmcoggejbaaGreat
open Go.RowKit
set_option linter.unusedVariables false
set_option linter.unusedSimpArgs false

theorem below_drw (w : World) (n : Nat) : Below w.heap.size w (w.drewN n) := ⟨rfl, rfl, rfl, Nat.le_refl _, fun _ _ => rfl⟩
theorem own_ptr' {α : Type} {w : World} {B e z : Nat} {enc : α → List Value} {v : Value} {l : List α} (h : Own w B e z enc v l) (hl : 0 < l.length) : ∃ g c, v = .slice (some ⟨g, 0, none⟩) l.length c ∧ B ≤ g ∧ g < w.heap.size := by
  rcases h.2 with ⟨_, h0⟩ | ⟨g, cap, cur, rfl, hb, hg, _⟩
  · omega
  · exact ⟨g, cap, rfl, hb, (Array.getElem?_eq_some_iff.1 hg).1⟩
end Go.Proofs.YtfolgmcoggejbaaGreat

namespace Go.Proofs.YtfolgmcoggejbaaGreat
open Go.RowKit
set_option linter.unusedVariables false
set_option linter.unusedSimpArgs false

/-- 'out = append(out, xs...)' in a region that draws its order: out is the call's own, xs reads as a list. -/
theorem step_app {P : Program} {W : World} {ops : Array Oper} {o : Oper} {a : Act} {K : Act → World → Prop} {Q : Exit → Act → World → Prop} {E : Prop} (hgd : o.guard = none) (s x : Operand) (t : TypeId)
    (ho : o.op = .call { callee := .builtin .append, args := #[s, x], argTypes := #[t, t] })
    (base : Nat) (e : TypeId) (i : TypeInfo) (z : Value) (size bytes : Nat) (ht : P.underlying t = some (.slice e)) (hi : P.info? e = some i) (hz : i.zero = some z)
    (hsize : i.size = size) (hby : i.bytes = bytes) (hzs : z.cells.size = size) (hsz : 0 < size)
    {α : Type} {enc : α → List Value} (hs' : ∀ x, (enc x).length = size) (h1 : ∀ x, ∀ u ∈ enc x, u.oneCell' = true) (v : Value) (l : List α) (l2 : List α) (A : Option Addr) (n c B : Nat) (hn : l2.length = n) (hs : a.eval s = v) (hown : Own W base e size enc v l)
    (hx : a.eval x = .slice A n c) (hA : Arr size enc W B A l2) (hnil : A = none → c = 0)
    (hbytes : (l.length + l2.length) * bytes ≤ 140737488355328) (hbp : 0 < bytes) (hbase : base ≤ W.heap.size)
    (h : ∀ v' w', Own w' base e size enc v' (l ++ l2) → Below base W w' → W.grownBy w' v.ownBlock → K (a.put o.dst v') w') : if Region.wanted o (yielded ops a.tmps) = true then Oper.wp P o a W K Q else E := by
  subst hn
  have h63 : l.length + l2.length ≤ maxLen := by
    have := Nat.le_mul_of_pos_right (l.length + l2.length) hbp
    unfold maxLen; omega
  rw [if_pos (by simp [Region.wanted, hgd])]
  have hgo : ∀ ad, A = some ad → (∀ j u, (l2.flatMap enc)[j]? = some u → W.cell? (ad.add j) = some u) → Oper.wp P o a W K Q := by
    rintro ad rfl hnews
    refine wp_append_own W s x t ho base e i z size bytes ht hi hz hsize hby hzs hsz v l.length (l.flatMap enc) hs hown ad l2.length c (l2.flatMap enc) hx (flat_len hs' l2) hnews (fun u hu => ?_) h63 hbytes hbase (fun v' w' h2 h3 _ => h v' w' ?_ ?_ h3)
    · obtain ⟨y, _, hy⟩ := List.mem_flatMap.1 hu
      exact h1 y u hy
    · unfold Own; rw [List.length_append, List.flatMap_append]; exact h2
    · exact (Below.refl _ _).grown h3 hbase (fun k hk => (World.ownsRow.lt hown k hk).1)
  cases l2 with
  | nil =>
    cases A with
    | none =>
      obtain rfl : c = 0 := hnil rfl
      have hrun := run_append_owned_none (P := P) (w := W) base t o.type e i size ht hi v l.length (l.flatMap enc) hown
      unfold Oper.wp
      have hx' : a.eval x = .slice none 0 0 := hx
      simp [execOp, ho, resolve, invoke, builtin, hs, hx', hrun, Result.andThen]
      exact h v W (by simpa using hown) (Below.refl _ _) ⟨rfl, rfl, rfl, Nat.le_refl _, fun _ _ _ => rfl⟩
    | some ad => exact hgo ad rfl (by simp)
  | cons y ys =>
    obtain ⟨b, off, rfl, _, hc⟩ := hA (by simp)
    exact hgo _ rfl (flat_cell hs' hsz hc)

theorem arr_dp {α : Type} {enc : α → List Value} {w : World} {B b off : Nat} {l : List α} (h : Arr 1 enc w B (some ⟨b, off, none⟩) l) (n : Nat) : Arr 1 enc w B (some ⟨b, off + n, none⟩) (l.drop n) := fun hl => by
  obtain ⟨b', off', he, hb, hc⟩ := h (by rintro rfl; simp at hl)
  cases he
  refine ⟨b, off + n, rfl, hb, fun i x hx j u hu => ?_⟩
  have := hc (n + i) x (by simpa using hx) j u hu
  rw [show off + n + i * 1 + j = off + (n + i) * 1 + j from by omega]; exact this
theorem arr_tk {α : Type} {sz : Nat} {enc : α → List Value} {w : World} {B : Nat} {A : Option Addr} {l : List α} (h : Arr sz enc w B A l) (n : Nat) : Arr sz enc w B A (l.take n) := fun hl => by
  obtain ⟨b, off, rfl, hb, hc⟩ := h (by rintro rfl; simp at hl)
  exact ⟨b, off, rfl, hb, fun i x hx => hc i x (by
    rw [List.getElem?_take] at hx
    split at hx
    · exact hx
    · cases hx)⟩
theorem cell_lit {w : World} {g : Nat} {x : Int} (h : w.cell? ⟨g, 0, none⟩ = some (.int .i64 x)) : ∀ j u, (encI x)[j]? = some u → w.cell? ⟨g, j, none⟩ = some u := fun j u hu => by
  cases j with
  | zero => obtain rfl : Value.int .i64 x = u := by simpa [encI] using hu
            exact h
  | succ j => simp [encI] at hu
theorem nxt_cons (y : Int) (L : List Int) (x : Int) : nxtN (y :: L) x = if y < x then nxtN L x + 1 else 0 := by
  unfold nxtN
  rw [List.takeWhile_cons]
  by_cases h : y < x
  · simp [h]
  · simp [h]
theorem at_le {x : Int} : ∀ {L : List Int} {a : Nat}, a < nxtN L x → ∃ y, L[a]? = some y ∧ y < x
  | [], a, h => by simp [nxtN] at h
  | y :: L, a, h => by
    rw [nxt_cons] at h
    split at h
    · rename_i hy
      cases a with
      | zero => exact ⟨y, rfl, hy⟩
      | succ a => simpa using at_le (L := L) (a := a) (by omega)
    · omega
theorem at_eq {x : Int} : ∀ {L : List Int} {y : Int}, L[nxtN L x]? = some y → ¬ y < x
  | [], y, h => by simp at h
  | z :: L, y, h => by
    rw [nxt_cons] at h
    split at h
    · exact at_eq (L := L) (by simpa using h)
    · rename_i hz
      have : z = y := by simpa using h
      omega
theorem ins_cons (x y : Int) (L : List Int) : insL x (y :: L) = if y < x then y :: insL x L else x :: y :: L := by
  unfold insL
  rw [List.takeWhile_cons, List.dropWhile_cons]
  by_cases h : y < x
  · simp [h]
  · simp [h]
theorem ins_split (x : Int) : ∀ (L : List Int), insL x L = L.take (nxtN L x) ++ [x] ++ L.drop (nxtN L x)
  | [] => rfl
  | y :: L => by
    rw [ins_cons, nxt_cons]
    split
    · rw [ins_split x L]; simp
    · simp
theorem ins_len (x : Int) (L : List Int) : (insL x L).length = L.length + 1 := by
  rw [(insL_perm x L).length_eq]; simp
theorem sort_len (L : List Int) : (sortL L).length = L.length := (sortL_perm L).length_eq
theorem sort_take {l : List Int} {i : Nat} {x : Int} (h : l[i]? = some x) : sortL (l.take (i + 1)) = insL x (sortL (l.take i)) := by
  have hk := (List.getElem?_eq_some_iff.1 h).1
  have he := (List.getElem?_eq_some_iff.1 h).2
  rw [List.take_succ_eq_append_getElem hk, he, sortL_snoc]

end Go.Proofs.YtfolgmcoggejbaaGreat

namespace Go.Proofs.YtfolgmcoggejbaaGreat
open Go.RowKit
set_option linter.unusedVariables false
set_option linter.unusedSimpArgs false

def smE (n k : Int) : Int := if betwB n 0 512 = true ∧ betwB k 0 n = true then 0 else 3
theorem smE_ok {n k : Int} (h : smE n k = 0) : 0 ≤ n ∧ n ≤ 512 ∧ 0 ≤ k ∧ k ≤ n := by
  unfold smE at h
  split at h
  · rename_i h2; simp [betwB] at h2; omega
  · cases h
def smL (s : Nat) (n k : Int) : List Int := if smE n k = 0 then smpL s n.toNat k.toNat else []
def rsL (s : Nat) (n k : Int) : List Int := if smE n k = 0 then rstL (smpL s n.toNat k.toNat) n.toNat else []
theorem sm_bad {s : Nat} {n k : Int} (h : smE n k ≠ 0) : smE n k = 3 ∧ smL s n k = [] ∧ rsL s n k = [] := by
  refine ⟨?_, by unfold smL; rw [if_neg h], by unfold rsL; rw [if_neg h]⟩
  unfold smE at *
  split
  · rename_i h2; rw [if_pos h2] at h; exact (h rfl).elim
  · rfl
theorem rst_len (L : List Int) (n : Nat) : (rstL L n).length ≤ n := by
  unfold rstL; exact Nat.le_trans (List.length_filter_le _ _) (by rw [upL_len]; exact Nat.le_refl _)
theorem rst_zero (L : List Int) : rstL L 0 = [] := rfl
theorem below_of_grownS {w w' : World} (h : w.grownBy w' none) : Below w.heap.size w w' := ⟨h.os, h.tape, h.output, h.size, fun k hk => h.block k hk (by simp)⟩
theorem of_decide_eq {p : Prop} [Decidable p] {b : Bool} (h : decide p = b) : if b then p else ¬ p := by
  cases b
  · simpa using h
  · simpa using h
/-- What Sample hands back. -/
def SmR (w w' : World) (s : Nat) (n k : Int) (e : Ending) : Prop := ∃ v1 v2, e = .returned (.tuple #[v1, v2, .int .i64 (smE n k)]) ∧ Own w' w.heap.size 3 1 encI v1 (smL s n k) ∧ Own w' w.heap.size 3 1 encI v2 (rsL s n k) ∧ Below w.heap.size w w'
theorem smR_bad {w w' : World} {s : Nat} {n k : Int} (h : smE n k ≠ 0) (hb : Below w.heap.size w w') : SmR w w' s n k (.returned (.tuple #[.slice none 0 0, .slice none 0 0, .int .i64 3])) := by
  obtain ⟨h1, h2, h3⟩ := sm_bad (s := s) h
  exact ⟨_, _, by rw [h1], by rw [h2]; exact Own.nil, by rw [h3]; exact Own.nil, hb⟩
theorem smR_good {w w' : World} {s n k : Nat} (h : smE n k = 0) {v1 v2 : Value} (h1 : Own w' w.heap.size 3 1 encI v1 (smpL s n k)) (h2 : Own w' w.heap.size 3 1 encI v2 (rstL (smpL s n k) n)) (hb : Below w.heap.size w w') : SmR w w' s n k (.returned (.tuple #[v1, v2, .int .i64 0])) :=
  ⟨v1, v2, by rw [h], by unfold smL; rw [if_pos h]; exact h1, by unfold rsL; rw [if_pos h]; exact h2, hb⟩

set_option maxRecDepth 100000 in
set_option maxHeartbeats 4000000 in
theorem SampleS_any (s : Nat) (n k : Int) (w : World) : Calls Tryz.prog 40 #[.int .i64 n, .int .i64 k, .int .u64 s] w fun e w' => SmR w w' s n k e := by
  by_cases h : smE n k = 0
  · obtain ⟨n0, n1, k0, k1⟩ := smE_ok h
    obtain ⟨n, rfl⟩ := Int.eq_ofNat_of_zero_le n0
    obtain ⟨k, rfl⟩ := Int.eq_ofNat_of_zero_le k0
    have hB1 : betwB (n : Int) 0 512 = true := by simp [betwB]; omega
    have hB2 : betwB (k : Int) 0 (n : Int) = true := by simp [betwB]; omega
    have cB1 := fun w' => between_any (n : Int) 0 512 w'
    have cB2 := fun w' => between_any (k : Int) 0 (n : Int) w'
    simp only [hB1] at cB1
    simp only [hB2] at cB2
    have hkn : k ≤ n := by omega
    have H := Lib.hid h
    have cD := fun w1 (hz : w1.cell? ⟨w.heap.size, 0, none⟩ = some (.int .u64 s)) (hf : w1.frozen? ⟨w.heap.size, 0, none⟩ = false) (h1 : w1.cell? ⟨w.heap.size, 1, none⟩ = some (.bool true)) => dSample_any w.heap.size s n k w.heap.size w1 (by omega) hkn hz hf h1 (Nat.le_refl _)
    have cD1 := cD _ (new_cell (w := w) (cs := #[.int .u64 s, .bool true]) (T := 254) (j := 0) rfl) (by simp) (new_cell (w := w) (cs := #[.int .u64 s, .bool true]) (T := 254) (j := 1) rfl)
    have ps := smpL_strict s n k
    have pl := smpL_len (s := s) hkn
    have pm := fun x (h : x ∈ smpL s n k) => smpL_mem h
    obtain ⟨L, hL⟩ : ∃ L, smpL s n k = L := ⟨_, rfl⟩
    rw [hL] at cD1 ps pl pm
    have HL := Lib.hid hL
    obtain ⟨i0, hi, hz0, hz1, hz2⟩ := info_parts int_info5
    have Hi := Lib.hid hi; have Hz0 := Lib.hid hz0; have Hz1 := Lib.hid hz1; have Hz2 := Lib.hid hz2
    have z0 := nxt_zero (L := L) (fun x hx => (pm x hx).1)
    have Z0 := Lib.hid z0; have Pl := Lib.hid pl; have Ps := Lib.hid ps
    clear hi hz0 hz1 hz2 cD h hB1 hB2 hL z0 pl pm ps
    go_enter Tryz.func40, Tryz.ntmps40
    go_wp2_with (first
      | (go_at_call 97; refine Calls.on (args' := #[.int .i64 (n : Int), .int .i64 0, .int .i64 512]) rfl ?_; refine (cB1 _).mono ?_; rintro e w' ⟨rfl, rfl⟩)
      | (go_at_call 97; refine Calls.on (args' := #[.int .i64 (k : Int), .int .i64 0, .int .i64 (n : Int)]) rfl ?_; refine (cB2 _).mono ?_; rintro e w' ⟨rfl, rfl⟩)
      | (go_at_call 98; refine (New_any s _).mono ?_; rintro e w' ⟨rfl, rfl⟩)
      | (go_at_call 99; refine cD1.mono ?_; rintro e w2 ⟨v2, rfl, own2, hb2⟩)
      | (at_make; refine wpList_make_own _ rfl _ _ 76 rfl w2.heap.size 3 i0 _ 1 Tryz.underlying76 Hi.out Hz0.out Hz1.out _ _ _ (n - k) rfl rfl (by omega) (by rw [Hz2.out]; omega) (by unfold maxLen; omega) (Nat.le_refl _) ?_; intro w3 own3 gr3))
    have hb3 := below_of_grownS gr3
    have own3' : Own w3 w2.heap.size 3 1 encI (.slice (some ⟨w2.heap.size, 0, none⟩) 0 (n - k)) ([] : List Int) := own3
    have b2 : Below w.heap.size w w2 := (below_alloc (Below.refl _ _) _).trans hb2
    have s2 := b2.size
    have nx0 : nxtN L ((0 : Nat) : Int) = 0 := Z0.out
    have Nx0 := Lib.hid nx0
    clear nx0 cD1 gr3 own3
    go_loopw [11, 12, 36] (fun rv nv iv wr => ∃ j : Nat, j ≤ n ∧ iv = .int .i64 j ∧ nv = .int .i64 (nxtN L (j : Int) : Nat) ∧ Own wr w2.heap.size 3 1 encI rv (rstL L j) ∧ Below w2.heap.size w2 wr) (fun _ _ i _ => n - (intOf i).toNat)
    case atStart => exact ⟨0, Nat.zero_le _, rfl, by rw [Nx0.out]; rfl, own3', hb3⟩
    case round =>
      obtain ⟨j, hj, rfl, rfl, ow, hb⟩ := hrel
      obtain ⟨w6, rfl⟩ : ∃ w6, w6 = wr := ⟨_, rfl⟩
      clear own3' hb3
      have own6 := own2.below hb
      have sz := hb.size
      rcases Nat.lt_or_ge j n with hlt | hge
      · have d3 : decide ((j : Int) < (n : Int)) = true := by simp; omega
        have hqk := nxt_le L (j : Int)
        rw [Pl.out] at hqk
        rcases nxt_step L (j : Int) Ps.out with ⟨h1, h2, h3⟩ | ⟨h1, h2, h3⟩
        · have r1 := Lib.hid (rstL_snoc_yes h1)
          rw [show (j : Int) + 1 = ((j + 1 : Nat) : Int) from by omega] at h3
          obtain ⟨q, hq⟩ : ∃ q, nxtN L (j : Int) = q := ⟨_, rfl⟩
          rw [hq] at h2 h3 hqk ⊢
          have hql : q < k := by have := (List.getElem?_eq_some_iff.1 h2).1; rw [Pl.out] at this; exact this
          obtain ⟨g, c, rfl, _, _⟩ := own_ptr' own6 (by rw [Pl.out]; omega)
          have cq : w6.cell? ⟨g, q, none⟩ = some (.int .i64 (j : Int)) := Own.at1 (f := Value.int .i64) own6 rfl h2
          rw [Pl.out]
          have d4 : decide ((q : Int) < (k : Int)) = true := by simp; omega
          have d4' : decide (q < k) = true := by simp; omega
          have H3 := Lib.hid h3
          have HQ := Lib.hid hq
          clear h1 h2 h3 hq own6
          go_wp2_with fail
          exact ⟨⟨j + 1, by omega, by go_num, by rw [H3.out]; rfl, by rw [r1.out]; exact ow, hb⟩, by simp [intOf]; omega⟩
        · have r1 := Lib.hid (rstL_snoc_no h1)
          rw [show (j : Int) + 1 = ((j + 1 : Nat) : Int) from by omega] at h3
          obtain ⟨q, hq⟩ : ∃ q, nxtN L (j : Int) = q := ⟨_, rfl⟩
          rw [hq] at h2 h3 hqk ⊢
          have oby : ((rstL L j).length + 1) * 8 ≤ 140737488355328 := by have := rst_len L j; omega
          have H3 := Lib.hid h3
          have HQ := Lib.hid hq
          have ways : decide ((q : Int) < (k : Int)) = false ∨ (decide ((q : Int) < (k : Int)) = true ∧ ∃ (g c : Nat) (y : Int), v2 = .slice (some ⟨g, 0, none⟩) k c ∧ w6.cell? ⟨g, q, none⟩ = some (.int .i64 y) ∧ (y == (j : Int)) = false) := by
            by_cases hql : q < k
            · right
              obtain ⟨g, c, hv, _, _⟩ := own_ptr' own6 (by rw [Pl.out]; omega)
              rw [Pl.out] at hv
              obtain ⟨y, hy⟩ : ∃ y, L[q]? = some y := ⟨_, List.getElem?_eq_getElem (by rw [Pl.out]; exact hql)⟩
              subst hv
              refine ⟨by simp; omega, g, c, y, rfl, Own.at1 (f := Value.int .i64) own6 Pl.out hy, ?_⟩
              have : y ≠ (j : Int) := fun e => h2 (by rw [hy, e])
              simpa using this
            · left; simp; omega
          clear h1 h2 h3 hq own6
          have d4' : decide (q < k) = decide ((q : Int) < (k : Int)) := by simp
          rcases ways with d4 | ⟨d4, g, c, y, rfl, cq, e4⟩
          all_goals (
            rw [d4] at d4'
            have hql := of_decide_eq d4'
            simp only [if_true, if_false, Bool.false_eq_true] at hql
            go_wp2_with (at_builtin; refine wpList_snoc (g := w6.heap.size) rfl _ _ 76 rfl w2.heap.size 3 i0 _ 1 8 Tryz.underlying76 Hi.out Hz0.out Hz1.out Hz2.out rfl (by decide) _ (rstL L j) (j : Int) #[.int .i64 j] 3 rfl ow rfl rfl rfl (encI_one _) oby (by decide) sz rfl ?_; intro v5 w5 own5 hb5)
            exact ⟨⟨j + 1, by omega, by go_num, by rw [H3.out], by rw [r1.out]; exact own5, hb.trans hb5⟩, by simp [intOf]; omega⟩)
      · obtain rfl : j = n := by omega
        have d3 : decide ((j : Int) < (j : Int)) = false := by simp
        generalize nxtN L (j : Int) = q at *
        go_wp2_with fail
        go_ret3
        exact smR_good H.out (by rw [HL.out]; exact own_base own6 (by have := (below_alloc (Below.refl w.heap.size w) (.cells #[.int .u64 s, .bool true] 254)).size; exact this)) (by rw [HL.out]; exact own_base ow s2) (b2.trans (hb.mono s2))
  · have ways : betwB n 0 512 = false ∨ (betwB n 0 512 = true ∧ betwB k 0 n = false) := by
      unfold smE at h
      cases h1 : betwB n 0 512 with
      | false => exact .inl rfl
      | true =>
        cases h2 : betwB k 0 n with
        | false => exact .inr ⟨rfl, rfl⟩
        | true => exact (h (by rw [if_pos ⟨h1, h2⟩])).elim
    have cB1 := fun w' => between_any n 0 512 w'
    have cB2 := fun w' => between_any k 0 n w'
    have H := Lib.hid h
    clear h
    rcases ways with h1 | ⟨h1, h2⟩
    · simp only [h1] at cB1
      clear h1 cB2
      go_enter Tryz.func40, Tryz.ntmps40
      go_wp2_with (go_at_call 97; refine (cB1 _).mono ?_; rintro e w' ⟨rfl, rfl⟩)
      go_ret3
      exact smR_bad H.out (Below.refl _ _)
    · simp only [h1] at cB1
      simp only [h2] at cB2
      clear h1 h2
      go_enter Tryz.func40, Tryz.ntmps40
      go_wp2_with (first
        | (go_at_call 97; refine Calls.on (args' := #[.int .i64 n, .int .i64 0, .int .i64 512]) rfl ?_; refine (cB1 _).mono ?_; rintro e w' ⟨rfl, rfl⟩)
        | (go_at_call 97; refine Calls.on (args' := #[.int .i64 k, .int .i64 0, .int .i64 n]) rfl ?_; refine (cB2 _).mono ?_; rintro e w' ⟨rfl, rfl⟩))
      go_ret3
      exact smR_bad H.out (Below.refl _ _)

theorem mem_take_snoc {L : List Int} {m : Nat} {y x : Int} (h : L[m]? = some y) : decide (x ∈ L.take (m + 1)) = (decide (x ∈ L.take m) || (y == x)) := by
  have hk := (List.getElem?_eq_some_iff.1 h).1
  have he := (List.getElem?_eq_some_iff.1 h).2
  rw [List.take_succ_eq_append_getElem hk, he]
  by_cases h1 : x ∈ L.take m
  · simp [h1]
  · by_cases h2 : y = x
    · simp [h2]
    · simp [h1, h2, Ne.symm h2]
end Go.Proofs.YtfolgmcoggejbaaGreat
