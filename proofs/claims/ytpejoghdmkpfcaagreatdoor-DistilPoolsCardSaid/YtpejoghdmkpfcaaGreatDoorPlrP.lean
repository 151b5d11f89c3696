/- Plain words for the statement DistilPools: the used numbers in order, the reference's Next, which numbers are used. No condition. -/
import Derived.Test.YtpejoghdmkpfcaaGreatDoorPolE
namespace Go.Proofs.YtpejoghdmkpfcaaGreatDoor
open Go.RowKit Go.Maps Go.Sort
set_option linter.unusedVariables false
set_option linter.unusedSimpArgs false

def usedR (R : Nat) (d : List Nat) : List Int := ((List.range R).filter fun i => decide (i ∈ d)).map fun i : Nat => (i : Int)
theorem usedS_eq {R : Nat} {u : List Nat} (un : u.Nodup) (ub : ∀ x ∈ u, x < R) : usedS u = usedR R u := by
  have hp : u.Perm ((List.range R).filter fun i => decide (i ∈ u)) := (List.perm_ext_iff_of_nodup un (List.nodup_range.filter _)).2 fun a => by
    simp only [List.mem_filter, List.mem_range, decide_eq_true_eq]
    exact ⟨fun h => ⟨ub a h, h⟩, fun h => h.2⟩
  have h1 : usedS u = (usedR R u).mergeSort (fun x y => decide (x ≤ y)) := mergeSort_of_perm_i (hp.map fun i : Nat => (i : Int))
  rw [h1]
  refine List.mergeSort_of_pairwise ?_
  unfold usedR
  rw [List.pairwise_map]
  exact (List.pairwise_lt_range.filter _).imp (fun {a b} h => by simp; omega)
theorem usedR_rev (R : Nat) (d : List Nat) : usedR R d.reverse = usedR R d := by simp [usedR]
theorem usedR_succ (R : Nat) (d : List Nat) : usedR (R + 1) d = usedR R d ++ (if R ∈ d then [(R : Int)] else []) := by
  unfold usedR
  rw [List.range_succ, List.filter_append, List.map_append]
  congr 1
  by_cases h : R ∈ d <;> simp [h]
theorem usedR_len (R : Nat) (d : List Nat) : (usedR R d).length ≤ R := by
  unfold usedR
  rw [List.length_map]
  exact Nat.le_trans (List.length_filter_le _ _) (by simp)
theorem nxt_step {d : List Nat} {j x : Nat} (h : d[j]? = some x) (s : Nat) : nxtK (d.take (j + 1)).reverse s = if x % 2 = s then max (nxtK (d.take j).reverse s) (x + 2) else nxtK (d.take j).reverse s := by
  rw [List.take_add_one, h]; simp [nxtK]
/-- Whether a number is among the used ones. -/
def hitL (d : List Nat) (n : Int) : Bool := d.any fun x => (x : Int) == n
theorem hitL_nat (d : List Nat) (n : Nat) : hitL d (n : Int) = decide (n ∈ d) := by
  unfold hitL
  rw [Bool.eq_iff_iff]
  simp only [List.any_eq_true, beq_iff_eq, decide_eq_true_eq]
  exact ⟨fun ⟨x, hx, e⟩ => by have : x = n := by omega
                              exact this ▸ hx, fun h => ⟨n, h, rfl⟩⟩
theorem hit_no {d : List Nat} {j x : Nat} {n : Int} (h : d[j]? = some x) (hp : hitL (d.take j) n = false) (hx : ((x : Int) == n) = false) : hitL (d.take (j + 1)) n = false := by
  rw [List.take_add_one, h]
  unfold hitL at *
  rw [List.any_append, hp]
  simp only [Option.toList, List.any_cons, List.any_nil, Bool.or_false, Bool.false_or]
  exact hx
theorem hit_yes {d : List Nat} {j x : Nat} {n : Int} (h : d[j]? = some x) (hx : ((x : Int) == n) = true) : hitL d n = true := by
  unfold hitL
  rw [List.any_eq_true]
  exact ⟨x, List.mem_of_getElem? h, hx⟩

end Go.Proofs.YtpejoghdmkpfcaaGreatDoor
