/- Plain: what the eavesdropper knows: the first error of the notes, the places that are known, and how many of some slots are among them. No condition. -/
import Derived.Test.YtfodlpiidlajeaaData
namespace Go.Proofs.Ytfodlpiidlajeaa
set_option linter.unusedVariables false
set_option linter.unusedSimpArgs false

def firstE {α : Type} (f : α → Int) : List α → Int
  | [] => 0
  | x :: l => if f x = 0 then firstE f l else f x
section
variable {α : Type} {f : α → Int}
theorem firstE_err : ∀ {l : List α} {k : Nat} {x : α}, (l.take k).all (fun y => decide (f y = 0)) = true → l[k]? = some x → f x ≠ 0 → firstE f l = f x
  | [], k, x, _, h, _ => by simp at h
  | y :: l, 0, x, _, h, hx => by
    obtain rfl : y = x := by simpa using h
    simp [firstE, hx]
  | y :: l, k + 1, x, ha, h, hx => by
    rw [List.take_succ_cons, List.all_cons, Bool.and_eq_true, decide_eq_true_eq] at ha
    rw [firstE, if_pos ha.1]
    exact firstE_err ha.2 (by simpa using h) hx
theorem firstE_yes : ∀ {l : List α} {k : Nat}, (l.take k).all (fun y => decide (f y = 0)) = true → l.length ≤ k → firstE f l = 0
  | [], _, _, _ => rfl
  | y :: l, 0, _, h => by simp at h
  | y :: l, k + 1, ha, h => by
    rw [List.take_succ_cons, List.all_cons, Bool.and_eq_true, decide_eq_true_eq] at ha
    rw [firstE, if_pos ha.1]
    exact firstE_yes ha.2 (by simpa using h)
end

def Nte.ok (x : Nte) : Bool := betwB x.how 1 3 && betwB x.basis 0 1
def nteF (n : Nat) (x : Nte) : Int := if x.ok = false then 2 else if betwB x.slot 0 (n - 1) = false then 3 else 0
def basAt (p : List Pls) (s : Int) : Int := (p[s.toNat]?.map Pls.basis).getD 0
def hitB (p : List Pls) (x : Nte) : Bool := decide (x.how = 2 ∨ x.basis = basAt p x.slot)
def kn1 (p : List Pls) (b : List Bool) (x : Nte) : List Bool := if hitB p x = true then b.set x.slot.toNat true else b
def knTo (p : List Pls) (l : List Nte) (k : Nat) : List Bool := (l.take k).foldl (kn1 p) (List.replicate p.length false)
def idxTo (b : List Bool) : Nat → List Int
  | 0 => []
  | k + 1 => if b[k]? = some true then idxTo b k ++ [(k : Int)] else idxTo b k
def ndE (p : List Pls) (l : List Nte) : Int := firstE (nteF p.length) l
def ndL (p : List Pls) (l : List Nte) : List Int := if ndE p l = 0 then idxTo (knTo p l l.length) p.length else []
def cntTo (L l : List Int) (k : Nat) : Nat := ((l.take k).map fun x => L.count x).sum

theorem basAt_of {p : List Pls} {j : Nat} {pb : Int} {pbit : Bool} {pc pph : Int} {ps : Bool} (h : p[j]? = some ⟨pb, pbit, pc, pph, ps⟩) : basAt p (j : Int) = pb := by simp [basAt, h]
theorem knTo_zero (p : List Pls) (l : List Nte) : knTo p l 0 = List.replicate p.length false := rfl
theorem knTo_len (p : List Pls) (l : List Nte) (k : Nat) : (knTo p l k).length = p.length := by
  unfold knTo
  have : ∀ (l : List Nte) (b : List Bool), (l.foldl (kn1 p) b).length = b.length := by
    intro l
    induction l with
    | nil => intro b; rfl
    | cons x l ih => intro b; rw [List.foldl_cons, ih]; unfold kn1; split <;> simp
  rw [this]; simp
theorem knTo_hit {p : List Pls} {l : List Nte} {k : Nat} {x : Nte} (hx : l[k]? = some x) (h : hitB p x = true) : knTo p l (k + 1) = (knTo p l k).set x.slot.toNat true := by
  unfold knTo; rw [take_snoc hx, List.foldl_append, List.foldl_cons, List.foldl_nil]; unfold kn1; rw [if_pos h]
theorem knTo_miss {p : List Pls} {l : List Nte} {k : Nat} {x : Nte} (hx : l[k]? = some x) (h : hitB p x = false) : knTo p l (k + 1) = knTo p l k := by
  unfold knTo; rw [take_snoc hx, List.foldl_append, List.foldl_cons, List.foldl_nil]; unfold kn1; rw [if_neg (by simp [h])]
theorem idxTo_hit {b : List Bool} {k : Nat} (h : b[k]? = some true) : idxTo b (k + 1) = idxTo b k ++ [(k : Int)] := by rw [idxTo, if_pos h]
theorem idxTo_miss {b : List Bool} {k : Nat} (h : b[k]? = some false) : idxTo b (k + 1) = idxTo b k := by rw [idxTo, if_neg (by simp [h])]
theorem idxTo_le (b : List Bool) (k : Nat) : (idxTo b k).length ≤ k := by
  induction k with
  | zero => simp [idxTo]
  | succ k ih =>
    rw [idxTo]; split
    · rw [List.length_append]; simp; omega
    · omega
theorem idxTo_lt (b : List Bool) (k : Nat) : ∀ x ∈ idxTo b k, 0 ≤ x ∧ x < (k : Int) := by
  induction k with
  | zero => simp [idxTo]
  | succ k ih =>
    intro x hx
    rw [idxTo] at hx
    split at hx
    · rcases List.mem_append.1 hx with h | h
      · have := ih x h; omega
      · simp at h; omega
    · have := ih x hx; omega
theorem idxTo_sorted (b : List Bool) (k : Nat) : (idxTo b k).Pairwise (· < ·) := by
  induction k with
  | zero => simp [idxTo]
  | succ k ih =>
    rw [idxTo]
    split
    · rw [List.pairwise_append]
      refine ⟨ih, by simp, fun x hx y hy => ?_⟩
      have := idxTo_lt b k x hx
      simp at hy; omega
    · exact ih
theorem ndL_sorted (p : List Pls) (l : List Nte) : (ndL p l).Pairwise (· < ·) := by
  unfold ndL; split
  · exact idxTo_sorted _ _
  · simp
theorem ndL_le (p : List Pls) (l : List Nte) : (ndL p l).length ≤ p.length := by
  unfold ndL; split
  · exact idxTo_le _ _
  · simp
theorem nd_err {p : List Pls} {l : List Nte} {k : Nat} {x : Nte} {e : Int} (ha : (l.take k).all (fun y => decide (nteF p.length y = 0)) = true) (hx : l[k]? = some x) (he : nteF p.length x = e) (h0 : e ≠ 0) : ndE p l = e ∧ ndL p l = [] := by
  have h1 : ndE p l = e := by unfold ndE; rw [firstE_err ha hx (by rw [he]; exact h0), he]
  exact ⟨h1, by unfold ndL; rw [if_neg (by rw [h1]; exact h0)]⟩
theorem nd_yes {p : List Pls} {l : List Nte} {k : Nat} (ha : (l.take k).all (fun y => decide (nteF p.length y = 0)) = true) (hk : l.length ≤ k) : ndE p l = 0 ∧ ndL p l = idxTo (knTo p l l.length) p.length := by
  have h1 : ndE p l = 0 := by unfold ndE; exact firstE_yes ha hk
  exact ⟨h1, by unfold ndL; rw [if_pos h1]⟩
theorem nteF_arg {n : Nat} {x : Nte} (h : x.ok = false) : nteF n x = 2 := by simp [nteF, h]
theorem nteF_range {n : Nat} {x : Nte} (h : x.ok = true) (h2 : betwB x.slot 0 (n - 1) = false) : nteF n x = 3 := by simp [nteF, h, h2]
theorem nteF_ok {n : Nat} {x : Nte} (h : x.ok = true) (h2 : betwB x.slot 0 (n - 1) = true) : nteF n x = 0 := by simp [nteF, h, h2]

/-! How many of some slots are known. -/
theorem cntTo_zero (L l : List Int) : cntTo L l 0 = 0 := by simp [cntTo]
theorem cntTo_succ {L l : List Int} {k : Nat} {x : Int} (h : l[k]? = some x) : cntTo L l (k + 1) = cntTo L l k + L.count x := by simp [cntTo, take_snoc h]
theorem cntTo_le (L l : List Int) (k : Nat) : cntTo L l k ≤ k * L.length := by
  unfold cntTo
  have : ∀ m : List Int, (m.map fun x => L.count x).sum ≤ m.length * L.length := by
    intro m
    induction m with
    | nil => simp
    | cons x m ih =>
      have := List.count_le_length (l := L) (a := x)
      rw [List.map_cons, List.sum_cons, List.length_cons, Nat.add_mul]; omega
  refine Nat.le_trans (this _) (Nat.mul_le_mul_right _ ?_)
  simp; omega
theorem count_take {L : List Int} {k : Nat} {y x : Int} (h : L[k]? = some y) : (L.take (k + 1)).count x = (L.take k).count x + if y = x then 1 else 0 := by
  rw [take_snoc h, List.count_append, List.count_singleton]; simp
/-- In a list that increases, a place k before which all are less, and which is not less itself, tells whether x is in it. -/
theorem count_at {L : List Int} (hs : L.Pairwise (· < ·)) {k : Nat} {x : Int} (hlt : ∀ y ∈ L.take k, y < x) (hge : ∀ y, L[k]? = some y → x ≤ y) : L.count x = if L[k]? = some x then 1 else 0 := by
  have h1 : (L.take k).count x = 0 := by
    rw [List.count_eq_zero]; intro h; have := hlt x h; omega
  have h2 : L.count x = (L.drop k).count x := by
    conv => lhs; rw [← List.take_append_drop k L]
    rw [List.count_append, h1]; omega
  rw [h2]
  by_cases hk : k < L.length
  · rw [List.drop_eq_getElem_cons hk, List.count_cons, List.getElem?_eq_getElem hk]
    have h3 : (L.drop (k + 1)).count x = 0 := by
      rw [List.count_eq_zero]; intro h
      have hd : (L.drop k).Pairwise (· < ·) := hs.sublist (List.drop_sublist k L)
      rw [List.drop_eq_getElem_cons hk, List.pairwise_cons] at hd
      have := hd.1 x h
      have := hge _ (List.getElem?_eq_getElem hk)
      omega
    rw [h3]; simp
  · rw [List.drop_eq_nil_of_le (by omega), List.getElem?_eq_none (by omega)]; simp
theorem take_lt_mono {L : List Int} {k : Nat} {x y : Int} (h : ∀ z ∈ L.take k, z < x) (hxy : x < y) : ∀ z ∈ L.take k, z < y := fun z hz => by have := h z hz; omega
theorem take_lt_snoc {L : List Int} {k : Nat} {x y : Int} (h : ∀ z ∈ L.take k, z < x) (hy : L[k]? = some y) (hxy : y < x) : ∀ z ∈ L.take (k + 1), z < x := by
  rw [take_snoc hy]
  intro z hz
  rcases List.mem_append.1 hz with h' | h'
  · exact h z h'
  · simp at h'; omega

end Go.Proofs.Ytfodlpiidlajeaa
