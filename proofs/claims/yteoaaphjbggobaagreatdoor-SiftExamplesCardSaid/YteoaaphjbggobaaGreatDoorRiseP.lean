/- Plain: the check of a list whose places have to be in a range and to increase. No condition. -/
import Derived.Test.YteoaaphjbggobaaGreatDoorData
namespace Go.Proofs.YteoaaphjbggobaaGreatDoor
set_option linter.unusedVariables false
set_option linter.unusedSimpArgs false

section
variable {α : Type} (slot fault : α → Int) (a b : Int) (l : List α)
/-- The error at place k. -/
def riseAt (k : Nat) : Int := match l[k]? with
  | none => 0
  | some x => if betwB (slot x) a b = false then 3 else if fault x ≠ 0 then fault x else if k = 0 then 0 else match l[k - 1]? with
    | none => 0
    | some y => if slot x ≤ slot y then 6 else 0
def riseTo : Nat → Int
  | 0 => 0
  | k + 1 => if riseTo k ≠ 0 then riseTo k else riseAt slot fault a b l k
def riseE : Int := riseTo slot fault a b l l.length
end
section
variable {α : Type} {slot fault : α → Int} {a b : Int} {l : List α} {k : Nat} {x y : α}
theorem rise_more (h : riseTo slot fault a b l k ≠ 0) : ∀ j, k ≤ j → riseTo slot fault a b l j = riseTo slot fault a b l k := by
  intro j hj
  induction j with
  | zero => have : k = 0 := by omega
            subst this; rfl
  | succ j ih =>
    by_cases e : k = j + 1
    · rw [e]
    · rw [riseTo, ih (by omega), if_pos h]
theorem rise_err {e : Int} (h0 : riseTo slot fault a b l k = 0) (hk : k < l.length) (he : riseAt slot fault a b l k = e) (hne : e ≠ 0) : riseE slot fault a b l = e := by
  have h1 : riseTo slot fault a b l (k + 1) = e := by rw [riseTo, if_neg (by simp [h0]), he]
  unfold riseE
  rw [rise_more (k := k + 1) (by rw [h1]; exact hne) _ (by omega), h1]
theorem rise_on (h0 : riseTo slot fault a b l k = 0) (he : riseAt slot fault a b l k = 0) : riseTo slot fault a b l (k + 1) = 0 := by
  rw [riseTo, if_neg (by simp [h0]), he]
theorem at_range (hx : l[k]? = some x) (h : betwB (slot x) a b = false) : riseAt slot fault a b l k = 3 := by simp [riseAt, hx, h]
theorem at_fault (hx : l[k]? = some x) (h : betwB (slot x) a b = true) (hf : fault x ≠ 0) : riseAt slot fault a b l k = fault x := by simp [riseAt, hx, h, hf]
theorem at_first (hx : l[0]? = some x) (h : betwB (slot x) a b = true) (hf : fault x = 0) : riseAt slot fault a b l 0 = 0 := by simp [riseAt, hx, h, hf]
theorem at_form (hx : l[k + 1]? = some x) (hy : l[k]? = some y) (h : betwB (slot x) a b = true) (hf : fault x = 0) (hs : slot x ≤ slot y) : riseAt slot fault a b l (k + 1) = 6 := by simp [riseAt, hx, hy, h, hf, hs]
theorem at_ok (hx : l[k + 1]? = some x) (hy : l[k]? = some y) (h : betwB (slot x) a b = true) (hf : fault x = 0) (hs : ¬ slot x ≤ slot y) : riseAt slot fault a b l (k + 1) = 0 := by simp [riseAt, hx, hy, h, hf, hs]
theorem rise_yes (h0 : riseTo slot fault a b l k = 0) (hk : l.length ≤ k) : riseE slot fault a b l = 0 := by
  unfold riseE
  by_cases h : riseTo slot fault a b l l.length = 0
  · exact h
  · rw [rise_more h k hk] at h0; exact (h h0).elim

theorem riseTo_zero : ∀ {k j : Nat}, riseTo slot fault a b l k = 0 → j ≤ k → riseTo slot fault a b l j = 0 := by
  intro k j h hj
  by_cases e : riseTo slot fault a b l j = 0
  · exact e
  · rw [rise_more e k hj] at h; exact h
theorem riseAt_zero (h : riseE slot fault a b l = 0) (hk : k < l.length) : riseAt slot fault a b l k = 0 := by
  have h1 := riseTo_zero (j := k) h (by omega)
  have h2 := riseTo_zero (j := k + 1) h (by omega)
  rw [riseTo, if_neg (by simp [h1])] at h2
  exact h2
/-- What a list without an error has. -/
theorem rise_range (h : riseE slot fault a b l = 0) (hx : l[k]? = some x) : a ≤ slot x ∧ slot x ≤ b := by
  have hk := (List.getElem?_eq_some_iff.1 hx).1
  have h1 := riseAt_zero h hk
  unfold riseAt at h1
  rw [hx] at h1
  simp only at h1
  by_cases hb : betwB (slot x) a b = false
  · rw [if_pos hb] at h1; cases h1
  · simp [betwB] at hb; exact hb
theorem rise_fault (h : riseE slot fault a b l = 0) (hx : l[k]? = some x) : fault x = 0 := by
  have hk := (List.getElem?_eq_some_iff.1 hx).1
  have h1 := riseAt_zero h hk
  unfold riseAt at h1
  rw [hx] at h1
  simp only at h1
  by_cases hb : betwB (slot x) a b = false
  · rw [if_pos hb] at h1; cases h1
  · rw [if_neg hb] at h1
    by_cases hf : fault x = 0
    · exact hf
    · rw [if_pos hf] at h1; exact h1
theorem rise_lt (h : riseE slot fault a b l = 0) (hx : l[k + 1]? = some x) (hy : l[k]? = some y) : slot y < slot x := by
  have hk := (List.getElem?_eq_some_iff.1 hx).1
  have h1 := riseAt_zero h hk
  have hf := rise_fault h hx
  have hr := rise_range h hx
  unfold riseAt at h1
  rw [hx] at h1
  simp only [Nat.add_sub_cancel, hy] at h1
  rw [if_neg (by simp [betwB]; omega), if_neg (by simp [hf]), if_neg (by omega)] at h1
  by_cases hs : slot x ≤ slot y
  · rw [if_pos hs] at h1; cases h1
  · omega
end

def hFault (h : Hrd) : Int := if betwB h.basis 0 1 = true then 0 else 2
def noFault (_ : Int) : Int := 0
def idI (x : Int) : Int := x
def heardE (l : List Hrd) (a b : Int) : Int := riseE Hrd.slot hFault a b l
def slotsE (l : List Int) (a b : Int) : Int := riseE idI noFault a b l
theorem hFault_no {qs qb : Int} (h : betwB qb 0 1 = true) : hFault ⟨qs, qb⟩ = 0 := by simp [hFault, h]
theorem hFault_yes {qs qb : Int} (h : betwB qb 0 1 = false) : hFault ⟨qs, qb⟩ = 2 := by simp [hFault, h]

end Go.Proofs.YteoaaphjbggobaaGreatDoor
