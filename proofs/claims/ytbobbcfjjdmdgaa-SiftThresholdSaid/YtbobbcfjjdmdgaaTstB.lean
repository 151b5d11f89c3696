/- Contract of the reference's Pick, and plain words on picked bits. For bit strings of at most 65536 bits, and indexes that are in range. -/
import Derived.Test.YtbobbcfjjdmdgaaTstA
namespace Go.Proofs.Ytbobbcfjjdmdgaa
open Go.RowKit
set_option linter.unusedVariables false
set_option linter.unusedSimpArgs false

theorem pick_xor {a b : List Bool} {L : List Int} (hl : a.length = b.length) (hr : ∀ x ∈ L, 0 ≤ x ∧ x < (a.length : Int)) : xorL (pickL a L) (pickL b L) = pickL (xorL a b) L := by
  induction L with
  | nil => rfl
  | cons x L ih =>
    have h1 := hr x (by simp)
    have hx : x.toNat < a.length := by omega
    have hy : x.toNat < b.length := by omega
    have e : ((xorL a b).getD x.toNat false) = ((a.getD x.toNat false) != (b.getD x.toNat false)) := by
      simp only [xorL, List.getD, List.getElem?_zipWith, List.getElem?_eq_getElem hx, List.getElem?_eq_getElem hy]
      rfl
    show ((a.getD x.toNat false) != (b.getD x.toNat false)) :: xorL (pickL a L) (pickL b L) = ((xorL a b).getD x.toNat false) :: pickL (xorL a b) L
    rw [e, ih (fun y hy => hr y (by simp [hy]))]
theorem cnt_app (l m : List Bool) : cntL (l ++ m) = cntL l + cntL m := by simp [cntL, List.filter_append]
theorem cnt_yes (l : List Bool) : cntL (l ++ [true]) = cntL l + 1 := by rw [cnt_app]; rfl
theorem cnt_no (l : List Bool) : cntL (l ++ [false]) = cntL l := by rw [cnt_app]; rfl
theorem pick_up (D : List Bool) : pickL D (upL D.length) = D := by
  refine List.ext_getElem? fun i => ?_
  simp only [pickL, upL, List.getElem?_map]
  by_cases h : i < D.length
  · rw [List.getElem?_range h]; simp [h]
  · rw [List.getElem?_eq_none (by simpa using h), List.getElem?_eq_none (by simpa using h)]; rfl
theorem cnt_perm {D : List Bool} {L M : List Int} (h : L.Perm M) : cntL (pickL D L) = cntL (pickL D M) := by
  unfold cntL pickL
  exact ((h.map _).filter _).length_eq
theorem up_mem {n : Nat} {x : Int} : x ∈ upL n ↔ 0 ≤ x ∧ x < n := by
  simp only [upL, List.mem_map, List.mem_range]
  exact ⟨fun ⟨i, h, e⟩ => by omega, fun ⟨h1, h2⟩ => ⟨x.toNat, by omega, by omega⟩⟩
theorem rst_mem {L : List Int} {n : Nat} : ∀ x ∈ rstL L n, 0 ≤ x ∧ x < n := fun x hx => up_mem.1 (List.mem_filter.1 hx).1
theorem nodup_perm {L M : List Int} (h1 : L.Nodup) (h2 : M.Nodup) (h : ∀ x, x ∈ L ↔ x ∈ M) : L.Perm M := by
  rw [List.perm_iff_count]
  intro a
  rw [h1.count, h2.count]
  by_cases e : a ∈ L
  · rw [if_pos e, if_pos ((h a).1 e)]
  · rw [if_neg e, if_neg (fun q => e ((h a).2 q))]
theorem up_parts {L : List Int} {n : Nat} (hL : L.Nodup) (hm : ∀ x ∈ L, 0 ≤ x ∧ x < n) : (L ++ rstL L n).Perm (upL n) := by
  have h1 : L.Perm ((upL n).filter fun i => L.contains i) := by
    refine nodup_perm hL ((upL_nodup n).filter _) fun x => ?_
    simp only [List.mem_filter, up_mem, List.contains_iff_mem]
    exact ⟨fun h => ⟨hm x h, h⟩, fun h => h.2⟩
  exact (h1.append_right _).trans (by unfold rstL; exact List.filter_append_perm _ _)
theorem cnt_parts {D : List Bool} {L : List Int} {n : Nat} (hD : D.length = n) (hL : L.Nodup) (hm : ∀ x ∈ L, 0 ≤ x ∧ x < n) : cntL (pickL D L) + cntL (pickL D (rstL L n)) = cntL D := by
  have h3 := cnt_perm (D := D) (up_parts hL hm)
  rw [show pickL D (L ++ rstL L n) = pickL D L ++ pickL D (rstL L n) from List.map_append, cnt_app] at h3
  rw [h3, ← hD, pick_up]

end Go.Proofs.Ytbobbcfjjdmdgaa
