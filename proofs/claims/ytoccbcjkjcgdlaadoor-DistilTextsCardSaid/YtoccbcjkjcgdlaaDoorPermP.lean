/- Plain: an entry's sums; lengths of keys do not grow; contract of the law's two. No condition. -/
import Derived.Test.YtoccbcjkjcgdlaaDoorExA
import Derived.Test.YtoccbcjkjcgdlaaDoorLenA
namespace Go.Proofs.YtoccbcjkjcgdlaaDoor
open Go.RowKit
set_option linter.unusedVariables false
set_option linter.unusedSimpArgs false

theorem first_split {l m : List Itm} (h : firstE (l ++ m) = 0) : firstE l = 0 ∧ firstE m = 0 := by
  induction l with
  | nil => exact ⟨rfl, h⟩
  | cons x l ih =>
    rw [List.cons_append, firstE] at h
    split at h
    · rename_i h1
      obtain ⟨h2, h3⟩ := ih h
      exact ⟨by rw [firstE, if_pos h1]; exact h2, h3⟩
    · rename_i h1; exact (h1 h).elim
theorem itm_ok {k b : Int} (hk : kindB k = true) (hb : betwB b 0 65536 = true) : itmE ⟨k, b⟩ = 0 := by unfold itmE; rw [if_pos hk, if_pos hb]
/-- What an entry adds. -/
theorem ent_yes {l : List Itm} {k b : Int} (h : ledE l = 0) (hk : kindB k = true) (hb : betwB b 0 65536 = true) :
    (∃ e, ent l k b = .no e ∧ e ≠ 0) ∨ (∃ L, ent l k b = .yes L ∧ ledE L = 0 ∧ L.length ≤ l.length + 1 ∧ ∀ p, sumBy p L = sumBy p l + (if p k = true then b else 0)) := by
  obtain ⟨hl, hf⟩ := ledE_zero.1 h
  have hbb := betw_in hb
  rcases List.eq_nil_or_concat l with rfl | ⟨l', x, rfl⟩
  · right
    refine ⟨_, ent_nil hk hb, ledE_zero.2 ⟨by simp, ?_⟩, Nat.le_refl _, fun p => ?_⟩
    · rw [firstE, if_pos (itm_ok hk hb)]; rfl
    · simp [sumBy]
  · simp only [List.concat_eq_append] at *
    obtain ⟨f1, f2⟩ := first_split hf
    have hx := first_all f2 (k := 0) (x := x) rfl
    have e := ent_last (l := l' ++ [x]) (x := x) h hk hb (by simp)
    rw [e]
    by_cases hxk : x.kind = k
    · rw [if_pos hxk]
      by_cases ho : 65536 < x.bits + b
      · left; rw [if_pos ho]; exact ⟨8, rfl, by decide⟩
      · right
        rw [if_neg ho]
        have hs : (l' ++ [x]).set ((l' ++ [x]).length - 1) ⟨k, x.bits + b⟩ = l' ++ [⟨k, x.bits + b⟩] := by
          rw [List.length_append, List.length_singleton, Nat.add_sub_cancel, List.set_append, if_neg (by omega), Nat.sub_self]; rfl
        rw [hs]
        refine ⟨_, rfl, ledE_zero.2 ⟨by simp at hl ⊢; omega, ?_⟩, by simp, fun p => ?_⟩
        · rw [first_app _ _ f1, firstE, if_pos (itm_ok hk (by simp [betwB]; omega))]; rfl
        · rw [sumBy_app, sumBy_app]
          simp only [sumBy, hxk]
          split <;> omega
    · rw [if_neg hxk]
      by_cases hn : (l' ++ [x]).length = 1000
      · left; rw [if_pos hn]; exact ⟨5, rfl, by decide⟩
      · right
        rw [if_neg hn]
        refine ⟨_, rfl, ledE_zero.2 ⟨by rw [List.length_append]; simp at hl hn ⊢; omega, ?_⟩, by simp, fun p => ?_⟩
        · rw [first_app _ _ hf, firstE, if_pos (itm_ok hk hb)]; rfl
        · rw [sumBy_app]; simp [sumBy]
theorem ent_tot {l L : List Itm} {k b : Int} (h : ledE l = 0) (hL : ledE L = 0) (hs : ∀ p, sumBy p L = sumBy p l + (if p k = true then b else 0)) : totE L = totE l + b := by
  unfold totE; rw [if_pos h, if_pos hL, hs]; simp

theorem ballM_mono (n : Nat) (t : Int) : ballM n t ≤ ballM n (t + 1) := by unfold ballM; split <;> split <;> omega
theorem ballN_mono (n : Nat) (t : Int) : ballN n t ≤ ballN n (t + 1) := sumTo_mono _ (ballM_mono n t)
theorem bitLen_mono {a b : Nat} (h : a ≤ b) : bitLen a ≤ bitLen b := digB_mono (by decide) h
theorem cost_mono {n : Int} (t : Int) (h : betwB n 0 512 = true) : costI n t ≤ costI n (t + 1) := by
  unfold costI; rw [if_pos h, if_pos h]
  have := bitLen_mono (ballN_mono n.toNat t)
  omega
theorem ball_key {n : Nat} {t : Int} {s : Nat} (hs : bitLen (ballN n t) + s = n) : ballN n t * 2 ^ s < 2 ^ n := by
  have h := bitLen_lt (ballN n t)
  rw [← hs, Nat.pow_add]
  rw [hs]
  exact Nat.mul_lt_mul_of_pos_right h (Nat.pow_pos (by decide))
theorem pow_limbs {n : Nat} (h : n ≤ 2000) : (limbs (2 ^ n)).length ≤ 64 := limbs_len (k := 64) (m := n + 1) (Nat.pow_lt_pow_right (by decide) (by omega)) (by omega)

end Go.Proofs.YtoccbcjkjcgdlaaDoor
