/- Plain: bit strings as numbers, and the words of a bit string. No condition. -/
import Derived.Test.YtbobbcfjjdmdgaaGfQ
namespace Go.Proofs.Ytbobbcfjjdmdgaa
set_option linter.unusedVariables false
set_option linter.unusedSimpArgs false

/-- The number of a bit string, the highest bit first. -/
def bval (l : List Bool) : Nat := l.foldl (fun n b => 2 * n + b.toNat) 0
theorem bval_snoc (l : List Bool) (b : Bool) : bval (l ++ [b]) = 2 * bval l + b.toNat := by unfold bval; rw [List.foldl_append]; rfl
theorem bval_lt (l : List Bool) : bval l < 2 ^ l.length := by
  have go : ∀ n (l : List Bool), l.length = n → bval l < 2 ^ n := by
    intro n
    induction n with
    | zero => intro l hl; obtain rfl := List.eq_nil_of_length_eq_zero hl; decide
    | succ n ih =>
      intro l hl
      rcases List.eq_nil_or_concat l with rfl | ⟨l', b, rfl⟩
      · simp at hl
      · simp only [List.concat_eq_append] at *
        have := ih l' (by simpa using hl)
        rw [bval_snoc, Nat.pow_succ]
        cases b <;> simp <;> omega
  exact go _ l rfl
theorem bval_pad (l : List Bool) (k : Nat) : bval (l ++ List.replicate k false) = bval l * 2 ^ k := by
  induction k with
  | zero => simp
  | succ k ih =>
    rw [List.replicate_succ', ← List.append_assoc, bval_snoc, ih, Nat.pow_succ]
    simp; rw [Nat.mul_comm 2, Nat.mul_assoc]
theorem bval_take {l : List Bool} {k : Nat} {b : Bool} (h : l[k]? = some b) : bval (l.take (k + 1)) = 2 * bval (l.take k) + b.toNat := by
  obtain ⟨hk, rfl⟩ := List.getElem?_eq_some_iff.1 h
  rw [List.take_succ_eq_append_getElem hk, bval_snoc]

/-- The words behind the first one. -/
def tailW (w : Nat) (m : List Bool) : List Nat := if h : 0 < w ∧ w ≤ m.length then bval (m.take w) :: tailW w (m.drop w) else [(2 * bval m + 1) * 2 ^ (w - 1 - m.length)]
termination_by m.length
decreasing_by simp; omega
def wordsL (w : Nat) (m : List Bool) : List Nat := 1 :: tailW w m
theorem tailW_more {w : Nat} {m : List Bool} (hw : 0 < w) (h : w ≤ m.length) : tailW w m = bval (m.take w) :: tailW w (m.drop w) := by rw [tailW, dif_pos ⟨hw, h⟩]
theorem tailW_last {w : Nat} {m : List Bool} (h : m.length < w) : tailW w m = [(2 * bval m + 1) * 2 ^ (w - 1 - m.length)] := by rw [tailW, dif_neg (by omega)]
theorem tailW_lt {w : Nat} (hw : 0 < w) : ∀ n (m : List Bool), m.length ≤ n → ∀ x ∈ tailW w m, x < 2 ^ w := by
  intro n
  induction n with
  | zero =>
    intro m hm x hx
    obtain rfl := List.eq_nil_of_length_eq_zero (by omega : m.length = 0)
    rw [tailW_last (by simpa using hw)] at hx
    simp [bval] at hx
    rw [hx]; exact Nat.pow_lt_pow_right (by decide) (by omega)
  | succ n ih =>
    intro m hm x hx
    rcases Nat.lt_or_ge m.length w with h | h
    · rw [tailW_last h] at hx
      simp only [List.mem_singleton] at hx
      have h1 := bval_lt m
      have h2 : 2 * bval m + 1 < 2 ^ (m.length + 1) := by rw [Nat.pow_succ]; omega
      rw [hx, show w = (m.length + 1) + (w - 1 - m.length) from by omega, Nat.pow_add, show m.length + 1 + (w - 1 - m.length) - 1 - m.length = w - 1 - m.length from by omega]
      exact Nat.mul_lt_mul_of_pos_right h2 (Nat.pow_pos (by decide))
    · rw [tailW_more hw h] at hx
      rcases List.mem_cons.1 hx with rfl | hx
      · have := bval_lt (m.take w)
        rwa [List.length_take, Nat.min_eq_left h] at this
      · exact ih (m.drop w) (by simp; omega) x hx
theorem wordsL_lt {w : Nat} (hw : 0 < w) (m : List Bool) : ∀ x ∈ wordsL w m, x < 2 ^ w := by
  intro x hx
  rcases List.mem_cons.1 hx with rfl | hx
  · exact Nat.one_lt_two_pow (by omega)
  · exact tailW_lt hw _ m (Nat.le_refl _) x hx
/-- The words of a string whose length is a multiple. -/
def chunks (w : Nat) (l : List Bool) : List Nat := if h : 0 < w ∧ w ≤ l.length then bval (l.take w) :: chunks w (l.drop w) else []
termination_by l.length
decreasing_by simp; omega
theorem chunks_more {w : Nat} {l : List Bool} (hw : 0 < w) (h : w ≤ l.length) : chunks w l = bval (l.take w) :: chunks w (l.drop w) := by rw [chunks, dif_pos ⟨hw, h⟩]
theorem chunks_nil {w : Nat} {l : List Bool} (h : l.length < w) : chunks w l = [] := by rw [chunks, dif_neg (by omega)]
theorem chunks_words {w : Nat} (hw : 0 < w) : ∀ n (m : List Bool), m.length ≤ n → ∀ z, z < w → (m.length + 1 + z) % w = 0 → chunks w (m ++ [true] ++ List.replicate z false) = tailW w m := by
  intro n
  induction n with
  | zero =>
    intro m hm z hz hmod
    obtain rfl := List.eq_nil_of_length_eq_zero (by omega : m.length = 0)
    have hz1 : 1 + z = w := by
      have := Nat.div_add_mod (0 + 1 + z) w
      simp only [List.length_nil] at hmod
      rw [hmod] at this
      have h1 : (0 + 1 + z) / w = 1 := by
        rcases Nat.lt_or_ge (0 + 1 + z) w with h | h
        · rw [Nat.mod_eq_of_lt h] at hmod; omega
        · exact Nat.div_eq_of_lt_le (by omega) (by omega)
      rw [h1] at this; omega
    rw [tailW_last (by simpa using hw), chunks_more hw (by simp; omega), chunks_nil (by simp; omega)]
    rw [List.take_of_length_le (by simp; omega), bval_pad, bval_snoc]
    simp [bval, show w - 1 = z from by omega]
  | succ n ih =>
    intro m hm z hz hmod
    rcases Nat.lt_or_ge m.length w with h | h
    · have hz1 : m.length + 1 + z = w := by
        have := Nat.div_add_mod (m.length + 1 + z) w
        rw [hmod] at this
        have h1 : (m.length + 1 + z) / w = 1 := by
          rcases Nat.lt_or_ge (m.length + 1 + z) w with h | h
          · rw [Nat.mod_eq_of_lt h] at hmod; omega
          · exact Nat.div_eq_of_lt_le (by omega) (by omega)
        rw [h1] at this; omega
      rw [tailW_last h, chunks_more hw (by simp; omega), chunks_nil (by simp; omega)]
      rw [List.take_of_length_le (by simp; omega), bval_pad, bval_snoc]
      simp [show w - 1 - m.length = z from by omega]
    · rw [tailW_more hw h, chunks_more hw (by simp; omega)]
      have e1 : (m ++ [true] ++ List.replicate z false).take w = m.take w := by rw [List.append_assoc, List.take_append_of_le_length h]
      have e2 : (m ++ [true] ++ List.replicate z false).drop w = m.drop w ++ [true] ++ List.replicate z false := by rw [List.append_assoc, List.drop_append_of_le_length h, List.append_assoc]
      rw [e1, e2, ih (m.drop w) (by simp; omega) z hz]
      rw [List.length_drop]
      have : m.length + 1 + z = (m.length - w + 1 + z) + w := by omega
      rw [this, Nat.add_mod_right] at hmod
      exact hmod

end Go.Proofs.Ytbobbcfjjdmdgaa
