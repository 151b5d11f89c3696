/- Plain words for the statement on forgeries: what a pool of one number answers to the message that it fits, and to another one. For messages of at most 60 bits. -/
import Derived.Test.YtpejoghdmkpfcaaGreatDoorOncAll
import Derived.Test.YtpejoghdmkpfcaaGreatDoorMixD
import Derived.Test.YtpejoghdmkpfcaaGreatDoorColP
namespace Go.Proofs.YtpejoghdmkpfcaaGreatDoor
open Go.RowKit
set_option linter.unusedVariables false
set_option linter.unusedSimpArgs false

theorem for_pool {m o : List Bool} {k tag fg pad : Nat} (hk : k < 256) (ht : tag < 256) (hm : m.length ≤ 60) (ho : o.length ≤ 60) (hp : hashN 8 k m ^^^ tag = pad) :
    plE 8 (numL k 8 ++ numL pad 8) [] 0 m = 0 ∧ plT 8 (numL k 8 ++ numL pad 8) 0 m = tag ∧ opE 8 (numL k 8 ++ numL pad 8) [] 0 o fg = (if keyP 8 m o (tag ^^^ fg) k = true then 0 else 15) ∧ pad < 256 := by
  have hh : hashN 8 k m < 2 ^ 8 := hashN_lt (.inl rfl) m
  have hpad : pad < 2 ^ 8 := by rw [← hp]; exact Nat.xor_lt_two_pow hh (by simpa using ht)
  have h1 : pKey 8 (numL k 8 ++ numL pad 8) 0 = k := by
    unfold pKey
    rw [Nat.mul_zero, List.drop_zero, List.take_append_of_le_length (by rw [numL_len]; exact Nat.le_refl _), List.take_of_length_le (by rw [numL_len]; exact Nat.le_refl _)]
    exact bval_numL 8 k (by simpa using hk)
  have h2 : pPad 8 (numL k 8 ++ numL pad 8) 0 = pad := by
    unfold pPad
    rw [Nat.mul_zero, List.drop_zero, List.drop_append_of_le_length (by rw [numL_len]; exact Nat.le_refl _), List.drop_of_length_le (by rw [numL_len]; exact Nat.le_refl _), List.nil_append, List.take_of_length_le (by rw [numL_len]; exact Nat.le_refl _)]
    exact bval_numL 8 pad hpad
  have hl : (numL k 8 ++ numL pad 8).length / (2 * 8) = 1 := by rw [List.length_append, numL_len, numL_len]
  have e (x : List Bool) (hx : x.length ≤ 60) : plE 8 (numL k 8 ++ numL pad 8) [] 0 x = 0 ∧ plT 8 (numL k 8 ++ numL pad 8) 0 x = hashN 8 k x ^^^ pad := by
    have tg := tgE_ok (m := x) hk (show pad < 256 by simpa using hpad) (by omega)
    refine ⟨?_, ?_⟩
    · unfold plE
      rw [if_neg (by decide), hl, if_neg (by decide), if_neg (by simp)]
      show tgE (8 : Nat) (pKey 8 _ 0) (pPad 8 _ 0) x = 0
      rw [h1, h2]; exact tg.1
    · unfold plT
      show tgN (8 : Nat) (pKey 8 _ 0) (pPad 8 _ 0) x = _
      rw [h1, h2]; exact tg.2
  refine ⟨(e m hm).1, ?_, ?_, by simpa using hpad⟩
  · rw [(e m hm).2, ← hp, ← Nat.xor_assoc, Nat.xor_self, Nat.zero_xor]
  · unfold opE
    rw [(e o ho).1, if_pos rfl, (e o ho).2]
    have hx : fg = hashN 8 k o ^^^ pad ↔ keyP 8 m o (tag ^^^ fg) k = true := by
      unfold keyP
      rw [decide_eq_true_iff]
      show _ ↔ hashN 8 k m ^^^ hashN 8 k o = tag ^^^ fg
      rw [← hp]
      constructor
      · intro h
        rw [h]
        have : tag ^^^ (hashN 8 k o ^^^ (hashN 8 k m ^^^ tag)) = (hashN 8 k m ^^^ hashN 8 k o) ^^^ (tag ^^^ tag) := by ac_rfl
        rw [this, Nat.xor_self, Nat.xor_zero]
      · intro h
        have : hashN 8 k o ^^^ (hashN 8 k m ^^^ tag) = (hashN 8 k m ^^^ hashN 8 k o) ^^^ tag := by ac_rfl
        rw [this, h, Nat.xor_comm tag fg, Nat.xor_assoc, Nat.xor_self, Nat.xor_zero]
    by_cases hc : fg = hashN 8 k o ^^^ pad
    · rw [if_pos hc, if_pos (hx.1 hc)]
    · rw [if_neg hc, if_neg (fun h => hc (hx.2 h))]
/-- What Forgeries says at the width 8. -/
theorem for_count {m o : List Bool} {tag fg : Nat} (ht : tag < 256) (hf : fg < 256) (hm : m.length ≤ 60) (ho : o.length ≤ 60) :
    frE 8 tag fg m o = 0 ∧ frN 8 tag fg m o = cntTo (keyP 8 m o (tag ^^^ fg)) 256 ∧
    ((m = o ∧ tag = fg) → cntTo (keyP 8 m o (tag ^^^ fg)) 256 = 256) ∧ (¬ (m = o ∧ tag = fg) → cntTo (keyP 8 m o (tag ^^^ fg)) 256 ≤ max m.length o.length / 8 + 2) := by
  obtain ⟨e1, e2⟩ := fr_yes (n := 8) (by decide) (t := tag) (f := fg) ⟨by simpa using ht, by simpa using hf⟩ m o
  obtain ⟨f1, f2⟩ := ky_ok 8 (a := m) (b := o) (by omega) (by omega) (tag ^^^ fg)
  have hk : keyN 8 m o (tag ^^^ fg) = cntTo (keyP 8 m o (tag ^^^ fg)) 256 := rfl
  refine ⟨by rw [← f1]; exact e1, by rw [← hk, ← f2]; exact e2, ?_, ?_⟩
  · rintro ⟨rfl, rfl⟩
    rw [← hk, Nat.xor_self]; exact keyN_all (w := 8) m
  · intro h
    rw [← hk]
    refine keyN_le (.inl rfl) m o _ (Nat.xor_lt_two_pow (by simpa using ht) (by simpa using hf)) ?_
    by_cases hab : m = o
    · right
      intro h0
      refine h ⟨hab, ?_⟩
      have := congrArg (fun z => z ^^^ fg) h0
      simpa [Nat.xor_assoc] using this
    · exact .inl hab

end Go.Proofs.YtpejoghdmkpfcaaGreatDoor
