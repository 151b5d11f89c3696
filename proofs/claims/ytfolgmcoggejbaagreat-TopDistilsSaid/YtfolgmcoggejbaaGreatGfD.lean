/- Contract of the reference's Hash. For the widths 8, 16 and 32, keys of the field, strings of at most 100000 bits. -/
import Derived.Test.YtfolgmcoggejbaaGreatGfcAll
namespace Go.Proofs.YtfolgmcoggejbaaGreat
open Go.RowKit
set_option linter.unusedVariables false
set_option linter.unusedSimpArgs false

def hashN (w key : Nat) (m : List Bool) : Nat := horner w key (wordsL w m)
theorem psum_lt {w key : Nat} (hw : Wd w) (r : List Nat) (hr : ∀ x ∈ r, x < 2 ^ w) : ∀ j, psum w key r j < 2 ^ w
  | 0 => Nat.pow_pos (by decide)
  | j + 1 => by
    rw [psum]
    refine Nat.xor_lt_two_pow (psum_lt hw r hr j) (gm_lt hw _ _ ?_)
    cases h : r[j]? with
    | none => exact Nat.pow_pos (by decide)
    | some x => exact hr x (List.mem_of_getElem? h)
theorem tailW_len (w : Nat) (hw : 0 < w) : ∀ n (m : List Bool), m.length ≤ n → (tailW w m).length ≤ n + 1 := by
  intro n
  induction n with
  | zero => intro m hm; rw [tailW_last (by omega)]; simp
  | succ n ih =>
    intro m hm
    rcases Nat.lt_or_ge m.length w with h | h
    · rw [tailW_last h]; simp
    · rw [tailW_more hw h, List.length_cons]
      have := ih (m.drop w) (by simp; omega)
      omega

end Go.Proofs.YtfolgmcoggejbaaGreat
