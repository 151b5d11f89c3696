/- Plain: the product of a field stays in it, is associative and commutative; a hash by Horner's steps is the sum of powers. For the widths 8, 16 and 32. -/
import Derived.Test.YtbobbcfjjdmdgaaGfP
namespace Go.Proofs.Ytbobbcfjjdmdgaa
set_option linter.unusedVariables false
set_option linter.unusedSimpArgs false

def Wd (w : Nat) : Prop := w = 8 ∨ w = 16 ∨ w = 32
theorem Lin.lt {f : Nat → Nat} (hf : Lin f) (m : Nat) : ∀ w, (∀ k, k < w → f (2 ^ k) < 2 ^ m) → ∀ x, x < 2 ^ w → f x < 2 ^ m
  | 0, _, x, hx => by
    obtain rfl : x = 0 := by simpa using hx
    rw [hf.zero]; exact Nat.pow_pos (by decide)
  | w + 1, h, x, hx => by
    rcases Nat.lt_or_ge x (2 ^ w) with h1 | h1
    · exact Lin.lt hf m w (fun k hk => h k (by omega)) x h1
    · have h2 : x ^^^ 2 ^ w < 2 ^ w := by
        apply Nat.lt_pow_two_of_testBit
        intro i hi
        rw [Nat.testBit_xor]
        rcases Nat.lt_or_ge i (w + 1) with h3 | h3
        · obtain rfl : i = w := by omega
          have : x.testBit i = true := by
            rw [Nat.testBit_eq_decide_div_mod_eq]
            have h4 : x / 2 ^ i = 1 := by
              rw [Nat.pow_succ] at hx
              exact Nat.div_eq_of_lt_le (by omega) (by omega)
            simp [h4]
          rw [this, Nat.testBit_two_pow_self]; rfl
        · have e1 : x.testBit i = false := Nat.testBit_lt_two_pow (Nat.lt_of_lt_of_le hx (Nat.pow_le_pow_right (by decide) h3))
          have e2 : (2 ^ w).testBit i = false := Nat.testBit_lt_two_pow (Nat.pow_lt_pow_right (by decide) (by omega))
          rw [e1, e2]; rfl
      have h3 : x = (x ^^^ 2 ^ w) ^^^ 2 ^ w := by rw [Nat.xor_assoc, Nat.xor_self, Nat.xor_zero]
      rw [h3, hf]
      exact Nat.xor_lt_two_pow (Lin.lt hf m w (fun k hk => h k (by omega)) _ h2) (h w (by omega))
theorem xt_b8 : ∀ k < 8, xt 8 (2 ^ k) < 2 ^ 8 := by decide +kernel
theorem xt_b16 : ∀ k < 16, xt 16 (2 ^ k) < 2 ^ 16 := by decide +kernel
theorem xt_b32 : ∀ k < 32, xt 32 (2 ^ k) < 2 ^ 32 := by decide +kernel
theorem xt_lt {w a : Nat} (hw : Wd w) (ha : a < 2 ^ w) : xt w a < 2 ^ w := by
  rcases hw with rfl | rfl | rfl
  · exact (xt_lin 8).lt 8 8 xt_b8 a ha
  · exact (xt_lin 16).lt 16 16 xt_b16 a ha
  · exact (xt_lin 32).lt 32 32 xt_b32 a ha
theorem gm_lt {w : Nat} (hw : Wd w) (b : Nat) : ∀ a, a < 2 ^ w → gm w a b < 2 ^ w := by
  induction b using Nat.strongRecOn with
  | ind b ih =>
    intro a ha
    by_cases h : b = 0
    · subst h; rw [gm_zero]; exact Nat.pow_pos (by decide)
    · rw [gm_step]
      refine Nat.xor_lt_two_pow ?_ (ih (b / 2) (by omega) _ (xt_lt hw ha))
      split
      · exact ha
      · exact Nat.pow_pos (by decide)
/-- Two maps of two arguments that agree on powers of 2. -/
theorem bil_ext {f g : Nat → Nat → Nat} (f1 : ∀ b, Lin (fun a => f a b)) (f2 : ∀ a, Lin (fun b => f a b)) (g1 : ∀ b, Lin (fun a => g a b)) (g2 : ∀ a, Lin (fun b => g a b)) {w : Nat} (h : ∀ i < w, ∀ j < w, f (2 ^ i) (2 ^ j) = g (2 ^ i) (2 ^ j)) {a b : Nat} (ha : a < 2 ^ w) (hb : b < 2 ^ w) : f a b = g a b :=
  Lin.ext (f2 a) (g2 a) w (fun j hj => Lin.ext (f1 (2 ^ j)) (g1 (2 ^ j)) w (fun i hi => h i hi j hj) a ha) b hb
theorem rm_gm {w a b : Nat} (hw : Wd w) (ha : a < 2 ^ w) (hb : b < 2 ^ w) : rm w a b = gm w a b := by
  rcases hw with rfl | rfl | rfl
  · exact bil_ext (rm_left 8) (rm_right 8) (gm_left 8) (gm_right 8) gm_basis8 ha hb
  · exact bil_ext (rm_left 16) (rm_right 16) (gm_left 16) (gm_right 16) gm_basis16 ha hb
  · exact bil_ext (rm_left 32) (rm_right 32) (gm_left 32) (gm_right 32) gm_basis32 ha hb
theorem cm_b8 : ∀ i < 8, ∀ j < 8, gm 8 (2 ^ i) (2 ^ j) = gm 8 (2 ^ j) (2 ^ i) := by decide +kernel
theorem cm_b16 : ∀ i < 16, ∀ j < 16, gm 16 (2 ^ i) (2 ^ j) = gm 16 (2 ^ j) (2 ^ i) := by decide +kernel
theorem cm_b32 : ∀ i < 32, ∀ j < 32, gm 32 (2 ^ i) (2 ^ j) = gm 32 (2 ^ j) (2 ^ i) := by decide +kernel
theorem gm_comm {w a b : Nat} (hw : Wd w) (ha : a < 2 ^ w) (hb : b < 2 ^ w) : gm w a b = gm w b a := by
  rcases hw with rfl | rfl | rfl
  · exact bil_ext (f := gm 8) (g := fun a b => gm 8 b a) (gm_left 8) (gm_right 8) (gm_right 8) (gm_left 8) cm_b8 ha hb
  · exact bil_ext (f := gm 16) (g := fun a b => gm 16 b a) (gm_left 16) (gm_right 16) (gm_right 16) (gm_left 16) cm_b16 ha hb
  · exact bil_ext (f := gm 32) (g := fun a b => gm 32 b a) (gm_left 32) (gm_right 32) (gm_right 32) (gm_left 32) cm_b32 ha hb
theorem gm_xt {w : Nat} (b : Nat) : ∀ a, gm w (xt w a) b = xt w (gm w a b) := by
  induction b using Nat.strongRecOn with
  | ind b ih =>
    intro a
    by_cases h : b = 0
    · subst h; rw [gm_zero, gm_zero, (xt_lin w).zero]
    · rw [gm_step w (xt w a), gm_step w a, xt_lin, ih (b / 2) (by omega)]
      congr 1
      split
      · rfl
      · rw [(xt_lin w).zero]
theorem gm_xr {w a b : Nat} (hw : Wd w) (ha : a < 2 ^ w) (hb : b < 2 ^ w) : gm w a (xt w b) = xt w (gm w a b) := by
  rw [gm_comm hw ha (xt_lt hw hb), gm_xt, gm_comm hw hb ha]
theorem gm_assoc {w a : Nat} (hw : Wd w) (ha : a < 2 ^ w) (c : Nat) : ∀ b, b < 2 ^ w → gm w (gm w a b) c = gm w a (gm w b c) := by
  induction c using Nat.strongRecOn with
  | ind c ih =>
    intro b hb
    by_cases h : c = 0
    · subst h; rw [gm_zero, gm_zero, gm_zero]
    · rw [gm_step w (gm w a b), gm_step w b c, ← gm_xr hw ha hb, ih (c / 2) (by omega) _ (xt_lt hw hb)]
      have := gm_right w a (if c % 2 = 1 then b else 0) (gm w (xt w b) (c / 2))
      simp only at this
      rw [this]
      congr 1
      split
      · rfl
      · rw [gm_zero]

/-- The hash, by Horner's steps. -/
def horner (w key : Nat) (cs : List Nat) : Nat := cs.foldl (fun h c => gm w (h ^^^ c) key) 0
/-- Powers of the key, from the first on. -/
def kpow (w key : Nat) : Nat → Nat
  | 0 => key
  | j + 1 => gm w (kpow w key j) key
/-- The sum of the first j words from the end times powers. -/
def psum (w key : Nat) (r : List Nat) : Nat → Nat
  | 0 => 0
  | j + 1 => psum w key r j ^^^ gm w (r[j]?.getD 0) (kpow w key j)
theorem kpow_lt {w key : Nat} (hw : Wd w) (hk : key < 2 ^ w) : ∀ j, kpow w key j < 2 ^ w
  | 0 => hk
  | j + 1 => gm_lt hw _ _ (kpow_lt hw hk j)
theorem horner_snoc (w key : Nat) (cs : List Nat) (c : Nat) : horner w key (cs ++ [c]) = gm w (horner w key cs ^^^ c) key := by
  unfold horner; rw [List.foldl_append]; rfl
theorem psum_cons {w key : Nat} (hw : Wd w) (hk : key < 2 ^ w) (c : Nat) (r : List Nat) (hr : ∀ x ∈ r, x < 2 ^ w) : ∀ j, psum w key (c :: r) (j + 1) = gm w (psum w key r j ^^^ c) key
  | 0 => by simp [psum, kpow]
  | j + 1 => by
    rw [psum, psum_cons hw hk c r hr j]
    have h1 : ((c :: r)[j + 1]?).getD 0 = (r[j]?).getD 0 := by simp
    have h2 : (r[j]?).getD 0 < 2 ^ w := by
      cases h : r[j]? with
      | none => exact Nat.pow_pos (by decide)
      | some x => exact hr x (List.mem_of_getElem? h)
    rw [h1, kpow, ← gm_assoc hw h2 _ _ (kpow_lt hw hk j)]
    have e := gm_left w key
    have e1 : gm w (psum w key r j ^^^ c ^^^ gm w ((r[j]?).getD 0) (kpow w key j)) key = gm w (psum w key r j ^^^ c) key ^^^ gm w (gm w ((r[j]?).getD 0) (kpow w key j)) key := e _ _
    rw [← e1, psum]
    congr 1
    rw [Nat.xor_assoc, Nat.xor_assoc, Nat.xor_comm c]
theorem horner_psum {w key : Nat} (hw : Wd w) (hk : key < 2 ^ w) (r : List Nat) (hr : ∀ x ∈ r, x < 2 ^ w) : horner w key r.reverse = psum w key r r.length := by
  induction r with
  | nil => rfl
  | cons c r ih =>
    rw [List.reverse_cons, horner_snoc, ih (fun x hx => hr x (by simp [hx])), List.length_cons, psum_cons hw hk c r (fun x hx => hr x (by simp [hx]))]

end Go.Proofs.Ytbobbcfjjdmdgaa
