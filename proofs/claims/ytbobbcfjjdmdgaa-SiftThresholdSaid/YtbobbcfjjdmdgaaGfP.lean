/- Plain: the fields of 8, 16 and 32 bits as numbers with exclusive or; both ways to multiply agree; a product's laws. No condition. -/
import Derived.Test.YtbobbcfjjdmdgaaBase
namespace Go.Proofs.Ytbobbcfjjdmdgaa
set_option linter.unusedVariables false
set_option linter.unusedSimpArgs false

/-- A map that takes exclusive or to exclusive or. -/
def Lin (f : Nat → Nat) : Prop := ∀ x y, f (x ^^^ y) = f x ^^^ f y
theorem Lin.zero {f : Nat → Nat} (h : Lin f) : f 0 = 0 := by
  have := h 0 0
  rw [Nat.xor_self, Nat.xor_self] at this; exact this
theorem Lin.comp {f g : Nat → Nat} (hf : Lin f) (hg : Lin g) : Lin (fun x => f (g x)) := fun x y => by
  show f (g (x ^^^ y)) = f (g x) ^^^ f (g y)
  rw [hg, hf]
theorem xor4 (a b c d : Nat) : (a ^^^ b) ^^^ (c ^^^ d) = (a ^^^ c) ^^^ (b ^^^ d) := by
  rw [Nat.xor_assoc, Nat.xor_assoc]; congr 1; rw [← Nat.xor_assoc, Nat.xor_comm b c, Nat.xor_assoc]
theorem Lin.xor {f g : Nat → Nat} (hf : Lin f) (hg : Lin g) : Lin (fun x => f x ^^^ g x) := fun x y => by
  show f (x ^^^ y) ^^^ g (x ^^^ y) = _
  rw [hf, hg, xor4]
theorem Lin.bit (k c : Nat) : Lin (fun x => if x.testBit k = true then c else 0) := fun x y => by
  show (if (x ^^^ y).testBit k = true then c else 0) = (if x.testBit k = true then c else 0) ^^^ (if y.testBit k = true then c else 0)
  rw [Nat.testBit_xor]
  cases x.testBit k <;> cases y.testBit k <;> simp
theorem Lin.id : Lin (fun x => x) := fun _ _ => rfl
theorem Lin.shl (k : Nat) : Lin (fun x => x <<< k) := fun x y => Nat.shiftLeft_xor_distrib
theorem Lin.shr (k : Nat) : Lin (fun x => x >>> k) := fun x y => Nat.shiftRight_xor_distrib
theorem Lin.const0 : Lin (fun _ => 0) := fun _ _ => (Nat.xor_self 0).symm
/-- Maps that agree on the powers of 2 agree. -/
theorem Lin.ext {f g : Nat → Nat} (hf : Lin f) (hg : Lin g) : ∀ w, (∀ k, k < w → f (2 ^ k) = g (2 ^ k)) → ∀ x, x < 2 ^ w → f x = g x
  | 0, _, x, hx => by
    obtain rfl : x = 0 := by simpa using hx
    rw [hf.zero, hg.zero]
  | w + 1, h, x, hx => by
    rcases Nat.lt_or_ge x (2 ^ w) with h1 | h1
    · exact Lin.ext hf hg w (fun k hk => h k (by omega)) x h1
    · have h2 : x ^^^ 2 ^ w < 2 ^ w := by
        apply Nat.lt_pow_two_of_testBit
        intro i hi
        rw [Nat.testBit_xor]
        rcases Nat.lt_or_ge i (w + 1) with h3 | h3
        · obtain rfl : i = w := by omega
          have : x.testBit i = true := by
            rw [Nat.testBit_eq_decide_div_mod_eq]
            have h4 : x / 2 ^ i = 1 := by
              rw [Nat.pow_succ] at hx
              exact Nat.div_eq_of_lt_le (by omega) (by omega)
            simp [h4]
          rw [this, Nat.testBit_two_pow_self]; rfl
        · have e1 : x.testBit i = false := Nat.testBit_lt_two_pow (Nat.lt_of_lt_of_le hx (Nat.pow_le_pow_right (by decide) h3))
          have e2 : (2 ^ w).testBit i = false := Nat.testBit_lt_two_pow (Nat.pow_lt_pow_right (by decide) (by omega))
          rw [e1, e2]; rfl
      have h3 : x = (x ^^^ 2 ^ w) ^^^ 2 ^ w := by rw [Nat.xor_assoc, Nat.xor_self, Nat.xor_zero]
      rw [h3, hf, hg, Lin.ext hf hg w (fun k hk => h k (by omega)) _ h2, h w (by omega)]

/-- The polynomial of a field. -/
def gp (w : Nat) : Nat := if w = 8 then 283 else if w = 16 then 65579 else 4294967437
/-- Times x. -/
def xt (w a : Nat) : Nat := (a <<< 1) ^^^ (if a.testBit (w - 1) = true then gp w else 0)
theorem xt_lin (w : Nat) : Lin (xt w) := Lin.xor (Lin.shl 1) (Lin.bit _ _)
/-- The product: the bits of the second number, from the lowest on. -/
def gm (w a b : Nat) : Nat := if h : b = 0 then 0 else (if b % 2 = 1 then a else 0) ^^^ gm w (xt w a) (b / 2)
termination_by b
decreasing_by omega
theorem gm_zero (w a : Nat) : gm w a 0 = 0 := by rw [gm]; simp
theorem gm_step (w a b : Nat) : gm w a b = (if b % 2 = 1 then a else 0) ^^^ gm w (xt w a) (b / 2) := by
  by_cases h : b = 0
  · subst h; simp [gm_zero]
  · conv => lhs; rw [gm]
    rw [dif_neg h]
theorem gm_left (w b : Nat) : Lin (fun a => gm w a b) := by
  induction b using Nat.strongRecOn with
  | ind b ih =>
    by_cases h : b = 0
    · subst h; intro x y; simp [gm_zero]
    · have h1 := ih (b / 2) (by omega)
      intro x y
      show gm w (x ^^^ y) b = gm w x b ^^^ gm w y b
      have h2 : gm w (xt w x ^^^ xt w y) (b / 2) = gm w (xt w x) (b / 2) ^^^ gm w (xt w y) (b / 2) := h1 _ _
      rw [gm_step w (x ^^^ y), gm_step w x b, gm_step w y b, xt_lin, h2]
      split
      · rw [xor4]
      · simp
theorem gm_right (w a : Nat) : Lin (fun b => gm w a b) := by
  have : ∀ n x y, x < n → y < n → ∀ a, gm w a (x ^^^ y) = gm w a x ^^^ gm w a y := by
    intro n
    induction n with
    | zero => intro x y hx; omega
    | succ n ih =>
      intro x y hx hy a
      by_cases h : x = 0
      · subst h; simp [gm_zero]
      · by_cases h' : y = 0
        · subst h'; simp [gm_zero]
        · rw [gm_step w a (x ^^^ y), gm_step w a x, gm_step w a y]
          have e1 : (x ^^^ y) / 2 = x / 2 ^^^ y / 2 := Nat.xor_div_two
          have e2 : (x ^^^ y) % 2 = (x % 2 + y % 2) % 2 := by
            have h3 := Nat.testBit_xor x y 0
            rw [Nat.testBit_zero, Nat.testBit_zero, Nat.testBit_zero] at h3
            rcases Nat.mod_two_eq_zero_or_one x with h1 | h1 <;> rcases Nat.mod_two_eq_zero_or_one y with h2 | h2 <;> rcases Nat.mod_two_eq_zero_or_one (x ^^^ y) with h4 | h4 <;> simp [h1, h2, h4] at h3 ⊢
          rw [e1, ih (x / 2) (y / 2) (by omega) (by omega) (xt w a), xor4]
          congr 1
          rw [e2]
          rcases Nat.mod_two_eq_zero_or_one x with h1 | h1 <;> rcases Nat.mod_two_eq_zero_or_one y with h2 | h2 <;> simp [h1, h2]
  intro x y
  exact this (max x y + 1) x y (by omega) (by omega) a

/-- The product of the polynomials. -/
def clN (a b : Nat) : Nat → Nat
  | 0 => 0
  | k + 1 => clN a b k ^^^ (if b.testBit k = true then a <<< k else 0)
/-- The rest: bits from the top one on, so many. -/
def rdN (w : Nat) : Nat → Nat → Nat
  | 0, n => n
  | k + 1, n => rdN w k (n ^^^ (if n.testBit (w + k) = true then gp w <<< k else 0))
theorem clN_left (b k : Nat) : Lin (fun a => clN a b k) := by
  induction k with
  | zero => exact Lin.const0
  | succ k ih =>
    refine Lin.xor ih ?_
    intro x y
    show (if b.testBit k = true then (x ^^^ y) <<< k else 0) = _
    split
    · rename_i hb; simp only [hb, if_true]; exact Lin.shl k x y
    · rename_i hb; simp only [hb]; exact (Nat.xor_self 0).symm
theorem clN_right (a k : Nat) : Lin (fun b => clN a b k) := by
  induction k with
  | zero => exact Lin.const0
  | succ k ih => exact Lin.xor ih (Lin.bit k _)
theorem rdN_lin (w k : Nat) : Lin (rdN w k) := by
  induction k with
  | zero => exact Lin.id
  | succ k ih => exact Lin.comp (f := rdN w k) (g := fun n => n ^^^ (if n.testBit (w + k) = true then gp w <<< k else 0)) ih (Lin.xor Lin.id (Lin.bit _ _))
/-- The reference's product. -/
def rm (w a b : Nat) : Nat := rdN w (w - 1) (clN a b w)
theorem rm_left (w b : Nat) : Lin (fun a => rm w a b) := Lin.comp (f := rdN w (w - 1)) (g := fun a => clN a b w) (rdN_lin w _) (clN_left b w)
theorem rm_right (w a : Nat) : Lin (fun b => rm w a b) := Lin.comp (f := rdN w (w - 1)) (g := fun b => clN a b w) (rdN_lin w _) (clN_right a w)

theorem gm_basis8 : ∀ i < 8, ∀ j < 8, rm 8 (2 ^ i) (2 ^ j) = gm 8 (2 ^ i) (2 ^ j) := by decide +kernel
theorem gm_basis16 : ∀ i < 16, ∀ j < 16, rm 16 (2 ^ i) (2 ^ j) = gm 16 (2 ^ i) (2 ^ j) := by decide +kernel
theorem gm_basis32 : ∀ i < 32, ∀ j < 32, rm 32 (2 ^ i) (2 ^ j) = gm 32 (2 ^ i) (2 ^ j) := by decide +kernel

end Go.Proofs.Ytbobbcfjjdmdgaa
