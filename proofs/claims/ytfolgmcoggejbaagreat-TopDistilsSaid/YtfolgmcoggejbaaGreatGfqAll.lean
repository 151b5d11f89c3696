/- Plain: the fields of 8, 16 and 32 bits as numbers with exclusive or; both ways to multiply agree; a product's laws. No condition. Plain: the product of a field stays in it, is associative and commutative; a hash by Horner's steps is the sum of powers. For the widths 8, 16 and 32. Plain: bit strings as numbers, and the words of a bit string. No condition. -/
import Derived.Test.YtfolgmcoggejbaaGreatBase
namespace Go.Proofs.YtfolgmcoggejbaaGreat
set_option linter.unusedVariables false
set_option linter.unusedSimpArgs false

/-- A map that takes exclusive or to exclusive or. -/
def Lin (f : Nat → Nat) : Prop := ∀ x y, f (x ^^^ y) = f x ^^^ f y
theorem Lin.zero {f : Nat → Nat} (h : Lin f) : f 0 = 0 := by
  have := h 0 0
  rw [Nat.xor_self, Nat.xor_self] at this; exact this
theorem Lin.comp {f g : Nat → Nat} (hf : Lin f) (hg : Lin g) : Lin (fun x => f (g x)) := fun x y => by
  show f (g (x ^^^ y)) = f (g x) ^^^ f (g y)
  rw [hg, hf]
theorem xor4 (a b c d : Nat) : (a ^^^ b) ^^^ (c ^^^ d) = (a ^^^ c) ^^^ (b ^^^ d) := by
  rw [Nat.xor_assoc, Nat.xor_assoc]; congr 1; rw [← Nat.xor_assoc, Nat.xor_comm b c, Nat.xor_assoc]
theorem Lin.xor {f g : Nat → Nat} (hf : Lin f) (hg : Lin g) : Lin (fun x => f x ^^^ g x) := fun x y => by
  show f (x ^^^ y) ^^^ g (x ^^^ y) = _
  rw [hf, hg, xor4]
theorem Lin.bit (k c : Nat) : Lin (fun x => if x.testBit k = true then c else 0) := fun x y => by
  show (if (x ^^^ y).testBit k = true then c else 0) = (if x.testBit k = true then c else 0) ^^^ (if y.testBit k = true then c else 0)
  rw [Nat.testBit_xor]
  cases x.testBit k <;> cases y.testBit k <;> simp
theorem Lin.id : Lin (fun x => x) := fun _ _ => rfl
theorem Lin.shl (k : Nat) : Lin (fun x => x <<< k) := fun x y => Nat.shiftLeft_xor_distrib
theorem Lin.shr (k : Nat) : Lin (fun x => x >>> k) := fun x y => Nat.shiftRight_xor_distrib
theorem Lin.const0 : Lin (fun _ => 0) := fun _ _ => (Nat.xor_self 0).symm
/-- Maps that agree on the powers of 2 agree. -/
theorem Lin.ext {f g : Nat → Nat} (hf : Lin f) (hg : Lin g) : ∀ w, (∀ k, k < w → f (2 ^ k) = g (2 ^ k)) → ∀ x, x < 2 ^ w → f x = g x
  | 0, _, x, hx => by
    obtain rfl : x = 0 := by simpa using hx
    rw [hf.zero, hg.zero]
  | w + 1, h, x, hx => by
    rcases Nat.lt_or_ge x (2 ^ w) with h1 | h1
    · exact Lin.ext hf hg w (fun k hk => h k (by omega)) x h1
    · have h2 : x ^^^ 2 ^ w < 2 ^ w := by
        apply Nat.lt_pow_two_of_testBit
        intro i hi
        rw [Nat.testBit_xor]
        rcases Nat.lt_or_ge i (w + 1) with h3 | h3
        · obtain rfl : i = w := by omega
          have : x.testBit i = true := by
            rw [Nat.testBit_eq_decide_div_mod_eq]
            have h4 : x / 2 ^ i = 1 := by
              rw [Nat.pow_succ] at hx
              exact Nat.div_eq_of_lt_le (by omega) (by omega)
            simp [h4]
          rw [this, Nat.testBit_two_pow_self]; rfl
        · have e1 : x.testBit i = false := Nat.testBit_lt_two_pow (Nat.lt_of_lt_of_le hx (Nat.pow_le_pow_right (by decide) h3))
          have e2 : (2 ^ w).testBit i = false := Nat.testBit_lt_two_pow (Nat.pow_lt_pow_right (by decide) (by omega))
          rw [e1, e2]; rfl
      have h3 : x = (x ^^^ 2 ^ w) ^^^ 2 ^ w := by rw [Nat.xor_assoc, Nat.xor_self, Nat.xor_zero]
      rw [h3, hf, hg, Lin.ext hf hg w (fun k hk => h k (by omega)) _ h2, h w (by omega)]

/-- The polynomial of a field. -/
def gp (w : Nat) : Nat := if w = 8 then 283 else if w = 16 then 65579 else 4294967437
/-- Times x. -/
def xt (w a : Nat) : Nat := (a <<< 1) ^^^ (if a.testBit (w - 1) = true then gp w else 0)
theorem xt_lin (w : Nat) : Lin (xt w) := Lin.xor (Lin.shl 1) (Lin.bit _ _)
/-- The product: the bits of the second number, from the lowest on. -/
def gm (w a b : Nat) : Nat := if h : b = 0 then 0 else (if b % 2 = 1 then a else 0) ^^^ gm w (xt w a) (b / 2)
termination_by b
decreasing_by omega
theorem gm_zero (w a : Nat) : gm w a 0 = 0 := by rw [gm]; simp
theorem gm_step (w a b : Nat) : gm w a b = (if b % 2 = 1 then a else 0) ^^^ gm w (xt w a) (b / 2) := by
  by_cases h : b = 0
  · subst h; simp [gm_zero]
  · conv => lhs; rw [gm]
    rw [dif_neg h]
theorem gm_left (w b : Nat) : Lin (fun a => gm w a b) := by
  induction b using Nat.strongRecOn with
  | ind b ih =>
    by_cases h : b = 0
    · subst h; intro x y; simp [gm_zero]
    · have h1 := ih (b / 2) (by omega)
      intro x y
      show gm w (x ^^^ y) b = gm w x b ^^^ gm w y b
      have h2 : gm w (xt w x ^^^ xt w y) (b / 2) = gm w (xt w x) (b / 2) ^^^ gm w (xt w y) (b / 2) := h1 _ _
      rw [gm_step w (x ^^^ y), gm_step w x b, gm_step w y b, xt_lin, h2]
      split
      · rw [xor4]
      · simp
theorem gm_right (w a : Nat) : Lin (fun b => gm w a b) := by
  have : ∀ n x y, x < n → y < n → ∀ a, gm w a (x ^^^ y) = gm w a x ^^^ gm w a y := by
    intro n
    induction n with
    | zero => intro x y hx; omega
    | succ n ih =>
      intro x y hx hy a
      by_cases h : x = 0
      · subst h; simp [gm_zero]
      · by_cases h' : y = 0
        · subst h'; simp [gm_zero]
        · rw [gm_step w a (x ^^^ y), gm_step w a x, gm_step w a y]
          have e1 : (x ^^^ y) / 2 = x / 2 ^^^ y / 2 := Nat.xor_div_two
          have e2 : (x ^^^ y) % 2 = (x % 2 + y % 2) % 2 := by
            have h3 := Nat.testBit_xor x y 0
            rw [Nat.testBit_zero, Nat.testBit_zero, Nat.testBit_zero] at h3
            rcases Nat.mod_two_eq_zero_or_one x with h1 | h1 <;> rcases Nat.mod_two_eq_zero_or_one y with h2 | h2 <;> rcases Nat.mod_two_eq_zero_or_one (x ^^^ y) with h4 | h4 <;> simp [h1, h2, h4] at h3 ⊢
          rw [e1, ih (x / 2) (y / 2) (by omega) (by omega) (xt w a), xor4]
          congr 1
          rw [e2]
          rcases Nat.mod_two_eq_zero_or_one x with h1 | h1 <;> rcases Nat.mod_two_eq_zero_or_one y with h2 | h2 <;> simp [h1, h2]
  intro x y
  exact this (max x y + 1) x y (by omega) (by omega) a

/-- The product of the polynomials. -/
def clN (a b : Nat) : Nat → Nat
  | 0 => 0
  | k + 1 => clN a b k ^^^ (if b.testBit k = true then a <<< k else 0)
/-- The rest: bits from the top one on, so many. -/
def rdN (w : Nat) : Nat → Nat → Nat
  | 0, n => n
  | k + 1, n => rdN w k (n ^^^ (if n.testBit (w + k) = true then gp w <<< k else 0))
theorem clN_left (b k : Nat) : Lin (fun a => clN a b k) := by
  induction k with
  | zero => exact Lin.const0
  | succ k ih =>
    refine Lin.xor ih ?_
    intro x y
    show (if b.testBit k = true then (x ^^^ y) <<< k else 0) = _
    split
    · rename_i hb; simp only [hb, if_true]; exact Lin.shl k x y
    · rename_i hb; simp only [hb]; exact (Nat.xor_self 0).symm
theorem clN_right (a k : Nat) : Lin (fun b => clN a b k) := by
  induction k with
  | zero => exact Lin.const0
  | succ k ih => exact Lin.xor ih (Lin.bit k _)
theorem rdN_lin (w k : Nat) : Lin (rdN w k) := by
  induction k with
  | zero => exact Lin.id
  | succ k ih => exact Lin.comp (f := rdN w k) (g := fun n => n ^^^ (if n.testBit (w + k) = true then gp w <<< k else 0)) ih (Lin.xor Lin.id (Lin.bit _ _))
/-- The reference's product. -/
def rm (w a b : Nat) : Nat := rdN w (w - 1) (clN a b w)
theorem rm_left (w b : Nat) : Lin (fun a => rm w a b) := Lin.comp (f := rdN w (w - 1)) (g := fun a => clN a b w) (rdN_lin w _) (clN_left b w)
theorem rm_right (w a : Nat) : Lin (fun b => rm w a b) := Lin.comp (f := rdN w (w - 1)) (g := fun b => clN a b w) (rdN_lin w _) (clN_right a w)

theorem gm_basis8 : ∀ i < 8, ∀ j < 8, rm 8 (2 ^ i) (2 ^ j) = gm 8 (2 ^ i) (2 ^ j) := by decide +kernel
theorem gm_basis16 : ∀ i < 16, ∀ j < 16, rm 16 (2 ^ i) (2 ^ j) = gm 16 (2 ^ i) (2 ^ j) := by decide +kernel
theorem gm_basis32 : ∀ i < 32, ∀ j < 32, rm 32 (2 ^ i) (2 ^ j) = gm 32 (2 ^ i) (2 ^ j) := by decide +kernel

end Go.Proofs.YtfolgmcoggejbaaGreat

namespace Go.Proofs.YtfolgmcoggejbaaGreat
set_option linter.unusedVariables false
set_option linter.unusedSimpArgs false

def Wd (w : Nat) : Prop := w = 8 ∨ w = 16 ∨ w = 32
theorem Lin.lt {f : Nat → Nat} (hf : Lin f) (m : Nat) : ∀ w, (∀ k, k < w → f (2 ^ k) < 2 ^ m) → ∀ x, x < 2 ^ w → f x < 2 ^ m
  | 0, _, x, hx => by
    obtain rfl : x = 0 := by simpa using hx
    rw [hf.zero]; exact Nat.pow_pos (by decide)
  | w + 1, h, x, hx => by
    rcases Nat.lt_or_ge x (2 ^ w) with h1 | h1
    · exact Lin.lt hf m w (fun k hk => h k (by omega)) x h1
    · have h2 : x ^^^ 2 ^ w < 2 ^ w := by
        apply Nat.lt_pow_two_of_testBit
        intro i hi
        rw [Nat.testBit_xor]
        rcases Nat.lt_or_ge i (w + 1) with h3 | h3
        · obtain rfl : i = w := by omega
          have : x.testBit i = true := by
            rw [Nat.testBit_eq_decide_div_mod_eq]
            have h4 : x / 2 ^ i = 1 := by
              rw [Nat.pow_succ] at hx
              exact Nat.div_eq_of_lt_le (by omega) (by omega)
            simp [h4]
          rw [this, Nat.testBit_two_pow_self]; rfl
        · have e1 : x.testBit i = false := Nat.testBit_lt_two_pow (Nat.lt_of_lt_of_le hx (Nat.pow_le_pow_right (by decide) h3))
          have e2 : (2 ^ w).testBit i = false := Nat.testBit_lt_two_pow (Nat.pow_lt_pow_right (by decide) (by omega))
          rw [e1, e2]; rfl
      have h3 : x = (x ^^^ 2 ^ w) ^^^ 2 ^ w := by rw [Nat.xor_assoc, Nat.xor_self, Nat.xor_zero]
      rw [h3, hf]
      exact Nat.xor_lt_two_pow (Lin.lt hf m w (fun k hk => h k (by omega)) _ h2) (h w (by omega))
theorem xt_b8 : ∀ k < 8, xt 8 (2 ^ k) < 2 ^ 8 := by decide +kernel
theorem xt_b16 : ∀ k < 16, xt 16 (2 ^ k) < 2 ^ 16 := by decide +kernel
theorem xt_b32 : ∀ k < 32, xt 32 (2 ^ k) < 2 ^ 32 := by decide +kernel
theorem xt_lt {w a : Nat} (hw : Wd w) (ha : a < 2 ^ w) : xt w a < 2 ^ w := by
  rcases hw with rfl | rfl | rfl
  · exact (xt_lin 8).lt 8 8 xt_b8 a ha
  · exact (xt_lin 16).lt 16 16 xt_b16 a ha
  · exact (xt_lin 32).lt 32 32 xt_b32 a ha
theorem gm_lt {w : Nat} (hw : Wd w) (b : Nat) : ∀ a, a < 2 ^ w → gm w a b < 2 ^ w := by
  induction b using Nat.strongRecOn with
  | ind b ih =>
    intro a ha
    by_cases h : b = 0
    · subst h; rw [gm_zero]; exact Nat.pow_pos (by decide)
    · rw [gm_step]
      refine Nat.xor_lt_two_pow ?_ (ih (b / 2) (by omega) _ (xt_lt hw ha))
      split
      · exact ha
      · exact Nat.pow_pos (by decide)
/-- Two maps of two arguments that agree on powers of 2. -/
theorem bil_ext {f g : Nat → Nat → Nat} (f1 : ∀ b, Lin (fun a => f a b)) (f2 : ∀ a, Lin (fun b => f a b)) (g1 : ∀ b, Lin (fun a => g a b)) (g2 : ∀ a, Lin (fun b => g a b)) {w : Nat} (h : ∀ i < w, ∀ j < w, f (2 ^ i) (2 ^ j) = g (2 ^ i) (2 ^ j)) {a b : Nat} (ha : a < 2 ^ w) (hb : b < 2 ^ w) : f a b = g a b :=
  Lin.ext (f2 a) (g2 a) w (fun j hj => Lin.ext (f1 (2 ^ j)) (g1 (2 ^ j)) w (fun i hi => h i hi j hj) a ha) b hb
theorem rm_gm {w a b : Nat} (hw : Wd w) (ha : a < 2 ^ w) (hb : b < 2 ^ w) : rm w a b = gm w a b := by
  rcases hw with rfl | rfl | rfl
  · exact bil_ext (rm_left 8) (rm_right 8) (gm_left 8) (gm_right 8) gm_basis8 ha hb
  · exact bil_ext (rm_left 16) (rm_right 16) (gm_left 16) (gm_right 16) gm_basis16 ha hb
  · exact bil_ext (rm_left 32) (rm_right 32) (gm_left 32) (gm_right 32) gm_basis32 ha hb
theorem cm_b8 : ∀ i < 8, ∀ j < 8, gm 8 (2 ^ i) (2 ^ j) = gm 8 (2 ^ j) (2 ^ i) := by decide +kernel
theorem cm_b16 : ∀ i < 16, ∀ j < 16, gm 16 (2 ^ i) (2 ^ j) = gm 16 (2 ^ j) (2 ^ i) := by decide +kernel
theorem cm_b32 : ∀ i < 32, ∀ j < 32, gm 32 (2 ^ i) (2 ^ j) = gm 32 (2 ^ j) (2 ^ i) := by decide +kernel
theorem gm_comm {w a b : Nat} (hw : Wd w) (ha : a < 2 ^ w) (hb : b < 2 ^ w) : gm w a b = gm w b a := by
  rcases hw with rfl | rfl | rfl
  · exact bil_ext (f := gm 8) (g := fun a b => gm 8 b a) (gm_left 8) (gm_right 8) (gm_right 8) (gm_left 8) cm_b8 ha hb
  · exact bil_ext (f := gm 16) (g := fun a b => gm 16 b a) (gm_left 16) (gm_right 16) (gm_right 16) (gm_left 16) cm_b16 ha hb
  · exact bil_ext (f := gm 32) (g := fun a b => gm 32 b a) (gm_left 32) (gm_right 32) (gm_right 32) (gm_left 32) cm_b32 ha hb
theorem gm_xt {w : Nat} (b : Nat) : ∀ a, gm w (xt w a) b = xt w (gm w a b) := by
  induction b using Nat.strongRecOn with
  | ind b ih =>
    intro a
    by_cases h : b = 0
    · subst h; rw [gm_zero, gm_zero, (xt_lin w).zero]
    · rw [gm_step w (xt w a), gm_step w a, xt_lin, ih (b / 2) (by omega)]
      congr 1
      split
      · rfl
      · rw [(xt_lin w).zero]
theorem gm_xr {w a b : Nat} (hw : Wd w) (ha : a < 2 ^ w) (hb : b < 2 ^ w) : gm w a (xt w b) = xt w (gm w a b) := by
  rw [gm_comm hw ha (xt_lt hw hb), gm_xt, gm_comm hw hb ha]
theorem gm_assoc {w a : Nat} (hw : Wd w) (ha : a < 2 ^ w) (c : Nat) : ∀ b, b < 2 ^ w → gm w (gm w a b) c = gm w a (gm w b c) := by
  induction c using Nat.strongRecOn with
  | ind c ih =>
    intro b hb
    by_cases h : c = 0
    · subst h; rw [gm_zero, gm_zero, gm_zero]
    · rw [gm_step w (gm w a b), gm_step w b c, ← gm_xr hw ha hb, ih (c / 2) (by omega) _ (xt_lt hw hb)]
      have := gm_right w a (if c % 2 = 1 then b else 0) (gm w (xt w b) (c / 2))
      simp only at this
      rw [this]
      congr 1
      split
      · rfl
      · rw [gm_zero]

/-- The hash, by Horner's steps. -/
def horner (w key : Nat) (cs : List Nat) : Nat := cs.foldl (fun h c => gm w (h ^^^ c) key) 0
/-- Powers of the key, from the first on. -/
def kpow (w key : Nat) : Nat → Nat
  | 0 => key
  | j + 1 => gm w (kpow w key j) key
/-- The sum of the first j words from the end times powers. -/
def psum (w key : Nat) (r : List Nat) : Nat → Nat
  | 0 => 0
  | j + 1 => psum w key r j ^^^ gm w (r[j]?.getD 0) (kpow w key j)
theorem kpow_lt {w key : Nat} (hw : Wd w) (hk : key < 2 ^ w) : ∀ j, kpow w key j < 2 ^ w
  | 0 => hk
  | j + 1 => gm_lt hw _ _ (kpow_lt hw hk j)
theorem horner_snoc (w key : Nat) (cs : List Nat) (c : Nat) : horner w key (cs ++ [c]) = gm w (horner w key cs ^^^ c) key := by
  unfold horner; rw [List.foldl_append]; rfl
theorem psum_cons {w key : Nat} (hw : Wd w) (hk : key < 2 ^ w) (c : Nat) (r : List Nat) (hr : ∀ x ∈ r, x < 2 ^ w) : ∀ j, psum w key (c :: r) (j + 1) = gm w (psum w key r j ^^^ c) key
  | 0 => by simp [psum, kpow]
  | j + 1 => by
    rw [psum, psum_cons hw hk c r hr j]
    have h1 : ((c :: r)[j + 1]?).getD 0 = (r[j]?).getD 0 := by simp
    have h2 : (r[j]?).getD 0 < 2 ^ w := by
      cases h : r[j]? with
      | none => exact Nat.pow_pos (by decide)
      | some x => exact hr x (List.mem_of_getElem? h)
    rw [h1, kpow, ← gm_assoc hw h2 _ _ (kpow_lt hw hk j)]
    have e := gm_left w key
    have e1 : gm w (psum w key r j ^^^ c ^^^ gm w ((r[j]?).getD 0) (kpow w key j)) key = gm w (psum w key r j ^^^ c) key ^^^ gm w (gm w ((r[j]?).getD 0) (kpow w key j)) key := e _ _
    rw [← e1, psum]
    congr 1
    rw [Nat.xor_assoc, Nat.xor_assoc, Nat.xor_comm c]
theorem horner_psum {w key : Nat} (hw : Wd w) (hk : key < 2 ^ w) (r : List Nat) (hr : ∀ x ∈ r, x < 2 ^ w) : horner w key r.reverse = psum w key r r.length := by
  induction r with
  | nil => rfl
  | cons c r ih =>
    rw [List.reverse_cons, horner_snoc, ih (fun x hx => hr x (by simp [hx])), List.length_cons, psum_cons hw hk c r (fun x hx => hr x (by simp [hx]))]

end Go.Proofs.YtfolgmcoggejbaaGreat

namespace Go.Proofs.YtfolgmcoggejbaaGreat
set_option linter.unusedVariables false
set_option linter.unusedSimpArgs false

/-- The number of a bit string, the highest bit first. -/
def bval (l : List Bool) : Nat := l.foldl (fun n b => 2 * n + b.toNat) 0
theorem bval_snoc (l : List Bool) (b : Bool) : bval (l ++ [b]) = 2 * bval l + b.toNat := by unfold bval; rw [List.foldl_append]; rfl
theorem bval_lt (l : List Bool) : bval l < 2 ^ l.length := by
  have go : ∀ n (l : List Bool), l.length = n → bval l < 2 ^ n := by
    intro n
    induction n with
    | zero => intro l hl; obtain rfl := List.eq_nil_of_length_eq_zero hl; decide
    | succ n ih =>
      intro l hl
      rcases List.eq_nil_or_concat l with rfl | ⟨l', b, rfl⟩
      · simp at hl
      · simp only [List.concat_eq_append] at *
        have := ih l' (by simpa using hl)
        rw [bval_snoc, Nat.pow_succ]
        cases b <;> simp <;> omega
  exact go _ l rfl
theorem bval_pad (l : List Bool) (k : Nat) : bval (l ++ List.replicate k false) = bval l * 2 ^ k := by
  induction k with
  | zero => simp
  | succ k ih =>
    rw [List.replicate_succ', ← List.append_assoc, bval_snoc, ih, Nat.pow_succ]
    simp; rw [Nat.mul_comm 2, Nat.mul_assoc]
theorem bval_take {l : List Bool} {k : Nat} {b : Bool} (h : l[k]? = some b) : bval (l.take (k + 1)) = 2 * bval (l.take k) + b.toNat := by
  obtain ⟨hk, rfl⟩ := List.getElem?_eq_some_iff.1 h
  rw [List.take_succ_eq_append_getElem hk, bval_snoc]

/-- The words behind the first one. -/
def tailW (w : Nat) (m : List Bool) : List Nat := if h : 0 < w ∧ w ≤ m.length then bval (m.take w) :: tailW w (m.drop w) else [(2 * bval m + 1) * 2 ^ (w - 1 - m.length)]
termination_by m.length
decreasing_by simp; omega
def wordsL (w : Nat) (m : List Bool) : List Nat := 1 :: tailW w m
theorem tailW_more {w : Nat} {m : List Bool} (hw : 0 < w) (h : w ≤ m.length) : tailW w m = bval (m.take w) :: tailW w (m.drop w) := by rw [tailW, dif_pos ⟨hw, h⟩]
theorem tailW_last {w : Nat} {m : List Bool} (h : m.length < w) : tailW w m = [(2 * bval m + 1) * 2 ^ (w - 1 - m.length)] := by rw [tailW, dif_neg (by omega)]
theorem tailW_lt {w : Nat} (hw : 0 < w) : ∀ n (m : List Bool), m.length ≤ n → ∀ x ∈ tailW w m, x < 2 ^ w := by
  intro n
  induction n with
  | zero =>
    intro m hm x hx
    obtain rfl := List.eq_nil_of_length_eq_zero (by omega : m.length = 0)
    rw [tailW_last (by simpa using hw)] at hx
    simp [bval] at hx
    rw [hx]; exact Nat.pow_lt_pow_right (by decide) (by omega)
  | succ n ih =>
    intro m hm x hx
    rcases Nat.lt_or_ge m.length w with h | h
    · rw [tailW_last h] at hx
      simp only [List.mem_singleton] at hx
      have h1 := bval_lt m
      have h2 : 2 * bval m + 1 < 2 ^ (m.length + 1) := by rw [Nat.pow_succ]; omega
      rw [hx, show w = (m.length + 1) + (w - 1 - m.length) from by omega, Nat.pow_add, show m.length + 1 + (w - 1 - m.length) - 1 - m.length = w - 1 - m.length from by omega]
      exact Nat.mul_lt_mul_of_pos_right h2 (Nat.pow_pos (by decide))
    · rw [tailW_more hw h] at hx
      rcases List.mem_cons.1 hx with rfl | hx
      · have := bval_lt (m.take w)
        rwa [List.length_take, Nat.min_eq_left h] at this
      · exact ih (m.drop w) (by simp; omega) x hx
theorem wordsL_lt {w : Nat} (hw : 0 < w) (m : List Bool) : ∀ x ∈ wordsL w m, x < 2 ^ w := by
  intro x hx
  rcases List.mem_cons.1 hx with rfl | hx
  · exact Nat.one_lt_two_pow (by omega)
  · exact tailW_lt hw _ m (Nat.le_refl _) x hx
/-- The words of a string whose length is a multiple. -/
def chunks (w : Nat) (l : List Bool) : List Nat := if h : 0 < w ∧ w ≤ l.length then bval (l.take w) :: chunks w (l.drop w) else []
termination_by l.length
decreasing_by simp; omega
theorem chunks_more {w : Nat} {l : List Bool} (hw : 0 < w) (h : w ≤ l.length) : chunks w l = bval (l.take w) :: chunks w (l.drop w) := by rw [chunks, dif_pos ⟨hw, h⟩]
theorem chunks_nil {w : Nat} {l : List Bool} (h : l.length < w) : chunks w l = [] := by rw [chunks, dif_neg (by omega)]
theorem chunks_words {w : Nat} (hw : 0 < w) : ∀ n (m : List Bool), m.length ≤ n → ∀ z, z < w → (m.length + 1 + z) % w = 0 → chunks w (m ++ [true] ++ List.replicate z false) = tailW w m := by
  intro n
  induction n with
  | zero =>
    intro m hm z hz hmod
    obtain rfl := List.eq_nil_of_length_eq_zero (by omega : m.length = 0)
    have hz1 : 1 + z = w := by
      have := Nat.div_add_mod (0 + 1 + z) w
      simp only [List.length_nil] at hmod
      rw [hmod] at this
      have h1 : (0 + 1 + z) / w = 1 := by
        rcases Nat.lt_or_ge (0 + 1 + z) w with h | h
        · rw [Nat.mod_eq_of_lt h] at hmod; omega
        · exact Nat.div_eq_of_lt_le (by omega) (by omega)
      rw [h1] at this; omega
    rw [tailW_last (by simpa using hw), chunks_more hw (by simp; omega), chunks_nil (by simp; omega)]
    rw [List.take_of_length_le (by simp; omega), bval_pad, bval_snoc]
    simp [bval, show w - 1 = z from by omega]
  | succ n ih =>
    intro m hm z hz hmod
    rcases Nat.lt_or_ge m.length w with h | h
    · have hz1 : m.length + 1 + z = w := by
        have := Nat.div_add_mod (m.length + 1 + z) w
        rw [hmod] at this
        have h1 : (m.length + 1 + z) / w = 1 := by
          rcases Nat.lt_or_ge (m.length + 1 + z) w with h | h
          · rw [Nat.mod_eq_of_lt h] at hmod; omega
          · exact Nat.div_eq_of_lt_le (by omega) (by omega)
        rw [h1] at this; omega
      rw [tailW_last h, chunks_more hw (by simp; omega), chunks_nil (by simp; omega)]
      rw [List.take_of_length_le (by simp; omega), bval_pad, bval_snoc]
      simp [show w - 1 - m.length = z from by omega]
    · rw [tailW_more hw h, chunks_more hw (by simp; omega)]
      have e1 : (m ++ [true] ++ List.replicate z false).take w = m.take w := by rw [List.append_assoc, List.take_append_of_le_length h]
      have e2 : (m ++ [true] ++ List.replicate z false).drop w = m.drop w ++ [true] ++ List.replicate z false := by rw [List.append_assoc, List.drop_append_of_le_length h, List.append_assoc]
      rw [e1, e2, ih (m.drop w) (by simp; omega) z hz]
      rw [List.length_drop]
      have : m.length + 1 + z = (m.length - w + 1 + z) + w := by omega
      rw [this, Nat.add_mod_right] at hmod
      exact hmod

end Go.Proofs.YtfolgmcoggejbaaGreat
