/- Plain: the fields of 8 and 16 bits have no divisors of zero; a polynomial has at most as many roots as its degree; how many keys give two strings hashes that differ by a number. For the widths 8 and 16. -/
import Derived.Test.YtfolgmcoggejbaaGreatGfqAll
namespace Go.Proofs.YtfolgmcoggejbaaGreat
set_option linter.unusedVariables false
set_option linter.unusedSimpArgs false

def W2 (w : Nat) : Prop := w = 8 ∨ w = 16
theorem W2.wd {w : Nat} (h : W2 w) : Wd w := by rcases h with h | h <;> simp [Wd, h]
theorem gm_one (w a : Nat) : gm w a 1 = a := by rw [gm_step]; simp [gm_zero]
theorem gm_zl (w b : Nat) : gm w 0 b = 0 := (gm_left w b).zero
theorem gm_xl (w a b c : Nat) : gm w (a ^^^ b) c = gm w a c ^^^ gm w b c := gm_left w c a b
theorem gm_xrr (w a b c : Nat) : gm w a (b ^^^ c) = gm w a b ^^^ gm w a c := gm_right w a b c
def mapL : List Nat → Nat → Nat → Nat
  | [], _, _ => 0
  | m :: ms, j, x => (if x.testBit j = true then m else 0) ^^^ mapL ms (j + 1) x
theorem mapL_lin : ∀ (ms : List Nat) (j : Nat), Lin (mapL ms j)
  | [], _ => Lin.const0
  | m :: ms, j => Lin.xor (Lin.bit j m) (mapL_lin ms (j + 1))
def LinB (w : Nat) (f : Nat → Nat) : Prop := ∀ x y, x < 2 ^ w → y < 2 ^ w → f (x ^^^ y) = f x ^^^ f y
theorem LinB.zero {w : Nat} {f : Nat → Nat} (h : LinB w f) : f 0 = 0 := by
  have := h 0 0 (Nat.pow_pos (by decide)) (Nat.pow_pos (by decide))
  rw [Nat.xor_self, Nat.xor_self] at this; exact this
theorem Lin.b {f : Nat → Nat} (h : Lin f) (w : Nat) : LinB w f := fun x y _ _ => h x y
theorem LinB.ext {W : Nat} {f g : Nat → Nat} (hf : LinB W f) (hg : LinB W g) : ∀ w, w ≤ W → (∀ k, k < w → f (2 ^ k) = g (2 ^ k)) → ∀ x, x < 2 ^ w → f x = g x
  | 0, _, _, x, hx => by
    obtain rfl : x = 0 := by simpa using hx
    rw [hf.zero, hg.zero]
  | w + 1, hW, h, x, hx => by
    rcases Nat.lt_or_ge x (2 ^ w) with h1 | h1
    · exact LinB.ext hf hg w (by omega) (fun k hk => h k (by omega)) x h1
    · have h2 : x ^^^ 2 ^ w < 2 ^ w := by
        apply Nat.lt_pow_two_of_testBit
        intro i hi
        rw [Nat.testBit_xor]
        rcases Nat.lt_or_ge i (w + 1) with h3 | h3
        · obtain rfl : i = w := by omega
          have : x.testBit i = true := by
            rw [Nat.testBit_eq_decide_div_mod_eq]
            have h4 : x / 2 ^ i = 1 := by
              rw [Nat.pow_succ] at hx
              exact Nat.div_eq_of_lt_le (by omega) (by omega)
            simp [h4]
          rw [this, Nat.testBit_two_pow_self]; rfl
        · have e1 : x.testBit i = false := Nat.testBit_lt_two_pow (Nat.lt_of_lt_of_le hx (Nat.pow_le_pow_right (by decide) h3))
          have e2 : (2 ^ w).testBit i = false := Nat.testBit_lt_two_pow (Nat.pow_lt_pow_right (by decide) (by omega))
          rw [e1, e2]; rfl
      have h3 : x = (x ^^^ 2 ^ w) ^^^ 2 ^ w := by rw [Nat.xor_assoc, Nat.xor_self, Nat.xor_zero]
      have h4 : x ^^^ 2 ^ w < 2 ^ W := Nat.lt_of_lt_of_le h2 (Nat.pow_le_pow_right (by decide) (by omega))
      have h5 : 2 ^ w < 2 ^ W := Nat.pow_lt_pow_right (by decide) (by omega)
      rw [h3, hf _ _ h4 h5, hg _ _ h4 h5, LinB.ext hf hg w (by omega) (fun k hk => h k (by omega)) _ h2, h w (by omega)]

def sq (w a : Nat) : Nat := gm w a a
theorem sq_lt {w a : Nat} (hw : Wd w) (ha : a < 2 ^ w) : sq w a < 2 ^ w := gm_lt hw _ _ ha
theorem sq_lin {w : Nat} (hw : Wd w) : LinB w (sq w) := fun x y hx hy => by
  unfold sq
  rw [gm_xl, gm_xrr, gm_xrr, gm_comm hw hy hx]
  rw [Nat.xor_assoc, ← Nat.xor_assoc (gm w x y), Nat.xor_self, Nat.zero_xor]
def frob (w a : Nat) : Nat → Nat
  | 0 => a
  | k + 1 => sq w (frob w a k)
theorem frob_lt {w a : Nat} (hw : Wd w) (ha : a < 2 ^ w) : ∀ k, frob w a k < 2 ^ w
  | 0 => ha
  | k + 1 => sq_lt hw (frob_lt hw ha k)
theorem frob_lin {w : Nat} (hw : Wd w) : ∀ k, LinB w (fun a => frob w a k)
  | 0 => fun x y _ _ => rfl
  | k + 1 => fun x y hx hy => by
    show sq w (frob w (x ^^^ y) k) = sq w (frob w x k) ^^^ sq w (frob w y k)
    have := frob_lin hw k x y hx hy
    simp only at this
    rw [this, sq_lin hw _ _ (frob_lt hw hx k) (frob_lt hw hy k)]
theorem frob_b8 : ∀ k < 8, frob 8 (2 ^ k) 8 = 2 ^ k := by decide +kernel
theorem frob_b16 : ∀ k < 16, frob 16 (2 ^ k) 16 = 2 ^ k := by decide +kernel
theorem frob_id {w a : Nat} (hw : W2 w) (ha : a < 2 ^ w) : frob w a w = a := by
  rcases hw with rfl | rfl
  · exact LinB.ext (frob_lin (.inl rfl) 8) (Lin.id.b 8) 8 (Nat.le_refl _) frob_b8 a ha
  · exact LinB.ext (frob_lin (.inr (.inl rfl)) 16) (Lin.id.b 16) 16 (Nat.le_refl _) frob_b16 a ha
def ms8 : List Nat := [188, 42, 40, 134, 44, 222, 142, 0]
def ms16 : List Nat := [1842, 29368, 29370, 32406, 29374, 30898, 32414, 36026, 29358, 64036, 30866, 22674, 32478, 48838, 35898, 0]
def clr (x : Nat) : Nat := (if x.testBit 0 = true then 1 else 0) ^^^ x
theorem clr_lin : Lin clr := Lin.xor (Lin.bit 0 1) Lin.id
theorem idem_b8 : ∀ k < 8, mapL ms8 0 (sq 8 (2 ^ k) ^^^ 2 ^ k) = clr (2 ^ k) := by decide +kernel
theorem idem_b16 : ∀ k < 16, mapL ms16 0 (sq 16 (2 ^ k) ^^^ 2 ^ k) = clr (2 ^ k) := by decide +kernel
theorem idem_lin {w : Nat} (hw : Wd w) (ms : List Nat) : LinB w (fun x => mapL ms 0 (sq w x ^^^ x)) := fun x y hx hy => by
  show mapL ms 0 (sq w (x ^^^ y) ^^^ (x ^^^ y)) = _
  rw [sq_lin hw x y hx hy, xor4, mapL_lin ms 0]
theorem clr_zero {e : Nat} (h : clr e = 0) : e = 0 ∨ e = 1 := by
  unfold clr at h
  have h2 := congrArg (fun z => z ^^^ e) h
  simp only [Nat.xor_assoc, Nat.xor_self, Nat.xor_zero, Nat.zero_xor] at h2
  rw [← h2]
  split
  · exact .inr rfl
  · exact .inl rfl
theorem idem {w e : Nat} (hw : W2 w) (he : e < 2 ^ w) (h : gm w e e = e) : e = 0 ∨ e = 1 := by
  apply clr_zero
  rcases hw with rfl | rfl
  · rw [← LinB.ext (idem_lin (w := 8) (.inl rfl) ms8) (clr_lin.b 8) 8 (Nat.le_refl _) idem_b8 e he]
    show mapL ms8 0 (gm 8 e e ^^^ e) = 0
    rw [h, Nat.xor_self, (mapL_lin ms8 0).zero]
  · rw [← LinB.ext (idem_lin (w := 16) (.inr (.inl rfl)) ms16) (clr_lin.b 16) 16 (Nat.le_refl _) idem_b16 e he]
    show mapL ms16 0 (gm 16 e e ^^^ e) = 0
    rw [h, Nat.xor_self, (mapL_lin ms16 0).zero]

def prodF (w a : Nat) : Nat → Nat
  | 0 => 1
  | k + 1 => gm w (prodF w a k) (frob w a k)
theorem one_lt {w : Nat} (hw : Wd w) : 1 < 2 ^ w := Nat.one_lt_two_pow (by rcases hw with h | h | h <;> omega)
theorem prodF_lt {w a : Nat} (hw : Wd w) : ∀ k, prodF w a k < 2 ^ w
  | 0 => one_lt hw
  | k + 1 => gm_lt hw _ _ (prodF_lt hw k)
theorem prodF_mul {w a : Nat} (hw : Wd w) (ha : a < 2 ^ w) : ∀ k, gm w (prodF w a k) a = frob w a k
  | 0 => by rw [prodF, gm_comm hw (one_lt hw) ha, gm_one]; rfl
  | k + 1 => by
    have hf := frob_lt hw ha k
    rw [prodF, gm_assoc hw (prodF_lt hw k) _ _ hf, gm_comm hw hf ha, ← gm_assoc hw (prodF_lt hw k) _ _ ha, prodF_mul hw ha k]; rfl
theorem prodF_fac {w a : Nat} (hw : Wd w) (ha : a < 2 ^ w) : ∀ k, ∃ F, F < 2 ^ w ∧ prodF w a (k + 1) = gm w a F
  | 0 => ⟨1, one_lt hw, by rw [prodF, prodF, gm_comm hw (one_lt hw) (frob_lt hw ha 0)]; rfl⟩
  | k + 1 => by
    obtain ⟨F, hF, he⟩ := prodF_fac hw ha k
    exact ⟨gm w F (frob w a (k + 1)), gm_lt hw _ _ hF, by rw [prodF, he, gm_assoc hw ha _ _ hF]⟩
/-- No divisors of zero. -/
theorem gm_dom {w a b : Nat} (hw : W2 w) (ha : a < 2 ^ w) (hb : b < 2 ^ w) (h : gm w a b = 0) : a = 0 ∨ b = 0 := by
  have hd := hw.wd
  obtain ⟨k, rfl⟩ : ∃ k, w = k + 1 := ⟨w - 1, by rcases hw with h | h <;> omega⟩
  obtain ⟨F, hF, he⟩ := prodF_fac hd ha k
  have hm := prodF_mul hd ha (k + 1)
  rw [frob_id hw ha] at hm
  generalize hE : prodF (k + 1) a (k + 1) = E at *
  have hEl : E < 2 ^ (k + 1) := by rw [← hE]; exact prodF_lt hd _
  have hid : gm (k + 1) E E = E := by
    have e2 : gm (k + 1) E (gm (k + 1) a F) = gm (k + 1) a F := by rw [← gm_assoc hd hEl _ _ ha, hm]
    rw [← he] at e2; exact e2
  rcases idem hw hEl hid with h0 | h1
  · left; rw [← hm, h0, gm_zl]
  · right
    have e1 : gm (k + 1) b E = 0 := by
      rw [he, ← gm_assoc hd hb _ _ ha, gm_comm hd hb ha, h, gm_zl]
    rw [h1] at e1
    rw [gm_one] at e1; exact e1

/-- The value of a polynomial, the highest coefficient first, behind h. -/
def evF (w k : Nat) (h : Nat) (cs : List Nat) : Nat := cs.foldl (fun h c => gm w h k ^^^ c) h
theorem evF_cons (w k h c : Nat) (cs : List Nat) : evF w k h (c :: cs) = evF w k (gm w h k ^^^ c) cs := rfl
theorem evF_zero (w k : Nat) (cs : List Nat) : evF w k 0 (0 :: cs) = evF w k 0 cs := by rw [evF_cons, gm_zl, Nat.xor_zero]
def quo (w r : Nat) : Nat → List Nat → List Nat
  | _, [] => []
  | R, c :: cs => R :: quo w r (gm w R r ^^^ c) cs
theorem quo_len (w r : Nat) : ∀ (cs : List Nat) (R : Nat), (quo w r R cs).length = cs.length
  | [], _ => rfl
  | c :: cs, R => by simp [quo, quo_len w r cs]
theorem quo_lt {w r : Nat} (hw : Wd w) : ∀ (cs : List Nat) (R : Nat), R < 2 ^ w → (∀ c ∈ cs, c < 2 ^ w) → ∀ x ∈ quo w r R cs, x < 2 ^ w
  | [], _, _, _, x, hx => by simp [quo] at hx
  | c :: cs, R, hR, hc, x, hx => by
    rcases List.mem_cons.1 hx with rfl | hx
    · exact hR
    · exact quo_lt hw cs _ (Nat.xor_lt_two_pow (gm_lt hw _ _ hR) (hc c (by simp))) (fun y hy => hc y (by simp [hy])) x hx
theorem evF_quo {w s r : Nat} (hw : Wd w) (hs : s < 2 ^ w) (hr : r < 2 ^ w) : ∀ (cs : List Nat) (T S R : Nat), T < 2 ^ w → S < 2 ^ w → R < 2 ^ w → (∀ c ∈ cs, c < 2 ^ w) → S ^^^ R = gm w T (s ^^^ r) →
    evF w s S cs ^^^ evF w r R cs = gm w (evF w s T (quo w r R cs)) (s ^^^ r)
  | [], T, S, R, _, _, _, _, h => h
  | c :: cs, T, S, R, hT, hS, hR, hc, h => by
    have hsr := Nat.xor_lt_two_pow hs hr
    rw [evF_cons, evF_cons, quo, evF_cons]
    refine evF_quo hw hs hr cs _ _ _ (Nat.xor_lt_two_pow (gm_lt hw _ _ hT) hR) (Nat.xor_lt_two_pow (gm_lt hw _ _ hS) (hc c (by simp))) (Nat.xor_lt_two_pow (gm_lt hw _ _ hR) (hc c (by simp))) (fun y hy => hc y (by simp [hy])) ?_
    rw [xor4, Nat.xor_self, Nat.xor_zero, gm_xl, gm_assoc hw hT _ _ hs, gm_comm hw hs hsr, ← gm_assoc hw hT _ _ hsr, ← h, gm_xl, gm_xrr]
    rw [Nat.xor_assoc, ← Nat.xor_assoc (gm w R s), Nat.xor_self, Nat.zero_xor]
theorem roots_le {w : Nat} (hw : W2 w) : ∀ (n : Nat) (cs : List Nat), cs.length = n + 1 → (∀ c ∈ cs, c < 2 ^ w) → (∃ c ∈ cs, c ≠ 0) → ∀ rs : List Nat, rs.Nodup → (∀ r ∈ rs, r < 2 ^ w ∧ evF w r 0 cs = 0) → rs.length ≤ n := by
  have hd := hw.wd
  have z0 : 0 < 2 ^ w := Nat.pow_pos (by decide)
  intro n
  induction n with
  | zero =>
    intro cs hl hc hne rs hn hr
    match cs, hl with
    | [c], _ =>
      cases rs with
      | nil => simp
      | cons r rs =>
        obtain ⟨_, h⟩ := hr r (by simp)
        obtain ⟨c', hc', hne'⟩ := hne
        simp only [List.mem_singleton] at hc'
        subst hc'
        rw [evF_cons, gm_zl, Nat.zero_xor] at h
        exact (hne' h).elim
  | succ n ih =>
    intro cs hl hc hne rs hn hr
    match cs, hl with
    | c0 :: rest, hl =>
      have hl' : rest.length = n + 1 := by simpa using hl
      by_cases h0 : c0 = 0
      · subst h0
        have := ih rest hl' (fun c h => hc c (by simp [h])) (by
          obtain ⟨c, hm, hn⟩ := hne
          rcases List.mem_cons.1 hm with rfl | hm
          · exact (hn rfl).elim
          · exact ⟨c, hm, hn⟩) rs hn (fun r h => ⟨(hr r h).1, by rw [← evF_zero]; exact (hr r h).2⟩)
        omega
      · cases rs with
        | nil => simp
        | cons r rs =>
          obtain ⟨hrl, hr0⟩ := hr r (by simp)
          have hc0 := hc c0 (by simp)
          have hq0 : ∃ c ∈ quo w r c0 rest, c ≠ 0 := by
            match rest, hl' with
            | c1 :: rest, _ => exact ⟨c0, by simp [quo], h0⟩
          have := ih (quo w r c0 rest) (by rw [quo_len]; exact hl') (quo_lt hd rest c0 hc0 (fun c h => hc c (by simp [h]))) hq0 rs (List.nodup_cons.1 hn).2 (fun s hs => by
            obtain ⟨hsl, hs0⟩ := hr s (by simp [hs])
            refine ⟨hsl, ?_⟩
            have hq := evF_quo hd hsl hrl (c0 :: rest) 0 0 0 z0 z0 z0 hc (by rw [gm_zl]; rfl)
            rw [hs0, hr0, quo, evF_zero, gm_zl, Nat.zero_xor, Nat.zero_xor] at hq
            have hev : evF w s 0 (quo w r c0 rest) < 2 ^ w := by
              have : ∀ (l : List Nat) (h : Nat), h < 2 ^ w → (∀ x ∈ l, x < 2 ^ w) → evF w s h l < 2 ^ w := by
                intro l
                induction l with
                | nil => intro h hh _; exact hh
                | cons x l ih2 => intro h hh hx; exact ih2 _ (Nat.xor_lt_two_pow (gm_lt hd _ _ hh) (hx x (by simp))) (fun y hy => hx y (by simp [hy]))
              exact this _ 0 z0 (quo_lt hd rest c0 hc0 (fun c h => hc c (by simp [h])))
            rcases gm_dom hw hev (Nat.xor_lt_two_pow hsl hrl) hq.symm with h | h
            · exact h
            · exfalso
              have : s = r := by
                have := congrArg (fun z => z ^^^ r) h
                simpa [Nat.xor_assoc] using this
              subst this
              exact (List.nodup_cons.1 hn).1 hs)
          simp; omega

/-! The hash as a polynomial. -/
theorem evF_snoc (w k h c : Nat) (cs : List Nat) : evF w k h (cs ++ [c]) = gm w (evF w k h cs) k ^^^ c := by unfold evF; rw [List.foldl_append]; rfl
theorem horner_ev (w key : Nat) (cs : List Nat) : horner w key cs = gm w (evF w key 0 cs) key := by
  have go : ∀ n (cs : List Nat), cs.length = n → horner w key cs = gm w (evF w key 0 cs) key := by
    intro n
    induction n with
    | zero => intro cs h; obtain rfl := List.eq_nil_of_length_eq_zero h; show 0 = gm w 0 key; rw [gm_zl]
    | succ n ih =>
      intro cs h
      rcases List.eq_nil_or_concat cs with rfl | ⟨l, c, rfl⟩
      · simp at h
      · simp only [List.concat_eq_append] at *
        rw [horner_snoc, evF_snoc, ih l (by simpa using h)]
  exact go _ cs rfl
theorem evF_pad (w k : Nat) (cs : List Nat) : ∀ z, evF w k 0 (List.replicate z 0 ++ cs) = evF w k 0 cs
  | 0 => by simp
  | z + 1 => by rw [List.replicate_succ, List.cons_append, evF_zero, evF_pad w k cs z]
theorem evF_zip (w k : Nat) : ∀ (as bs : List Nat) (h g : Nat), as.length = bs.length → evF w k (h ^^^ g) (as.zipWith (· ^^^ ·) bs) = evF w k h as ^^^ evF w k g bs
  | [], [], _, _, _ => rfl
  | a :: as, b :: bs, h, g, hl => by
    rw [List.zipWith_cons_cons, evF_cons, evF_cons, evF_cons, gm_xl, xor4]
    exact evF_zip w k as bs _ _ (by simpa using hl)
  | [], _ :: _, _, _, hl => by simp at hl
  | _ :: _, [], _, _, hl => by simp at hl
theorem zip_zero : ∀ (as bs : List Nat), as.length = bs.length → (∀ c ∈ as.zipWith (· ^^^ ·) bs, c = 0) → as = bs
  | [], [], _, _ => rfl
  | a :: as, b :: bs, hl, h => by
    have h1 := h (a ^^^ b) (by simp)
    have e : a = b := by
      have := congrArg (fun z => z ^^^ b) h1
      simpa [Nat.xor_assoc] using this
    rw [e, zip_zero as bs (by simpa using hl) (fun c hc => h c (by simp [hc]))]
  | [], _ :: _, hl, _ => by simp at hl
  | _ :: _, [], hl, _ => by simp at hl
def padTo (n : Nat) (cs : List Nat) : List Nat := List.replicate (n - cs.length) 0 ++ cs
theorem padTo_len {n : Nat} {cs : List Nat} (h : cs.length ≤ n) : (padTo n cs).length = n := by simp [padTo]; omega
/-- The polynomial of the difference of two hashes by a number. -/
def difP (as bs : List Nat) (by_ : Nat) : List Nat := (padTo (max as.length bs.length) as).zipWith (· ^^^ ·) (padTo (max as.length bs.length) bs) ++ [by_]
theorem difP_len (as bs : List Nat) (by_ : Nat) : (difP as bs by_).length = max as.length bs.length + 1 := by
  unfold difP
  rw [List.length_append, List.length_zipWith, padTo_len (by omega), padTo_len (by omega)]; simp
theorem difP_ev (w k : Nat) (as bs : List Nat) (by_ : Nat) : evF w k 0 (difP as bs by_) = horner w k as ^^^ horner w k bs ^^^ by_ := by
  unfold difP
  have e := evF_zip w k (padTo (max as.length bs.length) as) (padTo (max as.length bs.length) bs) 0 0 (by rw [padTo_len (by omega), padTo_len (by omega)])
  rw [Nat.xor_self] at e
  rw [evF_snoc, e, padTo, padTo, evF_pad, evF_pad, gm_xl, ← horner_ev, ← horner_ev]
theorem difP_ne {as bs : List Nat} {by_ : Nat} (h : 1 :: as ≠ 1 :: bs ∨ by_ ≠ 0) : ∃ c ∈ difP (1 :: as) (1 :: bs) by_, c ≠ 0 := by
  by_cases h0 : by_ = 0
  · by_cases hall : ∀ c ∈ difP (1 :: as) (1 :: bs) by_, c = 0
    · exfalso
      have hne : 1 :: as ≠ 1 :: bs := by rcases h with h | h; exact h; exact (h h0).elim
      have he := zip_zero _ _ (by rw [padTo_len (by omega), padTo_len (by omega)]) (fun c hc => hall c (List.mem_append_left _ hc))
      unfold padTo at he
      rcases Nat.lt_trichotomy as.length bs.length with hl | hl | hl
      · rw [show max (1 :: as).length (1 :: bs).length - (1 :: bs).length = 0 from by simp; omega, show max (1 :: as).length (1 :: bs).length - (1 :: as).length = (bs.length - as.length - 1) + 1 from by simp; omega, List.replicate_succ] at he
        simp at he
      · rw [show max (1 :: as).length (1 :: bs).length - (1 :: bs).length = 0 from by simp; omega, show max (1 :: as).length (1 :: bs).length - (1 :: as).length = 0 from by simp; omega] at he
        exact hne (by simpa using he)
      · rw [show max (1 :: as).length (1 :: bs).length - (1 :: as).length = 0 from by simp; omega, show max (1 :: as).length (1 :: bs).length - (1 :: bs).length = (as.length - bs.length - 1) + 1 from by simp; omega, List.replicate_succ] at he
        simp at he
    · simp only [Classical.not_forall] at hall
      obtain ⟨c, hc, hn⟩ := hall
      exact ⟨c, hc, hn⟩
  · exact ⟨by_, by simp [difP], h0⟩

/-- How many numbers below n meet a test. -/
def cntTo (p : Nat → Bool) : Nat → Nat
  | 0 => 0
  | n + 1 => cntTo p n + (if p n = true then 1 else 0)
theorem cntTo_len (p : Nat → Bool) : ∀ n, cntTo p n = ((List.range n).filter p).length
  | 0 => rfl
  | n + 1 => by
    rw [cntTo, cntTo_len p n, List.range_succ, List.filter_append, List.length_append]
    congr 1
    by_cases h : p n = true <;> simp [h]
theorem cntTo_le (p : Nat → Bool) : ∀ n, cntTo p n ≤ n
  | 0 => Nat.le_refl _
  | n + 1 => by
    have := cntTo_le p n
    rw [cntTo]; split <;> omega
theorem cntTo_all {p : Nat → Bool} (h : ∀ k, p k = true) : ∀ n, cntTo p n = n
  | 0 => rfl
  | n + 1 => by rw [cntTo, cntTo_all h n, h n]; rfl

/-- The number of keys with which two strings' hashes differ by a number. -/
def keyP (w : Nat) (a b : List Bool) (by_ : Nat) (k : Nat) : Bool := decide (horner w k (wordsL w a) ^^^ horner w k (wordsL w b) = by_)
def keyN (w : Nat) (a b : List Bool) (by_ : Nat) : Nat := cntTo (keyP w a b by_) (2 ^ w)

theorem bval_inj : ∀ n (a b : List Bool), a.length = n → b.length = n → bval a = bval b → a = b := by
  intro n
  induction n with
  | zero => intro a b ha hb _; rw [List.eq_nil_of_length_eq_zero ha, List.eq_nil_of_length_eq_zero hb]
  | succ n ih =>
    intro a b ha hb h
    rcases List.eq_nil_or_concat a with rfl | ⟨l, x, rfl⟩
    · simp at ha
    · rcases List.eq_nil_or_concat b with rfl | ⟨m, y, rfl⟩
      · simp at hb
      · simp only [List.concat_eq_append] at *
        rw [bval_snoc, bval_snoc] at h
        have e : x = y := by cases x <;> cases y <;> simp at h ⊢ <;> omega
        subst e
        rw [ih l m (by simpa using ha) (by simpa using hb) (by omega)]
theorem odd_pow {x y i j : Nat} (h : (2 * x + 1) * 2 ^ i = (2 * y + 1) * 2 ^ j) : i = j ∧ x = y := by
  have go : ∀ d i, (2 * x + 1) * 2 ^ (i + d) = (2 * y + 1) * 2 ^ i → d = 0 := by
    intro d i h
    rw [Nat.add_comm i d, Nat.pow_add, ← Nat.mul_assoc] at h
    have := Nat.eq_of_mul_eq_mul_right (Nat.pow_pos (by decide)) h
    cases d with
    | zero => rfl
    | succ d => rw [Nat.pow_succ, ← Nat.mul_assoc] at this; omega
  have go2 : ∀ d i, (2 * y + 1) * 2 ^ (i + d) = (2 * x + 1) * 2 ^ i → d = 0 := by
    intro d i h
    rw [Nat.add_comm i d, Nat.pow_add, ← Nat.mul_assoc] at h
    have := Nat.eq_of_mul_eq_mul_right (Nat.pow_pos (by decide)) h
    cases d with
    | zero => rfl
    | succ d => rw [Nat.pow_succ, ← Nat.mul_assoc] at this; omega
  have e : i = j := by
    rcases Nat.le_total j i with hl | hl
    · have := go (i - j) j (by rw [show j + (i - j) = i from by omega]; exact h); omega
    · have := go2 (j - i) i (by rw [show i + (j - i) = j from by omega]; exact h.symm); omega
  subst e
  exact ⟨rfl, by have := Nat.eq_of_mul_eq_mul_right (Nat.pow_pos (by decide)) h; omega⟩
theorem tailW_length {w : Nat} (hw : 0 < w) : ∀ n (m : List Bool), m.length ≤ n → (tailW w m).length = m.length / w + 1 := by
  intro n
  induction n with
  | zero => intro m hm; rw [tailW_last (by omega), show m.length = 0 from by omega]; simp
  | succ n ih =>
    intro m hm
    rcases Nat.lt_or_ge m.length w with h | h
    · rw [tailW_last h, Nat.div_eq_of_lt h]; rfl
    · rw [tailW_more hw h, List.length_cons, ih (m.drop w) (by simp; omega), List.length_drop]
      rw [Nat.div_eq_sub_div hw h]
theorem wordsL_length {w : Nat} (hw : 0 < w) (m : List Bool) : (wordsL w m).length = m.length / w + 2 := by
  unfold wordsL; rw [List.length_cons, tailW_length hw _ m (Nat.le_refl _)]
theorem tailW_inj {w : Nat} (hw : 0 < w) : ∀ n (a b : List Bool), a.length ≤ n → tailW w a = tailW w b → a = b := by
  intro n
  induction n with
  | zero =>
    intro a b ha h
    have hl := congrArg List.length h
    rw [tailW_length hw _ a (Nat.le_refl _), tailW_length hw _ b (Nat.le_refl _)] at hl
    have ha0 : a.length < w := by omega
    have hb0 : b.length < w := by
      rw [Nat.div_eq_of_lt ha0] at hl
      rcases Nat.lt_or_ge b.length w with h | h
      · exact h
      · have := Nat.div_pos h hw; omega
    rw [tailW_last ha0, tailW_last hb0] at h
    obtain ⟨h1, h2⟩ := odd_pow (List.cons.inj h).1
    exact bval_inj a.length a b rfl (by omega) h2
  | succ n ih =>
    intro a b ha h
    have hl := congrArg List.length h
    rw [tailW_length hw _ a (Nat.le_refl _), tailW_length hw _ b (Nat.le_refl _)] at hl
    rcases Nat.lt_or_ge a.length w with ha0 | ha0
    · have hb0 : b.length < w := by
        rw [Nat.div_eq_of_lt ha0] at hl
        rcases Nat.lt_or_ge b.length w with h | h
        · exact h
        · have := Nat.div_pos h hw; omega
      rw [tailW_last ha0, tailW_last hb0] at h
      obtain ⟨h1, h2⟩ := odd_pow (List.cons.inj h).1
      exact bval_inj a.length a b rfl (by omega) h2
    · have hb0 : w ≤ b.length := by
        rcases Nat.lt_or_ge b.length w with h | h
        · rw [Nat.div_eq_of_lt h] at hl
          have := Nat.div_pos ha0 hw; omega
        · exact h
      rw [tailW_more hw ha0, tailW_more hw hb0] at h
      obtain ⟨h1, h2⟩ := List.cons.inj h
      have e1 := bval_inj w _ _ (by simp; omega) (by simp; omega) h1
      have e2 := ih (a.drop w) (b.drop w) (by simp; omega) h2
      rw [← List.take_append_drop w a, ← List.take_append_drop w b, e1, e2]
theorem keyN_le {w : Nat} (hw : W2 w) (a b : List Bool) (by_ : Nat) (hb : by_ < 2 ^ w) (h : a ≠ b ∨ by_ ≠ 0) : keyN w a b by_ ≤ max a.length b.length / w + 2 := by
  have w0 : 0 < w := by rcases hw with h | h <;> omega
  have hn : max (wordsL w a).length (wordsL w b).length = max a.length b.length / w + 2 := by
    rw [wordsL_length w0, wordsL_length w0]
    rcases Nat.le_total a.length b.length with hl | hl
    · have := Nat.div_le_div_right (c := w) hl
      rw [Nat.max_eq_right hl, Nat.max_eq_right (by omega)]
    · have := Nat.div_le_div_right (c := w) hl
      rw [Nat.max_eq_left hl, Nat.max_eq_left (by omega)]
  rw [← hn]
  unfold keyN
  rw [cntTo_len]
  have lt1 := wordsL_lt w0 a
  have lt2 := wordsL_lt w0 b
  refine roots_le hw _ (difP (wordsL w a) (wordsL w b) by_) (difP_len _ _ _) ?_ (difP_ne ?_) _ (List.nodup_range.filter _) ?_
  · intro c hc
    unfold difP at hc
    rcases List.mem_append.1 hc with hc | hc
    · obtain ⟨i, hi⟩ := List.getElem?_of_mem hc
      have pl : ∀ (n : Nat) (cs : List Nat), (∀ x ∈ cs, x < 2 ^ w) → ∀ x ∈ padTo n cs, x < 2 ^ w := by
        intro n cs h x hx
        unfold padTo at hx
        rcases List.mem_append.1 hx with hx | hx
        · rw [(List.mem_replicate.1 hx).2]; exact Nat.pow_pos (by decide)
        · exact h x hx
      rw [List.getElem?_zipWith] at hi
      split at hi
      · rename_i x y hx hy
        simp only [Option.some.injEq] at hi
        rw [← hi]
        exact Nat.xor_lt_two_pow (pl _ _ lt1 x (List.mem_of_getElem? hx)) (pl _ _ lt2 y (List.mem_of_getElem? hy))
      · cases hi
    · rw [List.mem_singleton.1 hc]; exact hb
  · rcases h with h | h
    · left; intro he; exact h (tailW_inj w0 _ a b (Nat.le_refl _) (List.cons.inj he).2)
    · exact .inr h
  · intro r hr
    obtain ⟨h1, h2⟩ := List.mem_filter.1 hr
    refine ⟨by simpa using h1, ?_⟩
    rw [difP_ev]
    unfold keyP at h2
    rw [of_decide_eq_true h2, Nat.xor_self]
theorem keyN_all {w : Nat} (a : List Bool) : keyN w a a 0 = 2 ^ w := cntTo_all (fun k => by unfold keyP; simp) _

end Go.Proofs.YtfolgmcoggejbaaGreat
