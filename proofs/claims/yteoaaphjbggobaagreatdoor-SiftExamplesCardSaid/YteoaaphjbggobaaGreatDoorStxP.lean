/- Plain: the text of announcements, and what the two ways to read a text make of it. No condition. -/
import Derived.Test.YteoaaphjbggobaaGreatDoorRiseP
import Derived.Lib.ItoaLen
import Derived.Lib.ItoaMem
import Derived.Lib.IndexMore
import Derived.Lib.IndexBytes
import Derived.Lib.AtoiAll
import Derived.Lib.AtoiAllCases
namespace Go.Proofs.YteoaaphjbggobaaGreatDoor
open Go.RowKit
set_option linter.unusedVariables false
set_option linter.unusedSimpArgs false

theorem idx_app (c : UInt8) : ∀ (a b : List UInt8), (∀ x ∈ a, x ≠ c) → Lib.indexByte (a ++ c :: b) c = (a.length : Int)
  | [], b, _ => by simp [Lib.indexByte]
  | x :: a, b, h => by
    have hx : (x == c) = false := by simpa using h x (by simp)
    have ih := idx_app c a b (fun y hy => h y (by simp [hy]))
    rw [List.cons_append, Lib.indexByte, ih, hx]
    have : ((a.length : Int) == -1) = false := by simp
    rw [this]; simp
theorem cut_app {c : UInt8} {a b : List UInt8} (h : ∀ x ∈ a, x ≠ c) : Lib.cut (a ++ c :: b) [c] = (a, b, true) := by
  unfold Lib.cut
  rw [Lib.index_one, idx_app c a b h, if_pos (by omega)]
  simp
theorem cut_len {c : UInt8} {r : List UInt8} (h : r ≠ []) : (Lib.cut r [c]).2.1.length < r.length := by
  have hr : 0 < r.length := List.length_pos_iff.2 h
  unfold Lib.cut
  split
  · simp; omega
  · simpa using hr
theorem cut_le1 (c : UInt8) (r : List UInt8) : (Lib.cut r [c]).1.length ≤ r.length := by
  unfold Lib.cut; split <;> simp <;> omega
theorem cut_le2 (c : UInt8) (r : List UInt8) : (Lib.cut r [c]).2.1.length ≤ r.length := by
  unfold Lib.cut; split <;> simp <;> omega
theorem dec_step {n : Nat} (h : ¬ n < 10) : Lib.decDigits n = Lib.decDigits (n / 10) ++ Lib.decDigits (n % 10) := by
  conv => lhs; rw [Lib.decDigits]
  rw [dif_neg h, Lib.decDigits_one (i := n % 10) (by omega)]
theorem dec_len {n : Nat} (h : n ≤ 65536) : (Lib.decDigits n).length ≤ 21 := by
  have := Lib.itoa_length_le (n : Int) (by omega) (by omega)
  rwa [Lib.itoa_nonneg] at this
theorem dec_digit : ∀ (n : Nat), ∀ x ∈ Lib.decDigits n, 48 ≤ x.toNat ∧ x.toNat ≤ 57 := by
  intro n
  induction n using Nat.strongRecOn with
  | _ n ih =>
    by_cases h : n < 10
    · rw [Lib.decDigits_one h]
      intro x hx
      have : x = UInt8.ofNat (48 + n) := by simpa using hx
      subst this
      have : (UInt8.ofNat (48 + n)).toNat = 48 + n := by simp; omega
      omega
    · rw [dec_step h]
      intro x hx
      rcases List.mem_append.1 hx with hx | hx
      · exact ih _ (by omega) x hx
      · exact ih _ (by omega) x hx
theorem dec_ne : ∀ (n : Nat), Lib.decDigits n ≠ [] := by
  intro n
  by_cases h : n < 10
  · rw [Lib.decDigits_one h]; simp
  · rw [dec_step h]
    intro h2
    have := (List.append_eq_nil_iff.1 h2).2
    rw [Lib.decDigits_one (by omega)] at this
    simp at this
theorem parse_app : ∀ (a b : List UInt8) (acc v : Nat), Lib.parseUint10 acc a = .ok v → Lib.parseUint10 acc (a ++ b) = Lib.parseUint10 v b
  | [], b, acc, v, h => by
    simp only [Lib.parseUint10] at h
    injection h with h
    rw [h]; rfl
  | c :: a, b, acc, v, h => by
    simp only [List.cons_append, Lib.parseUint10] at h ⊢
    split at h
    · split at h
      · cases h
      · split at h
        · cases h
        · rename_i h1 h2 h3
          rw [if_pos h1, if_neg h2, if_neg h3]
          exact parse_app a b _ v h
    · cases h
theorem parse_dec : ∀ (n : Nat), n ≤ 1000000 → Lib.parseUint10 0 (Lib.decDigits n) = .ok n := by
  intro n
  induction n using Nat.strongRecOn with
  | _ n ih =>
    intro hn
    have one : ∀ acc d, d < 10 → acc ≤ 1000000 → Lib.parseUint10 acc (Lib.decDigits d) = .ok (acc * 10 + d) := by
      intro acc d hd ha
      rw [Lib.decDigits_one hd]
      have e : (UInt8.ofNat (48 + d)).toNat = 48 + d := by simp; omega
      simp only [Lib.parseUint10]
      rw [e, if_pos (by omega), if_neg (by omega), if_neg (by omega)]
      congr 1; omega
    by_cases h : n < 10
    · rw [one 0 n h (by omega)]; simp
    · rw [dec_step h, parse_app _ _ _ _ (ih (n / 10) (by omega) (by omega)), one _ _ (by omega) (by omega)]
      congr 1; omega
theorem atoi_dec {n : Nat} (hn : n ≤ 65536) : Lib.atoiAll (Lib.decDigits n) = .ok (n : Int) := by
  have hd := dec_digit n
  have hp := parse_dec n (by omega)
  have hne := dec_ne n
  cases hc : Lib.decDigits n with
  | nil => exact (hne hc).elim
  | cons c r =>
    rw [hc] at hd hp
    have h1 := hd c (by simp)
    rw [Lib.atoiAll_plain c r (by omega) (by omega)]
    have : Lib.parseMag (c :: r) = .ok n := by unfold Lib.parseMag; rw [if_neg (by simp)]; exact hp
    rw [this]
    simp only [Lib.signless]
    rw [if_neg (by omega)]

/-- The error of announcements that shall have a text. -/
def hdE (l : List Hrd) : Int := if 4096 < l.length then 5 else heardE l 0 4095
def lineH (x : Hrd) : List UInt8 := Lib.itoa x.slot ++ [32] ++ Lib.itoa x.basis ++ [10]
def textH (l : List Hrd) : List UInt8 := l.flatMap lineH
theorem hdE_zero {l : List Hrd} : hdE l = 0 ↔ l.length ≤ 4096 ∧ heardE l 0 4095 = 0 := by
  unfold hdE
  split
  · constructor
    · intro h; cases h
    · rintro ⟨h, _⟩; omega
  · constructor
    · intro h; exact ⟨by omega, h⟩
    · rintro ⟨_, h⟩; exact h
def GoodH (l : List Hrd) : Prop := ∀ x ∈ l, 0 ≤ x.slot ∧ x.slot ≤ 4095 ∧ 0 ≤ x.basis ∧ x.basis ≤ 1
theorem goodH {l : List Hrd} (h : heardE l 0 4095 = 0) : GoodH l := by
  intro x hx
  obtain ⟨k, hk⟩ := List.getElem?_of_mem hx
  have h1 := rise_range h hk
  have h2 := rise_fault h hk
  have h3 : betwB x.basis 0 1 = true := by
    unfold hFault at h2
    split at h2
    · assumption
    · cases h2
  simp [betwB] at h3
  exact ⟨h1.1, h1.2, h3.1, h3.2⟩
theorem textH_take {l : List Hrd} {k : Nat} {x : Hrd} (hx : l[k]? = some x) : textH (l.take (k + 1)) = textH (l.take k) ++ lineH x := by
  have hk := (List.getElem?_eq_some_iff.1 hx).1
  have he := (List.getElem?_eq_some_iff.1 hx).2
  unfold textH; rw [List.take_succ_eq_append_getElem hk, he]; simp
theorem lineH_len {x : Hrd} (h0 : 0 ≤ x.slot) (h1 : x.slot ≤ 4095) (h2 : 0 ≤ x.basis) (h3 : x.basis ≤ 1) : (lineH x).length ≤ 44 := by
  have := Lib.itoa_length_le x.slot (by omega) (by omega)
  have := Lib.itoa_length_le x.basis (by omega) (by omega)
  unfold lineH
  simp; omega
theorem textH_len : ∀ {l : List Hrd}, GoodH l → (textH l).length ≤ 44 * l.length
  | [], _ => by simp [textH]
  | x :: l, h => by
    obtain ⟨h0, h1, h2, h3⟩ := h x (by simp)
    have hl := lineH_len h0 h1 h2 h3
    have ih := textH_len (l := l) (fun y hy => h y (by simp [hy]))
    unfold textH at *
    rw [List.flatMap_cons, List.length_append, List.length_cons]; omega
theorem lineH_form {x : Hrd} (h0 : 0 ≤ x.slot) (h2 : 0 ≤ x.basis) : ∃ n m : Nat, x.slot = (n : Int) ∧ x.basis = (m : Int) ∧ lineH x = (Lib.decDigits n ++ 32 :: Lib.decDigits m) ++ [10] := by
  obtain ⟨n, hn⟩ := Int.eq_ofNat_of_zero_le h0
  obtain ⟨m, hm⟩ := Int.eq_ofNat_of_zero_le h2
  refine ⟨n, m, hn, hm, ?_⟩
  unfold lineH
  rw [hn, hm, Lib.itoa_nonneg, Lib.itoa_nonneg]
  simp
theorem dec_no {n : Nat} {c : UInt8} (hc : c.toNat < 48) : ∀ x ∈ Lib.decDigits n, x ≠ c := by
  intro x hx
  have := dec_digit n x hx
  rintro rfl
  omega
theorem lineH_no10 (n m : Nat) : ∀ x ∈ Lib.decDigits n ++ 32 :: Lib.decDigits m, x ≠ 10 := by
  intro x hx
  rcases List.mem_append.1 hx with hx | hx
  · exact dec_no (by decide) x hx
  · rcases List.mem_cons.1 hx with rfl | hx
    · decide
    · exact dec_no (by decide) x hx

/-- The program's way: line by line. -/
def basP (b : List UInt8) : Option Int := if b = [48] then some 0 else if b = [49] then some 1 else none
def prsF : Nat → List UInt8 → List Hrd → Option (List Hrd)
  | 0, _, L => some L
  | f + 1, r, L => if r = [] then some L else
    match Lib.atoiAll (Lib.cut (Lib.cut r [10]).1 [32]).1, basP (Lib.cut (Lib.cut r [10]).1 [32]).2.1 with
    | .ok v, some b => prsF f (Lib.cut r [10]).2.1 (L ++ [⟨v, b⟩])
    | _, _ => none
theorem prsF_fuel : ∀ (n f : Nat) (r : List UInt8) (L : List Hrd), r.length ≤ n → n ≤ f → prsF f r L = prsF n r L
  | 0, f, r, L, h, _ => by
    have : r = [] := List.eq_nil_of_length_eq_zero (by omega)
    subst this
    cases f <;> simp [prsF]
  | n + 1, 0, r, L, _, h => by omega
  | n + 1, f + 1, r, L, h, hf => by
    rw [prsF, prsF]
    split
    · rfl
    · rename_i hr
      have hl := cut_len (c := 10) hr
      split
      · exact prsF_fuel n f _ _ (by omega) (by omega)
      · rfl
def prs (r : List UInt8) (L : List Hrd) : Option (List Hrd) := prsF r.length r L
theorem prs_nil (L : List Hrd) : prs [] L = some L := rfl
theorem prs_ok {r : List UInt8} {L : List Hrd} (hr : r ≠ []) {v b : Int} (hv : Lib.atoiAll (Lib.cut (Lib.cut r [10]).1 [32]).1 = .ok v) (hk : basP (Lib.cut (Lib.cut r [10]).1 [32]).2.1 = some b) :
    prs r L = prs (Lib.cut r [10]).2.1 (L ++ [⟨v, b⟩]) := by
  have hl := cut_len (c := 10) hr
  unfold prs
  obtain ⟨n, hn⟩ : ∃ n, r.length = n + 1 := ⟨r.length - 1, by omega⟩
  rw [hn, prsF, if_neg hr, hv, hk]
  exact prsF_fuel _ _ _ _ (Nat.le_refl _) (by omega)
theorem prs_bas {r : List UInt8} {L : List Hrd} (hr : r ≠ []) (hk : basP (Lib.cut (Lib.cut r [10]).1 [32]).2.1 = none) : prs r L = none := by
  have hl := cut_len (c := 10) hr
  unfold prs
  obtain ⟨n, hn⟩ : ∃ n, r.length = n + 1 := ⟨r.length - 1, by omega⟩
  rw [hn, prsF, if_neg hr, hk]
  split
  · rename_i h; cases h
  · rfl
theorem prs_no {r : List UInt8} {L : List Hrd} (hr : r ≠ []) (hv : ∀ v, Lib.atoiAll (Lib.cut (Lib.cut r [10]).1 [32]).1 ≠ .ok v) : prs r L = none := by
  have hl := cut_len (c := 10) hr
  unfold prs
  obtain ⟨n, hn⟩ : ∃ n, r.length = n + 1 := ⟨r.length - 1, by omega⟩
  rw [hn, prsF, if_neg hr]
  split
  · rename_i v b h _; exact (hv v h).elim
  · rfl
theorem bas_dec {m : Nat} (h : m ≤ 1) : basP (Lib.decDigits m) = some (m : Int) := by
  rcases (show m = 0 ∨ m = 1 by omega) with rfl | rfl
  · rw [Lib.decDigits_one (by decide)]; rfl
  · rw [Lib.decDigits_one (by decide)]; rfl
theorem prs_text : ∀ (L M : List Hrd), GoodH L → prs (textH L) M = some (M ++ L)
  | [], M, _ => by simp [textH, prs_nil]
  | x :: L, M, h => by
    obtain ⟨h0, h1, h2, h3⟩ := h x (by simp)
    obtain ⟨n, m, hn, hm, hf⟩ := lineH_form h0 h2
    have ht : textH (x :: L) = (Lib.decDigits n ++ 32 :: Lib.decDigits m) ++ 10 :: textH L := by
      unfold textH
      rw [List.flatMap_cons, hf]; simp
    have c1 : Lib.cut (textH (x :: L)) [10] = (Lib.decDigits n ++ 32 :: Lib.decDigits m, textH L, true) := by rw [ht]; exact cut_app (lineH_no10 _ _)
    have c2 : Lib.cut (Lib.decDigits n ++ 32 :: Lib.decDigits m) [32] = (Lib.decDigits n, Lib.decDigits m, true) := cut_app (dec_no (by decide))
    have hr : textH (x :: L) ≠ [] := by rw [ht]; simp
    have hv : Lib.atoiAll (Lib.cut (Lib.cut (textH (x :: L)) [10]).1 [32]).1 = .ok (n : Int) := by rw [c1, c2]; exact atoi_dec (by omega)
    have hb : basP (Lib.cut (Lib.cut (textH (x :: L)) [10]).1 [32]).2.1 = some (m : Int) := by rw [c1, c2]; exact bas_dec (by omega)
    rw [prs_ok hr hv hb, c1]
    simp only
    rw [prs_text L _ (fun y hy => h y (by simp [hy]))]
    have : x = ⟨(n : Int), (m : Int)⟩ := by rw [← hn, ← hm]
    rw [← this]; simp

/-- How a text is read: the announcements, or an error. -/
def ReadH (s : List UInt8) (E : Int) (L : List Hrd) : Prop := (E = 0 ∧ hdE L = 0 ∧ textH L = s) ∨ (E = 6 ∧ L = [] ∧ ¬ ∃ M, hdE M = 0 ∧ textH M = s)
theorem textH_inj {L M : List Hrd} (h : hdE L = 0) (h' : hdE M = 0) (he : textH L = textH M) : L = M := by
  have h1 := prs_text L [] (goodH (hdE_zero.1 h).2)
  rw [he, prs_text M [] (goodH (hdE_zero.1 h').2)] at h1
  simpa using h1.symm
theorem ReadH.one {s : List UInt8} {E E' : Int} {L L' : List Hrd} (h : ReadH s E L) (h' : ReadH s E' L') : E = E' ∧ L = L' := by
  rcases h with ⟨rfl, h1, h2⟩ | ⟨rfl, rfl, h1⟩ <;> rcases h' with ⟨rfl, h3, h4⟩ | ⟨rfl, rfl, h3⟩
  · exact ⟨rfl, textH_inj h1 h3 (h2.trans h4.symm)⟩
  · exact (h3 ⟨_, h1, h2⟩).elim
  · exact (h1 ⟨_, h3, h4⟩).elim
  · exact ⟨rfl, rfl⟩
theorem ReadH.back {L : List Hrd} (h : hdE L = 0) {E : Int} {M : List Hrd} (h' : ReadH (textH L) E M) : E = 0 ∧ M = L := by
  have := ReadH.one h' (.inl ⟨rfl, h, rfl⟩)
  exact this
theorem read_prs {s : List UInt8} {L : List Hrd} (h : prs s [] = some L) : (hdE L = 0 ∧ textH L = s ∧ ReadH s 0 L) ∨ (¬ (hdE L = 0 ∧ textH L = s) ∧ ReadH s 6 []) := by
  by_cases h2 : hdE L = 0 ∧ textH L = s
  · exact .inl ⟨h2.1, h2.2, .inl ⟨rfl, h2⟩⟩
  · refine .inr ⟨h2, .inr ⟨rfl, rfl, ?_⟩⟩
    rintro ⟨M, h3, h4⟩
    have := prs_text M [] (goodH (hdE_zero.1 h3).2)
    rw [h4, h] at this
    simp at this
    subst this
    exact h2 ⟨h3, h4⟩
theorem read_none {s : List UInt8} (h : prs s [] = none) : ReadH s 6 [] := by
  refine .inr ⟨rfl, rfl, ?_⟩
  rintro ⟨M, h3, h4⟩
  have := prs_text M [] (goodH (hdE_zero.1 h3).2)
  rw [h4, h] at this
  cases this

/-- The reference's way: byte by byte. -/
def refS : List Int → Int → List Hrd → List UInt8 → Option (List Hrd)
  | _, _, out, [] => some out
  | I, x, out, c :: r =>
    if c.toNat = 10 ∧ I.length = 1 then refS [] 0 (out ++ [⟨I.getD 0 0, x⟩]) r
    else if c.toNat = 32 then refS (I ++ [x]) 0 out r
    else if 48 ≤ c.toNat ∧ c.toNat ≤ 57 ∧ x < 4096 then refS I (10 * x + ((c.toNat : Int) - 48)) out r
    else none
theorem refS_dec (I : List Int) (out : List Hrd) (R : List UInt8) : ∀ (n : Nat), n ≤ 40959 → refS I 0 out (Lib.decDigits n ++ R) = refS I n out R := by
  intro n
  have one : ∀ (x d : Nat) (R : List UInt8), d < 10 → x < 4096 → refS I x out (Lib.decDigits d ++ R) = refS I ((10 * x + d : Nat) : Int) out R := by
    intro x d R hd hx
    have e : (UInt8.ofNat (48 + d)).toNat = 48 + d := by simp; omega
    rw [Lib.decDigits_one hd, List.cons_append, List.nil_append, refS, e, if_neg (by omega), if_neg (by omega), if_pos (by omega)]
    congr 1; omega
  induction n using Nat.strongRecOn generalizing R with
  | _ n ih =>
    intro hn
    by_cases h : n < 10
    · have := one 0 n R h (by omega)
      simpa using this
    · rw [dec_step h, List.append_assoc, ih (n / 10) (by omega) _ (by omega), one _ _ _ (by omega) (by omega)]
      congr 1; omega
theorem refS_text : ∀ (L out : List Hrd), GoodH L → refS [] 0 out (textH L) = some (out ++ L)
  | [], out, _ => by simp [textH, refS]
  | x :: L, out, h => by
    obtain ⟨h0, h1, h2, h3⟩ := h x (by simp)
    obtain ⟨n, m, hn, hm, hf⟩ := lineH_form h0 h2
    have ht : textH (x :: L) = Lib.decDigits n ++ (32 :: (Lib.decDigits m ++ 10 :: textH L)) := by
      unfold textH
      rw [List.flatMap_cons, hf]; simp
    rw [ht, refS_dec _ _ _ n (by omega), refS, if_neg (by decide), if_pos (by decide), List.nil_append, refS_dec _ _ _ m (by omega), refS, if_pos ⟨by decide, rfl⟩, refS_text L _ (fun y hy => h y (by simp [hy]))]
    have : x = ⟨(n : Int), (m : Int)⟩ := by rw [← hn, ← hm]
    rw [this]; simp
theorem read_ref {s : List UInt8} {L : List Hrd} (h : refS [] 0 [] s = some L) : (hdE L = 0 ∧ textH L = s ∧ ReadH s 0 L) ∨ (¬ (hdE L = 0 ∧ textH L = s) ∧ ReadH s 6 []) := by
  by_cases h2 : hdE L = 0 ∧ textH L = s
  · exact .inl ⟨h2.1, h2.2, .inl ⟨rfl, h2⟩⟩
  · refine .inr ⟨h2, .inr ⟨rfl, rfl, ?_⟩⟩
    rintro ⟨M, h3, h4⟩
    have := refS_text M [] (goodH (hdE_zero.1 h3).2)
    rw [h4, h] at this
    simp at this
    subst this
    exact h2 ⟨h3, h4⟩
theorem ref_none {s : List UInt8} (h : refS [] 0 [] s = none) : ReadH s 6 [] := by
  refine .inr ⟨rfl, rfl, ?_⟩
  rintro ⟨M, h3, h4⟩
  have := refS_text M [] (goodH (hdE_zero.1 h3).2)
  rw [h4, h] at this
  cases this

end Go.Proofs.YteoaaphjbggobaaGreatDoor
