/- Plain: what the two ways to read a ledger's text make of a text of a ledger. No condition. -/
import Derived.Test.YtpejoghdmkpfcaaGreatDoorTxtR
import Derived.Test.YtpejoghdmkpfcaaGreatDoorTxtA
import Derived.Lib.IndexMore
import Derived.Lib.IndexBytes
import Derived.Lib.AtoiAll
import Derived.Lib.AtoiAllCases
namespace Go.Proofs.YtpejoghdmkpfcaaGreatDoor
open Go.RowKit
set_option linter.unusedVariables false
set_option linter.unusedSimpArgs false

theorem idx_app (c : UInt8) : ∀ (a b : List UInt8), (∀ x ∈ a, x ≠ c) → Lib.indexByte (a ++ c :: b) c = (a.length : Int)
  | [], b, _ => by simp [Lib.indexByte]
  | x :: a, b, h => by
    have hx : (x == c) = false := by simpa using h x (by simp)
    have ih := idx_app c a b (fun y hy => h y (by simp [hy]))
    rw [List.cons_append, Lib.indexByte, ih, hx]
    have : ((a.length : Int) == -1) = false := by simp
    rw [this]; simp
theorem idx_no (c : UInt8) : ∀ (a : List UInt8), (∀ x ∈ a, x ≠ c) → Lib.indexByte a c = -1
  | [], _ => rfl
  | x :: a, h => by
    have hx : (x == c) = false := by simpa using h x (by simp)
    rw [Lib.indexByte, idx_no c a (fun y hy => h y (by simp [hy])), hx]; rfl
theorem cut_app {c : UInt8} {a b : List UInt8} (h : ∀ x ∈ a, x ≠ c) : Lib.cut (a ++ c :: b) [c] = (a, b, true) := by
  unfold Lib.cut
  rw [Lib.index_one, idx_app c a b h, if_pos (by omega)]
  simp
theorem cut_len {c : UInt8} {r : List UInt8} (h : r ≠ []) : (Lib.cut r [c]).2.1.length < r.length := by
  have hr : 0 < r.length := List.length_pos_iff.2 h
  unfold Lib.cut
  split
  · simp; omega
  · simpa using hr

def kindP (n : List UInt8) : Int := if n = wordL 4 then 4 else if n = wordL 3 then 3 else if n = wordL 2 then 2 else if n = wordL 1 then 1 else 0
/-- The program's way: line by line. -/
def prsF : Nat → List UInt8 → List Itm → Option (List Itm)
  | 0, _, L => some L
  | f + 1, r, L => if r = [] then some L else
    match Lib.atoiAll (Lib.cut (Lib.cut r [10]).1 [32]).2.1 with
    | .ok v => if kindP (Lib.cut (Lib.cut r [10]).1 [32]).1 = 0 then none else prsF f (Lib.cut r [10]).2.1 (L ++ [⟨kindP (Lib.cut (Lib.cut r [10]).1 [32]).1, v⟩])
    | _ => none
theorem prsF_fuel : ∀ (n f : Nat) (r : List UInt8) (L : List Itm), r.length ≤ n → n ≤ f → prsF f r L = prsF n r L
  | 0, f, r, L, h, _ => by
    have : r = [] := List.eq_nil_of_length_eq_zero (by omega)
    subst this
    cases f <;> simp [prsF]
  | n + 1, 0, r, L, _, h => by omega
  | n + 1, f + 1, r, L, h, hf => by
    rw [prsF, prsF]
    split
    · rfl
    · rename_i hr
      have hl := cut_len (c := 10) hr
      split
      · split
        · rfl
        · exact prsF_fuel n f _ _ (by omega) (by omega)
      · rfl
def prs (r : List UInt8) (L : List Itm) : Option (List Itm) := prsF r.length r L
theorem prs_nil (L : List Itm) : prs [] L = some L := rfl
theorem prs_ok {r : List UInt8} {L : List Itm} (hr : r ≠ []) {v : Int} (hv : Lib.atoiAll (Lib.cut (Lib.cut r [10]).1 [32]).2.1 = .ok v) (hk : kindP (Lib.cut (Lib.cut r [10]).1 [32]).1 ≠ 0) :
    prs r L = prs (Lib.cut r [10]).2.1 (L ++ [⟨kindP (Lib.cut (Lib.cut r [10]).1 [32]).1, v⟩]) := by
  have hl := cut_len (c := 10) hr
  unfold prs
  obtain ⟨n, hn⟩ : ∃ n, r.length = n + 1 := ⟨r.length - 1, by omega⟩
  rw [hn, prsF, if_neg hr, hv]
  simp only [if_neg hk]
  exact prsF_fuel _ _ _ _ (Nat.le_refl _) (by omega)
theorem prs_kind {r : List UInt8} {L : List Itm} (hr : r ≠ []) {v : Int} (hv : Lib.atoiAll (Lib.cut (Lib.cut r [10]).1 [32]).2.1 = .ok v) (hk : kindP (Lib.cut (Lib.cut r [10]).1 [32]).1 = 0) : prs r L = none := by
  have hl := cut_len (c := 10) hr
  unfold prs
  obtain ⟨n, hn⟩ : ∃ n, r.length = n + 1 := ⟨r.length - 1, by omega⟩
  rw [hn, prsF, if_neg hr, hv]
  simp only [if_pos hk]
theorem prs_no {r : List UInt8} {L : List Itm} (hr : r ≠ []) (hv : ∀ v, Lib.atoiAll (Lib.cut (Lib.cut r [10]).1 [32]).2.1 ≠ .ok v) : prs r L = none := by
  have hl := cut_len (c := 10) hr
  unfold prs
  obtain ⟨n, hn⟩ : ∃ n, r.length = n + 1 := ⟨r.length - 1, by omega⟩
  rw [hn, prsF, if_neg hr]
  split
  · rename_i v h; exact (hv v h).elim
  · rfl

theorem word_ne (k : Int) : ∀ x ∈ wordL k, x ≠ 32 ∧ x ≠ 10 := by unfold wordL; split <;> (try split) <;> (try split) <;> decide
theorem dec_digit : ∀ (n : Nat), ∀ x ∈ Lib.decDigits n, 48 ≤ x.toNat ∧ x.toNat ≤ 57 := by
  intro n
  induction n using Nat.strongRecOn with
  | _ n ih =>
    by_cases h : n < 10
    · rw [Lib.decDigits_one h]
      intro x hx
      have : x = UInt8.ofNat (48 + n) := by simpa using hx
      subst this
      have : (UInt8.ofNat (48 + n)).toNat = 48 + n := by simp; omega
      omega
    · rw [dec_step h]
      intro x hx
      rcases List.mem_append.1 hx with hx | hx
      · exact ih _ (by omega) x hx
      · exact ih _ (by omega) x hx
theorem dec_ne : ∀ (n : Nat), Lib.decDigits n ≠ [] := by
  intro n
  by_cases h : n < 10
  · rw [Lib.decDigits_one h]; simp
  · rw [dec_step h]
    intro h2
    have := (List.append_eq_nil_iff.1 h2).2
    rw [Lib.decDigits_one (by omega)] at this
    simp at this
theorem parse_app : ∀ (a b : List UInt8) (acc v : Nat), Lib.parseUint10 acc a = .ok v → Lib.parseUint10 acc (a ++ b) = Lib.parseUint10 v b
  | [], b, acc, v, h => by
    simp only [Lib.parseUint10] at h
    injection h with h
    rw [h]; rfl
  | c :: a, b, acc, v, h => by
    simp only [List.cons_append, Lib.parseUint10] at h ⊢
    split at h
    · split at h
      · cases h
      · split at h
        · cases h
        · rename_i h1 h2 h3
          rw [if_pos h1, if_neg h2, if_neg h3]
          exact parse_app a b _ v h
    · cases h
theorem parse_dec : ∀ (n : Nat), n ≤ 1000000 → Lib.parseUint10 0 (Lib.decDigits n) = .ok n := by
  intro n
  induction n using Nat.strongRecOn with
  | _ n ih =>
    intro hn
    have one : ∀ acc d, d < 10 → acc ≤ 1000000 → Lib.parseUint10 acc (Lib.decDigits d) = .ok (acc * 10 + d) := by
      intro acc d hd ha
      rw [Lib.decDigits_one hd]
      have e : (UInt8.ofNat (48 + d)).toNat = 48 + d := by simp; omega
      simp only [Lib.parseUint10]
      rw [e, if_pos (by omega), if_neg (by omega), if_neg (by omega)]
      congr 1; omega
    by_cases h : n < 10
    · rw [one 0 n h (by omega)]; simp
    · rw [dec_step h, parse_app _ _ _ _ (ih (n / 10) (by omega) (by omega)), one _ _ (by omega) (by omega)]
      congr 1; omega
theorem atoi_dec {n : Nat} (hn : n ≤ 65536) : Lib.atoiAll (Lib.decDigits n) = .ok (n : Int) := by
  have hd := dec_digit n
  have hp := parse_dec n (by omega)
  have hne := dec_ne n
  cases hc : Lib.decDigits n with
  | nil => exact (hne hc).elim
  | cons c r =>
    rw [hc] at hd hp
    have h1 := hd c (by simp)
    rw [Lib.atoiAll_plain c r (by omega) (by omega)]
    have : Lib.parseMag (c :: r) = .ok n := by unfold Lib.parseMag; rw [if_neg (by simp)]; exact hp
    rw [this]
    simp only [Lib.signless]
    rw [if_neg (by omega)]
theorem kind_word {k : Int} (h : kindB k = true) : kindP (wordL k) = k := by
  obtain ⟨h1, h2⟩ : 1 ≤ k ∧ k ≤ 4 := by simpa [kindB, betwB] using h
  rcases (show k = 1 ∨ k = 2 ∨ k = 3 ∨ k = 4 by omega) with rfl | rfl | rfl | rfl <;> decide
theorem line_form {x : Itm} (h0 : 0 ≤ x.bits) : ∃ n : Nat, x.bits = (n : Int) ∧ lineL x = (wordL x.kind ++ 32 :: Lib.decDigits n) ++ [10] := by
  obtain ⟨n, hn⟩ := Int.eq_ofNat_of_zero_le h0
  refine ⟨n, hn, ?_⟩
  unfold lineL
  rw [hn, Lib.itoa_nonneg]
  simp
theorem line_no10 (k : Int) (n : Nat) : ∀ x ∈ wordL k ++ 32 :: Lib.decDigits n, x ≠ 10 := by
  intro x hx
  rcases List.mem_append.1 hx with hx | hx
  · exact (word_ne k x hx).2
  · rcases List.mem_cons.1 hx with rfl | hx
    · decide
    · have := dec_digit n x hx
      rintro rfl
      have e : (10 : UInt8).toNat = 10 := rfl
      omega
theorem prs_text : ∀ (L M : List Itm), firstE L = 0 → prs (textL L) M = some (M ++ L)
  | [], M, _ => by simp [textL, prs_nil]
  | x :: L, M, h => by
    obtain ⟨hk, h0, h1⟩ := first_all h (k := 0) (x := x) rfl
    have hL : firstE L = 0 := by
      rw [firstE] at h
      split at h
      · exact h
      · rename_i h2; exact (h2 h).elim
    obtain ⟨n, hn, hf⟩ := line_form h0
    have ht : textL (x :: L) = (wordL x.kind ++ 32 :: Lib.decDigits n) ++ 10 :: textL L := by
      unfold textL
      rw [List.flatMap_cons, hf]; simp
    have c1 : Lib.cut (textL (x :: L)) [10] = (wordL x.kind ++ 32 :: Lib.decDigits n, textL L, true) := by rw [ht]; exact cut_app (line_no10 _ _)
    have c2 : Lib.cut (wordL x.kind ++ 32 :: Lib.decDigits n) [32] = (wordL x.kind, Lib.decDigits n, true) := cut_app (fun y hy => (word_ne _ y hy).1)
    have kw := kind_word hk
    have hr : textL (x :: L) ≠ [] := by rw [ht]; simp
    have hv : Lib.atoiAll (Lib.cut (Lib.cut (textL (x :: L)) [10]).1 [32]).2.1 = .ok (n : Int) := by rw [c1, c2]; exact atoi_dec (by omega)
    rw [prs_ok hr hv (by rw [c1, c2]; simp only; rw [kw]; rintro e; rw [e] at hk; cases hk), c1]
    simp only
    rw [c2]
    simp only
    rw [kw, prs_text L _ hL]
    have : x = ⟨x.kind, (n : Int)⟩ := by rw [← hn]
    rw [← this]; simp

/-- How the text of a ledger is read: the ledger, or an error. -/
def ReadR (s : List UInt8) (E : Int) (L : List Itm) : Prop := (E = 0 ∧ ledE L = 0 ∧ textL L = s) ∨ (E = 6 ∧ L = [] ∧ ¬ ∃ M, ledE M = 0 ∧ textL M = s)
theorem text_inj {L M : List Itm} (h : ledE L = 0) (h' : ledE M = 0) (he : textL L = textL M) : L = M := by
  have h1 := prs_text L [] (ledE_zero.1 h).2
  rw [he, prs_text M [] (ledE_zero.1 h').2] at h1
  simpa using h1.symm
theorem ReadR.one {s : List UInt8} {E E' : Int} {L L' : List Itm} (h : ReadR s E L) (h' : ReadR s E' L') : E = E' ∧ L = L' := by
  rcases h with ⟨rfl, h1, h2⟩ | ⟨rfl, rfl, h1⟩ <;> rcases h' with ⟨rfl, h3, h4⟩ | ⟨rfl, rfl, h3⟩
  · exact ⟨rfl, text_inj h1 h3 (h2.trans h4.symm)⟩
  · exact (h3 ⟨_, h1, h2⟩).elim
  · exact (h1 ⟨_, h3, h4⟩).elim
  · exact ⟨rfl, rfl⟩
theorem read_prs {s : List UInt8} {L : List Itm} (h : prs s [] = some L) : (ledE L = 0 ∧ textL L = s ∧ ReadR s 0 L) ∨ (¬ (ledE L = 0 ∧ textL L = s) ∧ ReadR s 6 []) := by
  by_cases h2 : ledE L = 0 ∧ textL L = s
  · exact .inl ⟨h2.1, h2.2, .inl ⟨rfl, h2⟩⟩
  · refine .inr ⟨h2, .inr ⟨rfl, rfl, ?_⟩⟩
    rintro ⟨M, h3, h4⟩
    have := prs_text M [] (ledE_zero.1 h3).2
    rw [h4, h] at this
    simp at this
    subst this
    exact h2 ⟨h3, h4⟩
theorem read_none {s : List UInt8} (h : prs s [] = none) : ReadR s 6 [] := by
  refine .inr ⟨rfl, rfl, ?_⟩
  rintro ⟨M, h3, h4⟩
  have := prs_text M [] (ledE_zero.1 h3).2
  rw [h4, h] at this
  cases this

/-- The reference's way: byte by byte. How many digits stand at the end (of a line turned round), and their number. -/
def numB : Nat → List UInt8 → Nat × Nat
  | 0, _ => (0, 0)
  | _ + 1, [] => (0, 0)
  | f + 1, c :: r => if 48 ≤ c.toNat ∧ c.toNat ≤ 57 then ((numB f r).1 + 1, (c.toNat - 48) + 10 * (numB f r).2) else (0, 0)
def kindR (n : List UInt8) : Int := if n = wordL 4 ++ [32] then 4 else if n = wordL 3 ++ [32] then 3 else if n = wordL 2 ++ [32] then 2 else if n = wordL 1 ++ [32] then 1 else 0
def itmR (c : List UInt8) : Itm := ⟨kindR (c.take (c.length - (numB 6 c.reverse).1)), ((numB 6 c.reverse).2 : Int)⟩
def refG : List UInt8 → List UInt8 → List Itm
  | _, [] => []
  | c, x :: r => if x = 10 then itmR c :: refG [] r else refG (c ++ [x]) r
theorem refG_app : ∀ (a : List UInt8) (c b : List UInt8), (∀ x ∈ a, x ≠ 10) → refG c (a ++ 10 :: b) = itmR (c ++ a) :: refG [] b
  | [], c, b, _ => by simp [refG]
  | x :: a, c, b, h => by
    rw [List.cons_append, refG, if_neg (h x (by simp)), refG_app a _ b (fun y hy => h y (by simp [hy]))]
    simp
theorem numB_dec : ∀ (f n : Nat) (X : List UInt8), n < 10 ^ f → 0 < f → numB f ((Lib.decDigits n).reverse ++ 32 :: X) = ((Lib.decDigits n).length, n)
  | 0, n, X, _, h => by omega
  | f + 1, n, X, h, _ => by
    by_cases h10 : n < 10
    · rw [Lib.decDigits_one h10]
      have e : (UInt8.ofNat (48 + n)).toNat = 48 + n := by simp; omega
      simp only [List.reverse_cons, List.reverse_nil, List.nil_append, List.cons_append, numB]
      rw [e, if_pos (by omega)]
      have : numB f (32 :: X) = (0, 0) := by cases f <;> rfl
      rw [this]
      simp
    · rw [dec_step h10, Lib.decDigits_one (show n % 10 < 10 by omega), List.reverse_append]
      have e : (UInt8.ofNat (48 + n % 10)).toNat = 48 + n % 10 := by simp; omega
      simp only [List.reverse_cons, List.reverse_nil, List.nil_append, List.cons_append, numB]
      rw [e, if_pos (by omega), numB_dec f (n / 10) X (by rw [Nat.pow_succ] at h; omega) (by
        rcases f with _ | f
        · simp at h; omega
        · omega)]
      simp; omega
theorem kindR_word {k : Int} (h : kindB k = true) : kindR (wordL k ++ [32]) = k := by
  obtain ⟨h1, h2⟩ : 1 ≤ k ∧ k ≤ 4 := by simpa [kindB, betwB] using h
  rcases (show k = 1 ∨ k = 2 ∨ k = 3 ∨ k = 4 by omega) with rfl | rfl | rfl | rfl <;> decide
theorem itmR_line {k : Int} {n : Nat} (hk : kindB k = true) (hn : n ≤ 65536) : itmR (wordL k ++ 32 :: Lib.decDigits n) = ⟨k, (n : Int)⟩ := by
  have hr : (wordL k ++ 32 :: Lib.decDigits n).reverse = (Lib.decDigits n).reverse ++ 32 :: (wordL k).reverse := by simp
  unfold itmR
  rw [hr, numB_dec 6 n _ (by omega) (by decide)]
  simp only
  have : (wordL k ++ 32 :: Lib.decDigits n).take ((wordL k ++ 32 :: Lib.decDigits n).length - (Lib.decDigits n).length) = wordL k ++ [32] := by
    have e : wordL k ++ 32 :: Lib.decDigits n = (wordL k ++ [32]) ++ Lib.decDigits n := by simp
    rw [e, List.length_append, Nat.add_sub_cancel, List.take_left']
    rfl
  rw [this, kindR_word hk]
theorem refG_text : ∀ (L : List Itm), firstE L = 0 → refG [] (textL L) = L
  | [], _ => rfl
  | x :: L, h => by
    obtain ⟨hk, h0, h1⟩ := first_all h (k := 0) (x := x) rfl
    have hL : firstE L = 0 := by
      rw [firstE] at h
      split at h
      · exact h
      · rename_i h2; exact (h2 h).elim
    obtain ⟨n, hn, hf⟩ := line_form h0
    have ht : textL (x :: L) = (wordL x.kind ++ 32 :: Lib.decDigits n) ++ 10 :: textL L := by
      unfold textL
      rw [List.flatMap_cons, hf]; simp
    rw [ht, refG_app _ _ _ (line_no10 _ _), refG_text L hL, List.nil_append, itmR_line hk (by omega), ← hn]
theorem read_ref {s : List UInt8} : (ledE (refG [] s) = 0 ∧ textL (refG [] s) = s ∧ ReadR s 0 (refG [] s)) ∨ (¬ (ledE (refG [] s) = 0 ∧ textL (refG [] s) = s) ∧ ReadR s 6 []) := by
  by_cases h2 : ledE (refG [] s) = 0 ∧ textL (refG [] s) = s
  · exact .inl ⟨h2.1, h2.2, .inl ⟨rfl, h2⟩⟩
  · refine .inr ⟨h2, .inr ⟨rfl, rfl, ?_⟩⟩
    rintro ⟨M, h3, h4⟩
    have := refG_text M (ledE_zero.1 h3).2
    rw [h4] at this
    rw [this] at h2
    exact h2 ⟨h3, h4⟩

end Go.Proofs.YtpejoghdmkpfcaaGreatDoor
