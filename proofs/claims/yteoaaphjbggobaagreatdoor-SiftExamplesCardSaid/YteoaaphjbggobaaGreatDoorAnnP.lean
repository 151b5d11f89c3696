/- Plain: what the program's loop over clicks announces is what the reference's loop over slots announces. No condition. -/
import Derived.Test.YteoaaphjbggobaaGreatDoorData
namespace Go.Proofs.YteoaaphjbggobaaGreatDoor
set_option linter.unusedVariables false
set_option linter.unusedSimpArgs false

/-- The lists g (a), g (a + 1), .., g (a + n - 1), joined. -/
def iv {α : Type} (g : Int → List α) (a : Int) : Nat → List α
  | 0 => []
  | n + 1 => iv g a n ++ g (a + n)
theorem iv_add {α : Type} (g : Int → List α) (a : Int) (n m : Nat) : iv g a (n + m) = iv g a n ++ iv g (a + n) m := by
  induction m with
  | zero => simp [iv]
  | succ m ih => rw [← Nat.add_assoc, iv, ih, iv, List.append_assoc]; congr 2; congr 1; omega
theorem iv_none {α : Type} (g : Int → List α) (a : Int) (n : Nat) (h : ∀ i, a ≤ i → i < a + n → g i = []) : iv g a n = [] := by
  induction n with
  | zero => rfl
  | succ n ih => rw [iv, ih (fun i h1 h2 => h i h1 (by omega)), h _ (by omega) (by omega)]; rfl
theorem iv_congr {α : Type} (g k : Int → List α) (a : Int) (n : Nat) (h : ∀ i, a ≤ i → i < a + n → g i = k i) : iv g a n = iv k a n := by
  induction n with
  | zero => rfl
  | succ n ih => rw [iv, iv, ih (fun i h1 h2 => h i h1 (by omega)), h _ (by omega) (by omega)]
/-- Two intervals outside of which there is nothing. -/
theorem iv_same {α : Type} (g : Int → List α) (a b : Int) (n m : Nat) (ha : ∀ i, i < a ∨ a + n ≤ i → g i = []) (hb : ∀ i, i < b ∨ b + m ≤ i → g i = []) : iv g a n = iv g b m := by
  have wide : ∀ (c : Int) (p : Nat) (L : Int) (M : Nat), (∀ i, i < c ∨ c + p ≤ i → g i = []) → L ≤ c → c + p ≤ L + M → iv g L M = iv g c p := by
    intro c p L M hc h1 h2
    obtain ⟨x, hx⟩ : ∃ x : Nat, c = L + x := ⟨(c - L).toNat, by omega⟩
    obtain ⟨y, hy⟩ : ∃ y : Nat, M = x + (p + y) := ⟨M - x - p, by omega⟩
    subst hy
    rw [iv_add, iv_add, iv_none g L x (fun i h3 h4 => hc i (.inl (by omega))), iv_none g _ y (fun i h3 h4 => hc i (.inr (by omega))), hx]
    simp
  obtain ⟨L, h1, h2⟩ : ∃ L : Int, L ≤ a ∧ L ≤ b := ⟨min a b, by omega, by omega⟩
  obtain ⟨M, h3, h4⟩ : ∃ M : Nat, a + n ≤ L + M ∧ b + m ≤ L + M := ⟨(max (a + n) (b + m) - L).toNat, by omega, by omega⟩
  rw [← wide a n L M ha h1 h3, ← wide b m L M hb h2 h4]

/-- What is announced of slot i, if it is one. -/
def annG (c : List Clk) (s : Int) (i : Int) : List Hrd :=
  if 0 ≤ i + s then (match c[(i + s).toNat]? with | some q => if singleB q.kind = true then [⟨i, q.basis⟩] else [] | none => []) else []
/-- What is announced of click number k. -/
def annC (c : List Clk) (s f t : Int) (k : Nat) : List Hrd := if f ≤ (k : Int) - s ∧ (k : Int) - s < t then annG c s (k - s) else []
def annTo (c : List Clk) (s f t : Int) : Nat → List Hrd
  | 0 => []
  | k + 1 => annTo c s f t k ++ annC c s f t k
def refAnn (c : List Clk) (s f : Int) (n : Nat) : List Hrd := iv (annG c s) f n

theorem annTo_iv (c : List Clk) (s f t : Int) : ∀ n, annTo c s f t n = iv (fun i => if f ≤ i ∧ i < t then annG c s i else []) (-s) n
  | 0 => rfl
  | n + 1 => by rw [annTo, iv, annTo_iv c s f t n, annC, show (-s + (n : Int)) = n - s from by omega]
theorem ann_same (c : List Clk) (s f t : Int) (h : f ≤ t) : annTo c s f t c.length = refAnn c s f (t - f).toNat := by
  rw [annTo_iv, refAnn]
  rw [iv_congr (annG c s) (fun i => if f ≤ i ∧ i < t then annG c s i else []) f _ (fun i h1 h2 => by rw [if_pos (by omega)])]
  refine iv_same _ _ _ _ _ (fun i hi => ?_) (fun i hi => ?_)
  · split
    · unfold annG
      split
      · rw [List.getElem?_eq_none (by omega)]
      · rfl
    · rfl
  · rw [if_neg (by omega)]

theorem annTo_hit {c : List Clk} {s f t : Int} {k : Nat} {qb qk : Int} (hq : c[k]? = some ⟨qb, qk⟩) (h1 : singleB qk = true) (h2 : f ≤ (k : Int) - s) (h3 : (k : Int) - s < t) :
    annTo c s f t (k + 1) = annTo c s f t k ++ [⟨k - s, qb⟩] := by
  rw [annTo, annC, if_pos ⟨h2, h3⟩, annG, if_pos (by omega), show ((k : Int) - s + s).toNat = k from by omega, hq]
  simp [h1]
theorem annTo_miss {c : List Clk} {s f t : Int} {k : Nat} {qb qk : Int} (hq : c[k]? = some ⟨qb, qk⟩) (h : singleB qk = false ∨ (k : Int) - s < f ∨ t ≤ (k : Int) - s) :
    annTo c s f t (k + 1) = annTo c s f t k := by
  rw [annTo, annC]
  split
  · rw [annG, if_pos (by omega), show ((k : Int) - s + s).toNat = k from by omega, hq]
    have : singleB qk = false := by rcases h with h | h | h; exact h; omega; omega
    simp [this]
  · simp
theorem annTo_le (c : List Clk) (s f t : Int) : ∀ n, (annTo c s f t n).length ≤ n
  | 0 => Nat.le_refl _
  | n + 1 => by
    have := annTo_le c s f t n
    have h1 : (annC c s f t n).length ≤ 1 := by
      unfold annC annG; split
      · split
        · split
          · split <;> simp
          · simp
        · simp
      · simp
    rw [annTo, List.length_append]; omega
theorem refAnn_hit {c : List Clk} {s f : Int} {n j : Nat} {qb qk : Int} (e : f + (n : Int) + s = j) (hq : c[j]? = some ⟨qb, qk⟩) (h1 : singleB qk = true) : refAnn c s f (n + 1) = refAnn c s f n ++ [⟨f + n, qb⟩] := by
  rw [refAnn, iv, annG, if_pos (by omega), show (f + (n : Int) + s).toNat = j from by omega, hq]
  simp [h1, refAnn]
theorem refAnn_miss {c : List Clk} {s f : Int} {n : Nat} (h : f + (n : Int) + s < 0 ∨ (c.length : Int) ≤ f + n + s) : refAnn c s f (n + 1) = refAnn c s f n := by
  rw [refAnn, iv, annG]
  split
  · rw [List.getElem?_eq_none (by omega)]; simp [refAnn]
  · simp [refAnn]
theorem refAnn_dark {c : List Clk} {s f : Int} {n j : Nat} {qb qk : Int} (e : f + (n : Int) + s = j) (hq : c[j]? = some ⟨qb, qk⟩) (h1 : singleB qk = false) : refAnn c s f (n + 1) = refAnn c s f n := by
  rw [refAnn, iv, annG, if_pos (by omega), show (f + (n : Int) + s).toNat = j from by omega, hq]
  simp [h1, refAnn]
theorem refAnn_le (c : List Clk) (s f : Int) : ∀ n, (refAnn c s f n).length ≤ n
  | 0 => Nat.le_refl _
  | n + 1 => by
    have := refAnn_le c s f n
    have h1 : (annG c s (f + n)).length ≤ 1 := by
      unfold annG; split
      · split
        · split <;> simp
        · simp
      · simp
    simp only [refAnn, iv, List.length_append] at *; omega

/-- What Announce returns: a list and an error. -/
def annB (s f t : Int) : Bool := betwB s (-16) 16 && betwB t 0 4096 && betwB f 0 t
def annL (c : List Clk) (s f t : Int) : List Hrd := if allE Clk.ok c ≠ 0 ∨ annB s f t = false then [] else annTo c s f t c.length
def annE (c : List Clk) (s f t : Int) : Int := if allE Clk.ok c ≠ 0 then allE Clk.ok c else if annB s f t = false then 3 else 0
theorem annL_ref (c : List Clk) (s f t : Int) (h : annB s f t = true) (h0 : allE Clk.ok c = 0) : annL c s f t = refAnn c s f (t - f).toNat := by
  unfold annL
  rw [if_neg (by simp [h, h0])]
  refine ann_same c s f t ?_
  simp only [annB, betwB, Bool.and_eq_true, decide_eq_true_eq] at h
  omega

end Go.Proofs.YteoaaphjbggobaaGreatDoor
