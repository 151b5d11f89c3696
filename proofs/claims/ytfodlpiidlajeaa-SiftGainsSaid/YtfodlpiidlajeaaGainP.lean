/- Plain: the gains of a transmission, nine numbers, three of each class; and words for a block of nine cells. No condition. -/
import Derived.Test.YtfodlpiidlajeaaSent
import Derived.Laws.OwnMore
import Derived.Laws.ResultCell
namespace Go.Proofs.Ytfodlpiidlajeaa
open Go.RowKit
set_option linter.unusedVariables false
set_option linter.unusedSimpArgs false

def zero9 : List Int := [0, 0, 0, 0, 0, 0, 0, 0, 0]
def encInt (x : Int) : Value := .int .i64 x
def bump (G : List Int) (i : Nat) : List Int := G.set i (G[i]?.getD 0 + 1)
theorem bump_of {G : List Int} {i : Nat} {x : Int} (h : G[i]? = some x) : bump G i = G.set i (x + 1) := by simp [bump, h]
theorem bump_len (G : List Int) (i : Nat) : (bump G i).length = G.length := by simp [bump]
/-- All are between 0 and n. -/
def Bnd (G : List Int) (n : Nat) : Prop := ∀ (i : Nat) (x : Int), G[i]? = some x → 0 ≤ x ∧ x ≤ (n : Int)
theorem bnd_zero : Bnd zero9 0 := by
  intro i x h
  have := List.mem_of_getElem? h
  simp [zero9] at this; subst this; simp
theorem Bnd.mono {G : List Int} {n m : Nat} (h : Bnd G n) (hm : n ≤ m) : Bnd G m := fun i x hx => by have := h i x hx; omega
theorem Bnd.bump {G : List Int} {n : Nat} (h : Bnd G n) (j : Nat) : Bnd (bump G j) (n + 1) := by
  intro i x hx
  by_cases hj : j < G.length
  · have e := List.getElem?_eq_getElem hj
    rw [bump_of e, List.getElem?_set] at hx
    have h1 := h j _ e
    by_cases hij : j = i
    · subst hij
      simp [hj] at hx
      omega
    · simp [hij] at hx
      have := h i x hx
      omega
  · unfold Go.Proofs.Ytfodlpiidlajeaa.bump at hx
    rw [List.set_eq_of_length_le (by omega)] at hx
    have := h i x hx
    omega

def gsTo (p : List Pls) (f : Int) : Nat → List Int
  | 0 => zero9
  | k + 1 => match p[k]? with
    | none => gsTo p f k
    | some x => if f ≤ (k : Int) ∧ x.seen = true then bump (gsTo p f k) (x.cls.toNat * 3) else gsTo p f k
def ghTo (p : List Pls) (s : List Int) (b : List Bool) (G : List Int) : Nat → List Int
  | 0 => G
  | k + 1 => match s[k]?, b[k]? with
    | some i, some y => match p[i.toNat]? with
      | none => ghTo p s b G k
      | some x => if x.bit = y then bump (ghTo p s b G k) (x.cls.toNat * 3 + 1) else bump (bump (ghTo p s b G k) (x.cls.toNat * 3 + 1)) (x.cls.toNat * 3 + 2)
    | _, _ => ghTo p s b G k
section
variable {p : List Pls} {f : Int} {k : Nat} {s : List Int} {b : List Bool} {G : List Int}
theorem gsTo_hit {x : Pls} (h : p[k]? = some x) (hf : f ≤ (k : Int)) (hs : x.seen = true) : gsTo p f (k + 1) = bump (gsTo p f k) (x.cls.toNat * 3) := by simp only [gsTo, h]; rw [if_pos ⟨hf, hs⟩]
theorem gsTo_unseen {x : Pls} (h : p[k]? = some x) (hs : x.seen = false) : gsTo p f (k + 1) = gsTo p f k := by simp only [gsTo, h]; rw [if_neg (by simp [hs])]
theorem gsTo_low {x : Pls} (h : p[k]? = some x) (hf : ¬ f ≤ (k : Int)) : gsTo p f (k + 1) = gsTo p f k := by simp only [gsTo, h]; rw [if_neg (by simp [hf])]
theorem gsTo_first (h : (k : Int) ≤ f) : gsTo p f k = zero9 := by
  induction k with
  | zero => rfl
  | succ k ih =>
    have ih := ih (by omega)
    simp only [gsTo]
    split
    · exact ih
    · rw [if_neg (by omega)]; exact ih
theorem gsTo_ge {k : Nat} (h : p.length ≤ k) : gsTo p f k = gsTo p f p.length := by
  induction k with
  | zero => have : p.length = 0 := by omega
            rw [this]
  | succ k ih =>
    by_cases e : p.length = k + 1
    · rw [e]
    · rw [gsTo, List.getElem?_eq_none (by omega)]; exact ih (by omega)
theorem gsTo_len (p : List Pls) (f : Int) (k : Nat) : (gsTo p f k).length = 9 := by
  induction k with
  | zero => rfl
  | succ k ih =>
    simp only [gsTo]; split
    · exact ih
    · split
      · rw [bump_len]; exact ih
      · exact ih
theorem gsTo_bnd (p : List Pls) (f : Int) (k : Nat) : Bnd (gsTo p f k) k := by
  induction k with
  | zero => exact bnd_zero
  | succ k ih =>
    simp only [gsTo]; split
    · exact ih.mono (by omega)
    · split
      · exact ih.bump _
      · exact ih.mono (by omega)
theorem ghTo_same {i : Int} {y : Bool} {x : Pls} (hi : s[k]? = some i) (hy : b[k]? = some y) (hx : p[i.toNat]? = some x) (h : x.bit = y) : ghTo p s b G (k + 1) = bump (ghTo p s b G k) (x.cls.toNat * 3 + 1) := by
  simp only [ghTo, hi, hy, hx]; rw [if_pos h]
theorem ghTo_other {i : Int} {y : Bool} {x : Pls} (hi : s[k]? = some i) (hy : b[k]? = some y) (hx : p[i.toNat]? = some x) (h : x.bit ≠ y) : ghTo p s b G (k + 1) = bump (bump (ghTo p s b G k) (x.cls.toNat * 3 + 1)) (x.cls.toNat * 3 + 2) := by
  simp only [ghTo, hi, hy, hx]; rw [if_neg h]
theorem ghTo_len (p : List Pls) (s : List Int) (b : List Bool) (G : List Int) (k : Nat) : (ghTo p s b G k).length = G.length := by
  induction k with
  | zero => rfl
  | succ k ih =>
    simp only [ghTo]; split
    · split
      · exact ih
      · split
        · rw [bump_len]; exact ih
        · rw [bump_len, bump_len]; exact ih
    · exact ih
theorem ghTo_bnd {n : Nat} (p : List Pls) (s : List Int) (b : List Bool) (G : List Int) (hG : Bnd G n) (k : Nat) : Bnd (ghTo p s b G k) (n + 2 * k) := by
  induction k with
  | zero => exact hG
  | succ k ih =>
    simp only [ghTo]; split
    · split
      · exact ih.mono (by omega)
      · split
        · exact (ih.bump _).mono (by omega)
        · exact ((ih.bump _).bump _).mono (by omega)
    · exact ih.mono (by omega)
end

def seenAt (p : List Pls) (i : Int) : Bool := (p[i.toNat]?.map Pls.seen).getD false
theorem seenAt_of {p : List Pls} {j : Nat} {pb : Int} {pbit : Bool} {pc pph : Int} {ps : Bool} (h : p[j]? = some ⟨pb, pbit, pc, pph, ps⟩) : seenAt p (j : Int) = ps := by simp [seenAt, h]
def lateB (f : Int) (x : Int) : Bool := decide (f ≤ x)
def gnE (p : List Pls) (s : List Int) (b : List Bool) (f : Int) : Int :=
  if allE Pls.ok p ≠ 0 then allE Pls.ok p else if betwB f 0 4096 = false then 3 else if slotsE s 0 (p.length - 1) ≠ 0 then slotsE s 0 (p.length - 1) else if s.all (lateB f) = false then 3 else if s.length ≠ b.length then 22 else if s.all (seenAt p) = false then 11 else 0
def gnG (p : List Pls) (s : List Int) (b : List Bool) (f : Int) : List Int := if gnE p s b f = 0 then ghTo p s b (gsTo p f p.length) s.length else zero9
section
variable {p : List Pls} {s : List Int} {b : List Bool} {f : Int}
theorem gn1 (h : allE Pls.ok p ≠ 0) : gnE p s b f = allE Pls.ok p ∧ gnG p s b f = zero9 := by simp [gnG, gnE, h]
theorem gn2 (h : allE Pls.ok p = 0) (h1 : betwB f 0 4096 = false) : gnE p s b f = 3 ∧ gnG p s b f = zero9 := by simp [gnG, gnE, h, h1]
theorem gn3 (h : allE Pls.ok p = 0) (h1 : betwB f 0 4096 = true) (h2 : slotsE s 0 (p.length - 1) ≠ 0) : gnE p s b f = slotsE s 0 (p.length - 1) ∧ gnG p s b f = zero9 := by simp [gnG, gnE, h, h1, h2]
theorem gn4 (h : allE Pls.ok p = 0) (h1 : betwB f 0 4096 = true) (h2 : slotsE s 0 (p.length - 1) = 0) (h3 : s.all (lateB f) = false) : gnE p s b f = 3 ∧ gnG p s b f = zero9 := by
  have e : gnE p s b f = 3 := by simp only [gnE, h, h1, h2, h3]; simp
  exact ⟨e, by unfold gnG; rw [if_neg (by rw [e]; decide)]⟩
theorem gn5 (h : allE Pls.ok p = 0) (h1 : betwB f 0 4096 = true) (h2 : slotsE s 0 (p.length - 1) = 0) (h3 : s.all (lateB f) = true) (h4 : s.length ≠ b.length) : gnE p s b f = 22 ∧ gnG p s b f = zero9 := by
  have e : gnE p s b f = 22 := by simp only [gnE, h, h1, h2, h3]; simp [h4]
  exact ⟨e, by unfold gnG; rw [if_neg (by rw [e]; decide)]⟩
theorem gn6 (h : allE Pls.ok p = 0) (h1 : betwB f 0 4096 = true) (h2 : slotsE s 0 (p.length - 1) = 0) (h3 : s.all (lateB f) = true) (h4 : s.length = b.length) (h5 : s.all (seenAt p) = false) : gnE p s b f = 11 ∧ gnG p s b f = zero9 := by
  have e : gnE p s b f = 11 := by simp only [gnE, h, h1, h2, h3, h5]; simp [h4]
  exact ⟨e, by unfold gnG; rw [if_neg (by rw [e]; decide)]⟩
theorem gn7 (h : allE Pls.ok p = 0) (h1 : betwB f 0 4096 = true) (h2 : slotsE s 0 (p.length - 1) = 0) (h3 : s.all (lateB f) = true) (h4 : s.length = b.length) (h5 : s.all (seenAt p) = true) : gnE p s b f = 0 ∧ gnG p s b f = ghTo p s b (gsTo p f p.length) s.length := by
  have e : gnE p s b f = 0 := by simp only [gnE, h, h1, h2, h3, h5]; simp [h4]
  exact ⟨e, by unfold gnG; rw [if_pos e]⟩
/-- What increases, and is late at its first place, is late. -/
theorem late_first (h2 : slotsE s 0 (p.length - 1) = 0) {x : Int} (hx : s[0]? = some x) (hf : f ≤ x) : s.all (lateB f) = true := by
  have key : ∀ (k : Nat) (y : Int), s[k]? = some y → f ≤ y := by
    intro k
    induction k with
    | zero => intro y hy; rw [hx] at hy; cases hy; exact hf
    | succ k ih =>
      intro y hy
      have hk := (List.getElem?_eq_some_iff.1 hy).1
      have hz : s[k]? = some s[k] := List.getElem?_eq_getElem (by omega)
      have h3 := rise_lt h2 hy hz
      have h4 := ih _ hz
      simp only [idI] at h3; omega
  rw [List.all_eq_true]
  intro y hy
  obtain ⟨k, hk⟩ := List.getElem?_of_mem hy
  simp [lateB, key k y hk]
theorem late_nil : ([] : List Int).all (lateB f) = true := rfl
theorem cls_ok (h : allE Pls.ok p = 0) {k : Nat} {x : Pls} (hx : p[k]? = some x) : 0 ≤ x.cls ∧ x.cls ≤ 2 := by
  have h1 := (allE_zero.1 h).2
  rw [List.all_eq_true] at h1
  have := h1 x (List.mem_of_getElem? hx)
  simp only [Pls.ok, betwB, Bool.and_eq_true, decide_eq_true_eq] at this
  exact this.1.2
end

theorem own9 (w : World) (base g : Nat) (T : TypeId) (h : base ≤ w.heap.size) (hg : w.heap.size = g) : Own (w.alloc (.cells #[.int .i64 0, .int .i64 0, .int .i64 0, .int .i64 0, .int .i64 0, .int .i64 0, .int .i64 0, .int .i64 0, .int .i64 0] T)) base T 1 (fun x => [encInt x]) (.slice (some ⟨g, 0, none⟩) 9 9) zero9 := by
  subst hg
  exact World.ownsRow_lit (size := 1) w #[.int .i64 0, .int .i64 0, .int .i64 0, .int .i64 0, .int .i64 0, .int .i64 0, .int .i64 0, .int .i64 0, .int .i64 0] 9 h (by decide) rfl
section
variable {w : World} {base T g : Nat} {l : List Int}
/-- The nine cells of such a block. -/
theorem nine {g0 g1 g2 g3 g4 g5 g6 g7 g8 : Int} (h : Own w base T 1 (fun x => [encInt x]) (.slice (some ⟨g, 0, none⟩) 9 9) [g0, g1, g2, g3, g4, g5, g6, g7, g8]) :
    w.cell? ⟨g, 0, none⟩ = some (.int .i64 g0) ∧ w.cell? ⟨g, 1, none⟩ = some (.int .i64 g1) ∧ w.cell? ⟨g, 2, none⟩ = some (.int .i64 g2) ∧ w.cell? ⟨g, 3, none⟩ = some (.int .i64 g3) ∧ w.cell? ⟨g, 4, none⟩ = some (.int .i64 g4) ∧
    w.cell? ⟨g, 5, none⟩ = some (.int .i64 g5) ∧ w.cell? ⟨g, 6, none⟩ = some (.int .i64 g6) ∧ w.cell? ⟨g, 7, none⟩ = some (.int .i64 g7) ∧ w.cell? ⟨g, 8, none⟩ = some (.int .i64 g8) :=
  ⟨Own.at1 (f := encInt) h rfl rfl, Own.at1 (f := encInt) h rfl rfl, Own.at1 (f := encInt) h rfl rfl, Own.at1 (f := encInt) h rfl rfl, Own.at1 (f := encInt) h rfl rfl, Own.at1 (f := encInt) h rfl rfl, Own.at1 (f := encInt) h rfl rfl, Own.at1 (f := encInt) h rfl rfl, Own.at1 (f := encInt) h rfl rfl⟩
theorem nineF (h : Own w base T 1 (fun x => [encInt x]) (.slice (some ⟨g, 0, none⟩) 9 9) l) (hl : l.length = 9) :
    w.frozen? ⟨g, 0, none⟩ = false ∧ w.frozen? ⟨g, 1, none⟩ = false ∧ w.frozen? ⟨g, 2, none⟩ = false ∧ w.frozen? ⟨g, 3, none⟩ = false ∧ w.frozen? ⟨g, 4, none⟩ = false ∧ w.frozen? ⟨g, 5, none⟩ = false ∧ w.frozen? ⟨g, 6, none⟩ = false ∧ w.frozen? ⟨g, 7, none⟩ = false ∧ w.frozen? ⟨g, 8, none⟩ = false :=
  ⟨Own.fr1 (f := encInt) h hl _, Own.fr1 (f := encInt) h hl _, Own.fr1 (f := encInt) h hl _, Own.fr1 (f := encInt) h hl _, Own.fr1 (f := encInt) h hl _, Own.fr1 (f := encInt) h hl _, Own.fr1 (f := encInt) h hl _, Own.fr1 (f := encInt) h hl _, Own.fr1 (f := encInt) h hl _⟩
theorem list9 (h : l.length = 9) : ∃ g0 g1 g2 g3 g4 g5 g6 g7 g8, l = [g0, g1, g2, g3, g4, g5, g6, g7, g8] := by
  match l, h with
  | [g0, g1, g2, g3, g4, g5, g6, g7, g8], _ => exact ⟨_, _, _, _, _, _, _, _, _, rfl⟩
/-- Another block of nine cells stays. -/
theorem Own.other {g' k : Nat} {x : Value} {l' : List Int} (h : Own w base T 1 (fun x => [encInt x]) (.slice (some ⟨g, 0, none⟩) 9 9) l) (h' : Own w base T 1 (fun x => [encInt x]) (.slice (some ⟨g', 0, none⟩) 9 9) l') (hl : l'.length = 9) (hg : g ≠ g') :
    Own (w.setCell ⟨g', k, none⟩ x) base T 1 (fun x => [encInt x]) (.slice (some ⟨g, 0, none⟩) 9 9) l := by
  unfold Own at h'
  rw [hl] at h'
  exact Own.keep h (World.ownsRow.stored h' k x).2 (.inr (by simp [Value.ownBlock]; exact hg))
end
theorem below_set9 {w w2 : World} {base g : Nat} {v0 v1 v2 v3 v4 v5 v6 v7 v8 : Value} (h : Below base w w2) (hg : base ≤ g) :
    Below base w (((((((((w2.setCell ⟨g, 0, none⟩ v0).setCell ⟨g, 1, none⟩ v1).setCell ⟨g, 2, none⟩ v2).setCell ⟨g, 3, none⟩ v3).setCell ⟨g, 4, none⟩ v4).setCell ⟨g, 5, none⟩ v5).setCell ⟨g, 6, none⟩ v6).setCell ⟨g, 7, none⟩ v7).setCell ⟨g, 8, none⟩ v8) :=
  ((((((((h.setCell hg _).setCell hg _).setCell hg _).setCell hg _).setCell hg _).setCell hg _).setCell hg _).setCell hg _).setCell hg _
/-- The nine numbers as a value. -/
def agg9 (l : List Int) : Value := .agg (l.map encInt).toArray

end Go.Proofs.Ytfodlpiidlajeaa
