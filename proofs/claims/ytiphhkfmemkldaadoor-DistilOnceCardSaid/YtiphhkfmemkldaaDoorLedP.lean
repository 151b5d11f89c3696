/- Plain: ledgers: what their check, their totals and an entry compute. No condition. -/
import Derived.Test.YtiphhkfmemkldaaDoorMade
namespace Go.Proofs.YtiphhkfmemkldaaDoor
open Go.RowKit
set_option linter.unusedVariables false
set_option linter.unusedSimpArgs false

structure Itm where
  kind : Int
  bits : Int
def Itm.enc (c : Itm) : List Value := [.int .i64 c.kind, .int .i64 c.bits]
theorem Itm.enc_len (c : Itm) : c.enc.length = 2 := rfl
theorem Itm.one (c : Itm) : ∀ u ∈ c.enc, u.oneCell' = true := by simp [Itm.enc, Value.oneCell']
theorem Arr.itm {w w' : World} {B : Nat} {A : Option Addr} {k : Nat} {l : List Itm} (h : Arr 2 Itm.enc w B A l) (hk : k < l.length) (hb : Below B w w') :
    ∃ b off qk qb, A = some ⟨b, off, none⟩ ∧ b < B ∧ Hid (l[k]? = some ⟨qk, qb⟩) ∧ w'.cell? ⟨b, off + k * 2, none⟩ = some (.int .i64 qk) ∧ w'.cell? ⟨b, off + k * 2 + 1, none⟩ = some (.int .i64 qb) := by
  obtain ⟨b, off, rfl, hbb, hc⟩ := h.get hk hb
  exact ⟨b, off, _, _, rfl, hbb, List.getElem?_eq_getElem hk, hc 0 _ rfl, hc 1 _ rfl⟩

theorem flat_set {α : Type} {sz : Nat} {enc : α → List Value} (hs : ∀ x, (enc x).length = sz) : ∀ (l : List α) (k : Nat) (x x' : α) (j : Nat) (u : Value), l[k]? = some x → j < sz → enc x' = (enc x).set j u → (l.flatMap enc).set (k * sz + j) u = (l.set k x').flatMap enc
  | [], k, x, x', j, u, h, _, _ => by simp at h
  | y :: l, 0, x, x', j, u, h, hj, he => by
    obtain rfl : y = x := by simpa using h
    rw [List.flatMap_cons, Nat.zero_mul, Nat.zero_add, List.set_cons_zero, List.flatMap_cons, he, List.set_append, if_pos (by rw [hs]; exact hj)]
  | y :: l, k + 1, x, x', j, u, h, hj, he => by
    have h' : l[k]? = some x := by simpa using h
    have e : (k + 1) * sz + j = sz + (k * sz + j) := by rw [Nat.add_mul]; omega
    rw [List.flatMap_cons, e, List.set_append, if_neg (by rw [hs]; omega), hs, show sz + (k * sz + j) - sz = k * sz + j from by omega, flat_set hs l k x x' j u h' hj he, List.set_cons_succ, List.flatMap_cons]

section
variable {α : Type} {sz : Nat} {enc : α → List Value} {w : World} {base e g n cap : Nat} {l : List α}
theorem Own.atK (h : Own w base e sz enc (.slice (some ⟨g, 0, none⟩) n cap) l) (hn : l.length = n) (hs : ∀ x, (enc x).length = sz) {k : Nat} {x : α} (hx : l[k]? = some x) {j : Nat} {u : Value} (hu : (enc x)[j]? = some u) : w.cell? ⟨g, k * sz + j, none⟩ = some u := by
  subst hn
  have hk := (List.getElem?_eq_some_iff.1 hx).1
  have hj : j < sz := by have := (List.getElem?_eq_some_iff.1 hu).1; rwa [hs] at this
  have hlt : k * sz + j < l.length * sz := by
    have := Nat.mul_le_mul_right sz (show k + 1 ≤ l.length from hk)
    rw [Nat.add_mul] at this; omega
  rw [World.ownsRow.cellAt h (k * sz + j) hlt, flat_at hs l k x hx j hj]
  exact hu
theorem Own.frK (h : Own w base e sz enc (.slice (some ⟨g, 0, none⟩) n cap) l) (hn : l.length = n) (j : Nat) : w.frozen? ⟨g, j, none⟩ = false := by subst hn; exact World.ownsRow.frozenAt h j
theorem Own.setK (h : Own w base e sz enc (.slice (some ⟨g, 0, none⟩) n cap) l) (hn : l.length = n) (hs : ∀ x, (enc x).length = sz) {k : Nat} {x x' : α} (hx : l[k]? = some x) {j : Nat} {u : Value} (hj : j < sz) (hu : enc x' = (enc x).set j u) :
    Own (w.setCell ⟨g, k * sz + j, none⟩ u) base e sz enc (.slice (some ⟨g, 0, none⟩) n cap) (l.set k x') := by
  subst hn
  have := (World.ownsRow.stored h (k * sz + j) u).1
  unfold Own
  rw [List.length_set, ← flat_set hs l k x x' j u hx hj hu]
  exact this
end

def kindB (k : Int) : Bool := betwB k 1 4
def itmE (x : Itm) : Int := if kindB x.kind = true then (if betwB x.bits 0 65536 = true then 0 else 3) else 2
def firstE : List Itm → Int
  | [] => 0
  | x :: l => if itmE x = 0 then firstE l else itmE x
/-- The error of a ledger. -/
def ledE (l : List Itm) : Int := if 1000 < l.length then 5 else firstE l
theorem first_app (l m : List Itm) (h : firstE l = 0) : firstE (l ++ m) = firstE m := by
  induction l with
  | nil => rfl
  | cons x l ih =>
    rw [firstE] at h
    rw [List.cons_append, firstE]
    split at h
    · rename_i h1; rw [if_pos h1]; exact ih h
    · rename_i h1; exact (h1 h).elim
theorem first_take {l : List Itm} {k : Nat} {x : Itm} (h : firstE (l.take k) = 0) (hx : l[k]? = some x) (h0 : itmE x = 0) : firstE (l.take (k + 1)) = 0 := by
  rw [take_snoc hx, first_app _ _ h, firstE, if_pos h0]; rfl
theorem first_bad {l : List Itm} {k : Nat} {x : Itm} (h : firstE (l.take k) = 0) (hx : l[k]? = some x) (h0 : itmE x ≠ 0) : firstE l = itmE x := by
  obtain ⟨hk, rfl⟩ := List.getElem?_eq_some_iff.1 hx
  conv => lhs; rw [← List.take_append_drop k l]
  rw [first_app _ _ h, List.drop_eq_getElem_cons hk, firstE, if_neg h0]
theorem ledE_many {l : List Itm} (h : 1000 < l.length) : ledE l = 5 := by unfold ledE; rw [if_pos h]
theorem ledE_few {l : List Itm} (h : ¬ 1000 < l.length) : ledE l = firstE l := by unfold ledE; rw [if_neg h]
theorem itmE_cases (x : Itm) : (kindB x.kind = false ∧ itmE x = 2) ∨ (kindB x.kind = true ∧ betwB x.bits 0 65536 = false ∧ itmE x = 3) ∨ (kindB x.kind = true ∧ betwB x.bits 0 65536 = true ∧ itmE x = 0) := by
  unfold itmE
  cases kindB x.kind <;> cases betwB x.bits 0 65536 <;> simp
theorem first_all {l : List Itm} (h : firstE l = 0) {k : Nat} {x : Itm} (hx : l[k]? = some x) : kindB x.kind = true ∧ 0 ≤ x.bits ∧ x.bits ≤ 65536 := by
  induction l generalizing k with
  | nil => simp at hx
  | cons y l ih =>
    rw [firstE] at h
    split at h
    · rename_i h1
      cases k with
      | zero =>
        obtain rfl : y = x := by simpa using hx
        rcases itmE_cases y with ⟨_, h2⟩ | ⟨_, _, h2⟩ | ⟨h3, h4, _⟩
        · omega
        · omega
        · simp [betwB] at h4; exact ⟨h3, h4.1, h4.2⟩
      | succ k => exact ih h (by simpa using hx)
    · rename_i h1; exact (h1 h).elim
theorem ledE_zero {l : List Itm} : ledE l = 0 ↔ l.length ≤ 1000 ∧ firstE l = 0 := by
  unfold ledE; split <;> constructor <;> intro h <;> first | omega | (exact ⟨by omega, h⟩) | exact h.2
theorem firstE_cases (l : List Itm) : firstE l = 0 ∨ firstE l = 2 ∨ firstE l = 3 := by
  induction l with
  | nil => exact .inl rfl
  | cons x l ih =>
    rw [firstE]
    split
    · exact ih
    · rcases itmE_cases x with ⟨_, h⟩ | ⟨_, _, h⟩ | ⟨_, _, h⟩ <;> omega
theorem ledE_cases (l : List Itm) : ledE l = 0 ∨ ledE l = 2 ∨ ledE l = 3 ∨ ledE l = 5 := by
  unfold ledE; split
  · simp
  · have := firstE_cases l; omega

/-- The bits of the items of some kinds. -/
def sumBy (p : Int → Bool) : List Itm → Int
  | [] => 0
  | x :: l => (if p x.kind = true then x.bits else 0) + sumBy p l
theorem sumBy_app (p : Int → Bool) (l m : List Itm) : sumBy p (l ++ m) = sumBy p l + sumBy p m := by
  induction l with
  | nil => simp [sumBy]
  | cons x l ih => rw [List.cons_append, sumBy, sumBy, ih]; omega
theorem sumBy_take (p : Int → Bool) {l : List Itm} {k : Nat} {x : Itm} (hx : l[k]? = some x) : sumBy p (l.take (k + 1)) = sumBy p (l.take k) + (if p x.kind = true then x.bits else 0) := by
  rw [take_snoc hx, sumBy_app]; simp [sumBy]
theorem sumBy_bound (p : Int → Bool) {l : List Itm} (h : firstE l = 0) : 0 ≤ sumBy p l ∧ sumBy p l ≤ 65536 * l.length := by
  induction l with
  | nil => simp [sumBy]
  | cons x l ih =>
    have hx := first_all h (k := 0) (x := x) rfl
    rw [firstE] at h
    split at h
    · have := ih h
      rw [sumBy, List.length_cons]
      split <;> constructor <;> omega
    · rename_i h1; exact (h1 h).elim
theorem first_sub {l : List Itm} (h : firstE l = 0) (k : Nat) : firstE (l.take k) = 0 := by
  induction l generalizing k with
  | nil => simp [firstE]
  | cons x l ih =>
    cases k with
    | zero => rfl
    | succ k =>
      rw [firstE] at h
      split at h
      · rename_i h1; rw [List.take_succ_cons, firstE, if_pos h1]; exact ih h k
      · rename_i h1; exact (h1 h).elim
/-- All of a valid ledger's kinds count. -/
theorem sumBy_all {l : List Itm} (h : firstE l = 0) : sumBy kindB l = sumBy (fun _ => true) l := by
  induction l with
  | nil => rfl
  | cons x l ih =>
    have hx := (first_all h (k := 0) (x := x) rfl).1
    rw [firstE] at h
    split at h
    · rw [sumBy, sumBy, ih h, if_pos hx, if_pos rfl]
    · rename_i h1; exact (h1 h).elim
def totE (l : List Itm) : Int := if ledE l = 0 then sumBy (fun _ => true) l else 0
def ofE (l : List Itm) (k : Int) : Int := if ledE l = 0 then (if kindB k = true then 0 else 2) else ledE l
def ofI (l : List Itm) (k : Int) : Int := if ofE l k = 0 then sumBy (fun x => decide (x = k)) l else 0

/-- What an entry answers. -/
inductive Ent where
  | no (e : Int)
  | yes (l : List Itm)
def Ent.e : Ent → Int
  | .no e => e
  | .yes _ => 0
def Ent.l : Ent → List Itm
  | .no _ => []
  | .yes l => l
def ent (l : List Itm) (k b : Int) : Ent :=
  if ledE l ≠ 0 then .no (ledE l) else if kindB k = false then .no 2 else if betwB b 0 65536 = false then .no 3 else
  match l.getLast? with
  | none => .yes [⟨k, b⟩]
  | some x => if x.kind = k then (if 65536 < x.bits + b then .no 8 else .yes (l.set (l.length - 1) ⟨k, x.bits + b⟩)) else if l.length = 1000 then .no 5 else .yes (l ++ [⟨k, b⟩])

end Go.Proofs.YtiphhkfmemkldaaDoor
