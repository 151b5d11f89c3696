/- Plain: ledgers: what their check, their totals and an entry compute. No condition. Contracts of distil's between, kindOK, Check, sum, Total, Of. For lists whose length is an int's. Contracts of distil's Of and Enter. For lists whose length is an int's. Contracts of the reference's within, Check, Total, Of. For lists whose length is an int's. Contracts of distil's Enter and of the reference's. For lists whose length is an int's. Contract of the reference's Enter. For lists whose length is an int's. -/
import Derived.Test.YthcjlfnkpmeonaaMadeK
import Derived.Test.YthcjlfnkpmeonaaProg
namespace Go.Proofs.Ythcjlfnkpmeonaa
open Go.RowKit
set_option linter.unusedVariables false
set_option linter.unusedSimpArgs false

structure Itm where
  kind : Int
  bits : Int
def Itm.enc (c : Itm) : List Value := [.int .i64 c.kind, .int .i64 c.bits]
theorem Itm.enc_len (c : Itm) : c.enc.length = 2 := rfl
theorem Itm.one (c : Itm) : ∀ u ∈ c.enc, u.oneCell' = true := by simp [Itm.enc, Value.oneCell']
theorem Arr.itm {w w' : World} {B : Nat} {A : Option Addr} {k : Nat} {l : List Itm} (h : Arr 2 Itm.enc w B A l) (hk : k < l.length) (hb : Below B w w') :
    ∃ b off qk qb, A = some ⟨b, off, none⟩ ∧ b < B ∧ Hid (l[k]? = some ⟨qk, qb⟩) ∧ w'.cell? ⟨b, off + k * 2, none⟩ = some (.int .i64 qk) ∧ w'.cell? ⟨b, off + k * 2 + 1, none⟩ = some (.int .i64 qb) := by
  obtain ⟨b, off, rfl, hbb, hc⟩ := h.get hk hb
  exact ⟨b, off, _, _, rfl, hbb, List.getElem?_eq_getElem hk, hc 0 _ rfl, hc 1 _ rfl⟩

def kindB (k : Int) : Bool := betwB k 1 4
def itmE (x : Itm) : Int := if kindB x.kind = true then (if betwB x.bits 0 65536 = true then 0 else 3) else 2
def firstE : List Itm → Int
  | [] => 0
  | x :: l => if itmE x = 0 then firstE l else itmE x
/-- The error of a ledger. -/
def ledE (l : List Itm) : Int := if 1000 < l.length then 5 else firstE l
theorem first_app (l m : List Itm) (h : firstE l = 0) : firstE (l ++ m) = firstE m := by
  induction l with
  | nil => rfl
  | cons x l ih =>
    rw [firstE] at h
    rw [List.cons_append, firstE]
    split at h
    · rename_i h1; rw [if_pos h1]; exact ih h
    · rename_i h1; exact (h1 h).elim
theorem first_take {l : List Itm} {k : Nat} {x : Itm} (h : firstE (l.take k) = 0) (hx : l[k]? = some x) (h0 : itmE x = 0) : firstE (l.take (k + 1)) = 0 := by
  rw [take_snoc hx, first_app _ _ h, firstE, if_pos h0]; rfl
theorem first_bad {l : List Itm} {k : Nat} {x : Itm} (h : firstE (l.take k) = 0) (hx : l[k]? = some x) (h0 : itmE x ≠ 0) : firstE l = itmE x := by
  obtain ⟨hk, rfl⟩ := List.getElem?_eq_some_iff.1 hx
  conv => lhs; rw [← List.take_append_drop k l]
  rw [first_app _ _ h, List.drop_eq_getElem_cons hk, firstE, if_neg h0]
theorem ledE_many {l : List Itm} (h : 1000 < l.length) : ledE l = 5 := by unfold ledE; rw [if_pos h]
theorem ledE_few {l : List Itm} (h : ¬ 1000 < l.length) : ledE l = firstE l := by unfold ledE; rw [if_neg h]
theorem itmE_cases (x : Itm) : (kindB x.kind = false ∧ itmE x = 2) ∨ (kindB x.kind = true ∧ betwB x.bits 0 65536 = false ∧ itmE x = 3) ∨ (kindB x.kind = true ∧ betwB x.bits 0 65536 = true ∧ itmE x = 0) := by
  unfold itmE
  cases kindB x.kind <;> cases betwB x.bits 0 65536 <;> simp
theorem first_all {l : List Itm} (h : firstE l = 0) {k : Nat} {x : Itm} (hx : l[k]? = some x) : kindB x.kind = true ∧ 0 ≤ x.bits ∧ x.bits ≤ 65536 := by
  induction l generalizing k with
  | nil => simp at hx
  | cons y l ih =>
    rw [firstE] at h
    split at h
    · rename_i h1
      cases k with
      | zero =>
        obtain rfl : y = x := by simpa using hx
        rcases itmE_cases y with ⟨_, h2⟩ | ⟨_, _, h2⟩ | ⟨h3, h4, _⟩
        · omega
        · omega
        · simp [betwB] at h4; exact ⟨h3, h4.1, h4.2⟩
      | succ k => exact ih h (by simpa using hx)
    · rename_i h1; exact (h1 h).elim
theorem ledE_zero {l : List Itm} : ledE l = 0 ↔ l.length ≤ 1000 ∧ firstE l = 0 := by
  unfold ledE; split <;> constructor <;> intro h <;> first | omega | (exact ⟨by omega, h⟩) | exact h.2
theorem firstE_cases (l : List Itm) : firstE l = 0 ∨ firstE l = 2 ∨ firstE l = 3 := by
  induction l with
  | nil => exact .inl rfl
  | cons x l ih =>
    rw [firstE]
    split
    · exact ih
    · rcases itmE_cases x with ⟨_, h⟩ | ⟨_, _, h⟩ | ⟨_, _, h⟩ <;> omega
theorem ledE_cases (l : List Itm) : ledE l = 0 ∨ ledE l = 2 ∨ ledE l = 3 ∨ ledE l = 5 := by
  unfold ledE; split
  · simp
  · have := firstE_cases l; omega

/-- The bits of the items of some kinds. -/
def sumBy (p : Int → Bool) : List Itm → Int
  | [] => 0
  | x :: l => (if p x.kind = true then x.bits else 0) + sumBy p l
theorem sumBy_app (p : Int → Bool) (l m : List Itm) : sumBy p (l ++ m) = sumBy p l + sumBy p m := by
  induction l with
  | nil => simp [sumBy]
  | cons x l ih => rw [List.cons_append, sumBy, sumBy, ih]; omega
theorem sumBy_take (p : Int → Bool) {l : List Itm} {k : Nat} {x : Itm} (hx : l[k]? = some x) : sumBy p (l.take (k + 1)) = sumBy p (l.take k) + (if p x.kind = true then x.bits else 0) := by
  rw [take_snoc hx, sumBy_app]; simp [sumBy]
theorem sumBy_bound (p : Int → Bool) {l : List Itm} (h : firstE l = 0) : 0 ≤ sumBy p l ∧ sumBy p l ≤ 65536 * l.length := by
  induction l with
  | nil => simp [sumBy]
  | cons x l ih =>
    have hx := first_all h (k := 0) (x := x) rfl
    rw [firstE] at h
    split at h
    · have := ih h
      rw [sumBy, List.length_cons]
      split <;> constructor <;> omega
    · rename_i h1; exact (h1 h).elim
theorem first_sub {l : List Itm} (h : firstE l = 0) (k : Nat) : firstE (l.take k) = 0 := by
  induction l generalizing k with
  | nil => simp [firstE]
  | cons x l ih =>
    cases k with
    | zero => rfl
    | succ k =>
      rw [firstE] at h
      split at h
      · rename_i h1; rw [List.take_succ_cons, firstE, if_pos h1]; exact ih h k
      · rename_i h1; exact (h1 h).elim
/-- All of a valid ledger's kinds count. -/
theorem sumBy_all {l : List Itm} (h : firstE l = 0) : sumBy kindB l = sumBy (fun _ => true) l := by
  induction l with
  | nil => rfl
  | cons x l ih =>
    have hx := (first_all h (k := 0) (x := x) rfl).1
    rw [firstE] at h
    split at h
    · rw [sumBy, sumBy, ih h, if_pos hx, if_pos rfl]
    · rename_i h1; exact (h1 h).elim
def totE (l : List Itm) : Int := if ledE l = 0 then sumBy (fun _ => true) l else 0
def ofE (l : List Itm) (k : Int) : Int := if ledE l = 0 then (if kindB k = true then 0 else 2) else ledE l
def ofI (l : List Itm) (k : Int) : Int := if ofE l k = 0 then sumBy (fun x => decide (x = k)) l else 0

/-- What an entry answers. -/
inductive Ent where
  | no (e : Int)
  | yes (l : List Itm)
def Ent.e : Ent → Int
  | .no e => e
  | .yes _ => 0
def Ent.l : Ent → List Itm
  | .no _ => []
  | .yes l => l
def ent (l : List Itm) (k b : Int) : Ent :=
  if ledE l ≠ 0 then .no (ledE l) else if kindB k = false then .no 2 else if betwB b 0 65536 = false then .no 3 else
  match l.getLast? with
  | none => .yes [⟨k, b⟩]
  | some x => if x.kind = k then (if 65536 < x.bits + b then .no 8 else .yes (l.set (l.length - 1) ⟨k, x.bits + b⟩)) else if l.length = 1000 then .no 5 else .yes (l ++ [⟨k, b⟩])

end Go.Proofs.Ythcjlfnkpmeonaa

namespace Go.Proofs.Ythcjlfnkpmeonaa
open Go.RowKit
set_option linter.unusedVariables false
set_option linter.unusedSimpArgs false

end Go.Proofs.Ythcjlfnkpmeonaa

namespace Go.Proofs.Ythcjlfnkpmeonaa
open Go.RowKit
set_option linter.unusedVariables false
set_option linter.unusedSimpArgs false

def isK (kk x : Int) : Bool := decide (x = kk)
def kOf (kk : Int) (l : List Itm) : Int := if ledE l = 0 then sumBy (isK kk) l else 0
theorem ofE_eq (l : List Itm) (k : Int) : ofE l k = if ledE l = 0 then (if kindB k = true then 0 else 2) else ledE l := rfl
end Go.Proofs.Ythcjlfnkpmeonaa

namespace Go.Proofs.Ythcjlfnkpmeonaa
open Go.RowKit
set_option linter.unusedVariables false
set_option linter.unusedSimpArgs false

theorem kind_cases (k : Int) : (kindB k = true ∧ 1 ≤ k ∧ k ≤ 4) ∨ (kindB k = false ∧ k < 1) ∨ (kindB k = false ∧ 4 < k) := by
  unfold kindB betwB
  by_cases h1 : 1 ≤ k <;> by_cases h2 : k ≤ 4 <;> simp [h1, h2] <;> omega

end Go.Proofs.Ythcjlfnkpmeonaa

namespace Go.Proofs.Ythcjlfnkpmeonaa
open Go.RowKit
set_option linter.unusedVariables false
set_option linter.unusedSimpArgs false

theorem item_info : (Try.prog.info? 189).map (fun i => (i.zero, i.size, i.bytes)) = some (some (.agg #[.int .i64 0, .int .i64 0]), 2, 16) := by kernel_rfl
theorem iparts {P : Program} {e : TypeId} {z : Value} {s b : Nat} (h : (P.info? e).map (fun i => (i.zero, i.size, i.bytes)) = some (some z, s, b)) : ∃ i, P.info? e = some i ∧ i.zero = some z ∧ i.size = s ∧ i.bytes = b := by
  obtain ⟨i, hi, hzz⟩ := Option.map_eq_some_iff.1 h
  simp only [Prod.mk.injEq] at hzz
  exact ⟨i, hi, hzz.1, hzz.2.1, hzz.2.2⟩
theorem below_of_grown {w w' : World} (h : w.grownBy w' none) : Below w.heap.size w w' := ⟨h.os, h.tape, h.output, h.size, fun k hk => h.block k hk (by simp)⟩
theorem own_ptr {α : Type} {w : World} {base e sz : Nat} {enc : α → List Value} {v : Value} {l : List α} (h : Own w base e sz enc v l) (hl : 0 < l.length) : ∃ g cap, v = .slice (some ⟨g, 0, none⟩) l.length cap ∧ base ≤ g ∧ g < w.heap.size := by
  rcases h.2 with ⟨_, h0⟩ | ⟨g, cap, cur, rfl, hb, hg, _⟩
  · omega
  · exact ⟨g, cap, rfl, hb, (Array.getElem?_eq_some_iff.1 hg).1⟩

theorem ent_led {l : List Itm} {k b : Int} (h : ledE l ≠ 0) : ent l k b = .no (ledE l) := by unfold ent; rw [if_pos h]
theorem ent_kind {l : List Itm} {k b : Int} (h : ledE l = 0) (hk : kindB k = false) : ent l k b = .no 2 := by unfold ent; rw [if_neg (by simp [h]), if_pos hk]
theorem ent_bits {l : List Itm} {k b : Int} (h : ledE l = 0) (hk : kindB k = true) (hb : betwB b 0 65536 = false) : ent l k b = .no 3 := by unfold ent; rw [if_neg (by simp [h]), if_neg (by simp [hk]), if_pos hb]
theorem ent_nil {k b : Int} (hk : kindB k = true) (hb : betwB b 0 65536 = true) : ent [] k b = .yes [⟨k, b⟩] := by
  unfold ent; rw [if_neg (by simp [ledE, firstE]), if_neg (by simp [hk]), if_neg (by simp [hb])]; rfl
theorem ent_last {l : List Itm} {k b : Int} {x : Itm} (h : ledE l = 0) (hk : kindB k = true) (hb : betwB b 0 65536 = true) (hx : l.getLast? = some x) : ent l k b =
    if x.kind = k then (if 65536 < x.bits + b then .no 8 else .yes (l.set (l.length - 1) ⟨k, x.bits + b⟩)) else if l.length = 1000 then .no 5 else .yes (l ++ [⟨k, b⟩]) := by
  unfold ent; rw [if_neg (by simp [h]), if_neg (by simp [hk]), if_neg (by simp [hb]), hx]
theorem last_at {l : List Itm} {j : Nat} {x : Itm} (hj : j + 1 = l.length) (hx : l[j]? = some x) : l.getLast? = some x := by
  rw [List.getLast?_eq_getElem?, show l.length - 1 = j from by omega]; exact hx
theorem below_set {a w : World} (h : Below a.heap.size a w) {g k : Nat} {u : Value} (hg : a.heap.size ≤ g) : Below a.heap.size a (w.setCell ⟨g, k, none⟩ u) := h.setCell hg _

end Go.Proofs.Ythcjlfnkpmeonaa

namespace Go.Proofs.Ythcjlfnkpmeonaa
open Go.RowKit
set_option linter.unusedVariables false
set_option linter.unusedSimpArgs false

end Go.Proofs.Ythcjlfnkpmeonaa
