/- Plain: ledgers: what their check, their totals and an entry compute. No condition. Contracts of distil's between, kindOK, Check, sum, Total, Of. For lists whose length is an int's. Contracts of distil's Of and Enter. For lists whose length is an int's. Contracts of the reference's within, Check, Total, Of. For lists whose length is an int's. Contracts of distil's Enter and of the reference's. For lists whose length is an int's. Contract of the reference's Enter. For lists whose length is an int's. -/
import Derived.Test.YtfolgmcoggejbaaGreatMadeK
import Derived.Test.YtfolgmcoggejbaaGreatProg
namespace Go.Proofs.YtfolgmcoggejbaaGreat
open Go.RowKit
set_option linter.unusedVariables false
set_option linter.unusedSimpArgs false

structure Itm where
  kind : Int
  bits : Int
def Itm.enc (c : Itm) : List Value := [.int .i64 c.kind, .int .i64 c.bits]
theorem Itm.enc_len (c : Itm) : c.enc.length = 2 := rfl
theorem Itm.one (c : Itm) : ∀ u ∈ c.enc, u.oneCell' = true := by simp [Itm.enc, Value.oneCell']
theorem Arr.itm {w w' : World} {B : Nat} {A : Option Addr} {k : Nat} {l : List Itm} (h : Arr 2 Itm.enc w B A l) (hk : k < l.length) (hb : Below B w w') :
    ∃ b off qk qb, A = some ⟨b, off, none⟩ ∧ b < B ∧ Hid (l[k]? = some ⟨qk, qb⟩) ∧ w'.cell? ⟨b, off + k * 2, none⟩ = some (.int .i64 qk) ∧ w'.cell? ⟨b, off + k * 2 + 1, none⟩ = some (.int .i64 qb) := by
  obtain ⟨b, off, rfl, hbb, hc⟩ := h.get hk hb
  exact ⟨b, off, _, _, rfl, hbb, List.getElem?_eq_getElem hk, hc 0 _ rfl, hc 1 _ rfl⟩

def kindB (k : Int) : Bool := betwB k 1 4
def itmE (x : Itm) : Int := if kindB x.kind = true then (if betwB x.bits 0 65536 = true then 0 else 3) else 2
def firstE : List Itm → Int
  | [] => 0
  | x :: l => if itmE x = 0 then firstE l else itmE x
/-- The error of a ledger. -/
def ledE (l : List Itm) : Int := if 1000 < l.length then 5 else firstE l
theorem first_app (l m : List Itm) (h : firstE l = 0) : firstE (l ++ m) = firstE m := by
  induction l with
  | nil => rfl
  | cons x l ih =>
    rw [firstE] at h
    rw [List.cons_append, firstE]
    split at h
    · rename_i h1; rw [if_pos h1]; exact ih h
    · rename_i h1; exact (h1 h).elim
theorem first_take {l : List Itm} {k : Nat} {x : Itm} (h : firstE (l.take k) = 0) (hx : l[k]? = some x) (h0 : itmE x = 0) : firstE (l.take (k + 1)) = 0 := by
  rw [take_snoc hx, first_app _ _ h, firstE, if_pos h0]; rfl
theorem first_bad {l : List Itm} {k : Nat} {x : Itm} (h : firstE (l.take k) = 0) (hx : l[k]? = some x) (h0 : itmE x ≠ 0) : firstE l = itmE x := by
  obtain ⟨hk, rfl⟩ := List.getElem?_eq_some_iff.1 hx
  conv => lhs; rw [← List.take_append_drop k l]
  rw [first_app _ _ h, List.drop_eq_getElem_cons hk, firstE, if_neg h0]
theorem ledE_many {l : List Itm} (h : 1000 < l.length) : ledE l = 5 := by unfold ledE; rw [if_pos h]
theorem ledE_few {l : List Itm} (h : ¬ 1000 < l.length) : ledE l = firstE l := by unfold ledE; rw [if_neg h]
theorem itmE_cases (x : Itm) : (kindB x.kind = false ∧ itmE x = 2) ∨ (kindB x.kind = true ∧ betwB x.bits 0 65536 = false ∧ itmE x = 3) ∨ (kindB x.kind = true ∧ betwB x.bits 0 65536 = true ∧ itmE x = 0) := by
  unfold itmE
  cases kindB x.kind <;> cases betwB x.bits 0 65536 <;> simp
theorem first_all {l : List Itm} (h : firstE l = 0) {k : Nat} {x : Itm} (hx : l[k]? = some x) : kindB x.kind = true ∧ 0 ≤ x.bits ∧ x.bits ≤ 65536 := by
  induction l generalizing k with
  | nil => simp at hx
  | cons y l ih =>
    rw [firstE] at h
    split at h
    · rename_i h1
      cases k with
      | zero =>
        obtain rfl : y = x := by simpa using hx
        rcases itmE_cases y with ⟨_, h2⟩ | ⟨_, _, h2⟩ | ⟨h3, h4, _⟩
        · omega
        · omega
        · simp [betwB] at h4; exact ⟨h3, h4.1, h4.2⟩
      | succ k => exact ih h (by simpa using hx)
    · rename_i h1; exact (h1 h).elim
theorem ledE_zero {l : List Itm} : ledE l = 0 ↔ l.length ≤ 1000 ∧ firstE l = 0 := by
  unfold ledE; split <;> constructor <;> intro h <;> first | omega | (exact ⟨by omega, h⟩) | exact h.2
theorem firstE_cases (l : List Itm) : firstE l = 0 ∨ firstE l = 2 ∨ firstE l = 3 := by
  induction l with
  | nil => exact .inl rfl
  | cons x l ih =>
    rw [firstE]
    split
    · exact ih
    · rcases itmE_cases x with ⟨_, h⟩ | ⟨_, _, h⟩ | ⟨_, _, h⟩ <;> omega
theorem ledE_cases (l : List Itm) : ledE l = 0 ∨ ledE l = 2 ∨ ledE l = 3 ∨ ledE l = 5 := by
  unfold ledE; split
  · simp
  · have := firstE_cases l; omega

/-- The bits of the items of some kinds. -/
def sumBy (p : Int → Bool) : List Itm → Int
  | [] => 0
  | x :: l => (if p x.kind = true then x.bits else 0) + sumBy p l
theorem sumBy_app (p : Int → Bool) (l m : List Itm) : sumBy p (l ++ m) = sumBy p l + sumBy p m := by
  induction l with
  | nil => simp [sumBy]
  | cons x l ih => rw [List.cons_append, sumBy, sumBy, ih]; omega
theorem sumBy_take (p : Int → Bool) {l : List Itm} {k : Nat} {x : Itm} (hx : l[k]? = some x) : sumBy p (l.take (k + 1)) = sumBy p (l.take k) + (if p x.kind = true then x.bits else 0) := by
  rw [take_snoc hx, sumBy_app]; simp [sumBy]
theorem sumBy_bound (p : Int → Bool) {l : List Itm} (h : firstE l = 0) : 0 ≤ sumBy p l ∧ sumBy p l ≤ 65536 * l.length := by
  induction l with
  | nil => simp [sumBy]
  | cons x l ih =>
    have hx := first_all h (k := 0) (x := x) rfl
    rw [firstE] at h
    split at h
    · have := ih h
      rw [sumBy, List.length_cons]
      split <;> constructor <;> omega
    · rename_i h1; exact (h1 h).elim
theorem first_sub {l : List Itm} (h : firstE l = 0) (k : Nat) : firstE (l.take k) = 0 := by
  induction l generalizing k with
  | nil => simp [firstE]
  | cons x l ih =>
    cases k with
    | zero => rfl
    | succ k =>
      rw [firstE] at h
      split at h
      · rename_i h1; rw [List.take_succ_cons, firstE, if_pos h1]; exact ih h k
      · rename_i h1; exact (h1 h).elim
/-- All of a valid ledger's kinds count. -/
theorem sumBy_all {l : List Itm} (h : firstE l = 0) : sumBy kindB l = sumBy (fun _ => true) l := by
  induction l with
  | nil => rfl
  | cons x l ih =>
    have hx := (first_all h (k := 0) (x := x) rfl).1
    rw [firstE] at h
    split at h
    · rw [sumBy, sumBy, ih h, if_pos hx, if_pos rfl]
    · rename_i h1; exact (h1 h).elim
def totE (l : List Itm) : Int := if ledE l = 0 then sumBy (fun _ => true) l else 0
def ofE (l : List Itm) (k : Int) : Int := if ledE l = 0 then (if kindB k = true then 0 else 2) else ledE l
def ofI (l : List Itm) (k : Int) : Int := if ofE l k = 0 then sumBy (fun x => decide (x = k)) l else 0

/-- What an entry answers. -/
inductive Ent where
  | no (e : Int)
  | yes (l : List Itm)
def Ent.e : Ent → Int
  | .no e => e
  | .yes _ => 0
def Ent.l : Ent → List Itm
  | .no _ => []
  | .yes l => l
def ent (l : List Itm) (k b : Int) : Ent :=
  if ledE l ≠ 0 then .no (ledE l) else if kindB k = false then .no 2 else if betwB b 0 65536 = false then .no 3 else
  match l.getLast? with
  | none => .yes [⟨k, b⟩]
  | some x => if x.kind = k then (if 65536 < x.bits + b then .no 8 else .yes (l.set (l.length - 1) ⟨k, x.bits + b⟩)) else if l.length = 1000 then .no 5 else .yes (l ++ [⟨k, b⟩])

end Go.Proofs.YtfolgmcoggejbaaGreat

namespace Go.Proofs.YtfolgmcoggejbaaGreat
open Go.RowKit
set_option linter.unusedVariables false
set_option linter.unusedSimpArgs false

set_option maxHeartbeats 400000 in
theorem dbetween_any (n a b : Int) (w : World) :
    Calls Tryz.prog 50 #[.int .i64 n, .int .i64 a, .int .i64 b] w fun e w' => e = .returned (.bool (betwB n a b)) ∧ w = w' := by
  go_enter Tryz.func50, Tryz.ntmps50
  go_wp2
  all_goals (go_ret; exact ⟨ret_bool (by simp [betwB]; try omega), rfl⟩)
theorem kindOK_any (n : Int) (w : World) :
    Calls Tryz.prog 49 #[.int .i64 n] w fun e w' => e = .returned (.bool (kindB n)) ∧ w = w' := by
  go_enter Tryz.func49, Tryz.ntmps49
  go_wp2_with (go_at_call 50; refine (dbetween_any _ _ _ _).mono ?_; rintro e w' ⟨rfl, rfl⟩)
  go_ret
  exact ⟨rfl, rfl⟩

set_option maxHeartbeats 1000000 in
theorem dCheck_any (A : Option Addr) (c : Nat) (l : List Itm) (w : World) (h : Arr 2 Itm.enc w w.heap.size A l) (hl : l.length ≤ 4611686018427387904) :
    Calls Tryz.prog 48 #[.slice A l.length c] w fun e w' => e = .returned (.int .i64 (ledE l)) ∧ Below w.heap.size w w' := by
  by_cases h4 : 1000 < l.length
  · go_enter Tryz.func48, Tryz.ntmps48
    go_wp2
    go_ret
    exact ⟨ret_int (ledE_many h4).symm, Below.refl _ _⟩
  · have h4' : decide (1000 < (l.length : Int)) = false := by simp; omega
    go_enter Tryz.func48, Tryz.ntmps48
    go_wp2
    go_loopw [10] (fun i wr => ∃ k : Nat, k ≤ l.length ∧ i = .int .i64 k ∧ firstE (l.take k) = 0 ∧ Below w.heap.size w wr) (fun i _ => l.length - (intOf i).toNat)
    case atStart => exact ⟨0, Nat.zero_le _, rfl, rfl, Below.refl _ _⟩
    case round =>
      obtain ⟨k, hk, rfl, hall, hb⟩ := hrel
      have Hall := Lib.hid hall; clear hall
      by_cases hlt : k < l.length
      · obtain ⟨b, off, qk, qb, rfl, hbb, hq, c0, c1⟩ := h.itm hlt hb
        have hb2 := below_alloc hb (.cells #[.int .i64 qk, .int .i64 qb] 141)
        rcases itmE_cases ⟨qk, qb⟩ with ⟨k1, e1⟩ | ⟨k1, k2, e1⟩ | ⟨k1, k2, e1⟩
        · have K1 := Lib.hid k1
          have fin := Lib.hid ((ledE_few h4).trans ((first_bad Hall.out hq.out (by rw [e1]; decide)).trans e1))
          clear k1 e1
          go_wp2_with (go_at_call 49; refine (kindOK_any _ _).mono ?_; rintro e w' ⟨rfl, rfl⟩; rw [K1.out])
          go_ret
          exact ⟨ret_int fin.out.symm, hb2⟩
        · have K1 := Lib.hid k1
          have K2 := Lib.hid k2
          have fin := Lib.hid ((ledE_few h4).trans ((first_bad Hall.out hq.out (by rw [e1]; decide)).trans e1))
          clear k1 k2 e1
          go_wp2_with (first | (go_at_call 49; refine (kindOK_any _ _).mono ?_; rintro e w' ⟨rfl, rfl⟩; rw [K1.out]) | (go_at_call 50; refine (dbetween_any _ _ _ _).mono ?_; rintro e w' ⟨rfl, rfl⟩; rw [K2.out]))
          go_ret
          exact ⟨ret_int fin.out.symm, hb2⟩
        · have K1 := Lib.hid k1
          have K2 := Lib.hid k2
          have fin := Lib.hid (first_take Hall.out hq.out e1)
          clear k1 k2 e1
          go_wp2_with (first | (go_at_call 49; refine (kindOK_any _ _).mono ?_; rintro e w' ⟨rfl, rfl⟩; rw [K1.out]) | (go_at_call 50; refine (dbetween_any _ _ _ _).mono ?_; rintro e w' ⟨rfl, rfl⟩; rw [K2.out]))
          go_roundw
          case rel => exact ⟨k + 1, by omega, by go_num, fin.out, hb2⟩
          case measure => simp [intOf]; omega
      · go_wp2
        go_ret
        exact ⟨ret_int (by rw [ledE_few h4, ← Hall.out, List.take_of_length_le (by omega)]), hb⟩

set_option maxHeartbeats 1000000 in
theorem sumKind_any (A : Option Addr) (c : Nat) (l : List Itm) (w : World) (h : Arr 2 Itm.enc w w.heap.size A l) (hl : l.length ≤ 4611686018427387904) :
    Calls Tryz.prog 163 #[.slice A l.length c, .func (.func 49) #[] #[]] w fun e w' => e = .returned (.tuple #[.int .i64 (totE l), .int .i64 (ledE l)]) ∧ Below w.heap.size w w' := by
  by_cases h0 : ledE l = 0
  · obtain ⟨hl1, hf⟩ := ledE_zero.1 h0
    have cC := dCheck_any A c l w h hl
    rw [h0] at cC
    have fin : Hid (totE l = sumBy kindB l) := Lib.hid (by unfold totE; rw [if_pos h0, sumBy_all hf])
    have Hf := Lib.hid hf
    have H0 := Lib.hid h0
    clear h0 hf
    go_enter Tryz.func163, Tryz.ntmps163
    go_wp2_with (go_at_call 48; refine cC.mono ?_; rintro e w1 ⟨rfl, hb1⟩)
    go_loopw [7, 17] (fun s i wr => ∃ k : Nat, k ≤ l.length ∧ i = .int .i64 k ∧ s = .int .i64 (sumBy kindB (l.take k)) ∧ Below w.heap.size w wr) (fun _ i _ => l.length - (intOf i).toNat)
    case atStart => exact ⟨0, Nat.zero_le _, rfl, rfl, hb1⟩
    case round =>
      obtain ⟨k, hk, rfl, rfl, hb⟩ := hrel
      have sb := sumBy_bound kindB (first_sub Hf.out k)
      rw [List.length_take] at sb
      by_cases hlt : k < l.length
      · obtain ⟨b, off, qk, qb, rfl, hbb, hq, c0, c1⟩ := h.itm hlt hb
        have hb2 := below_alloc hb (.cells #[.int .i64 qk, .int .i64 qb] 141)
        have st := Lib.hid (sumBy_take kindB hq.out)
        obtain ⟨_, q1, q2⟩ := first_all Hf.out hq.out
        simp only at q1 q2
        have sm : min k l.length = k := by omega
        rw [sm] at sb
        obtain ⟨s, hs⟩ : ∃ s, sumBy kindB (l.take k) = s := ⟨_, rfl⟩
        rw [hs] at sb ⊢
        have Hs := Lib.hid hs
        clear hs sm
        cases k1 : kindB qk
        · have K1 := Lib.hid k1
          clear k1
          go_wp2_with (go_at_call 49; refine (kindOK_any _ _).mono ?_; rintro e w' ⟨rfl, rfl⟩; rw [K1.out])
          go_roundw
          case rel => exact ⟨k + 1, by omega, by go_num, by rw [st.out, Hs.out]; simp [K1.out], hb2⟩
          case measure => simp [intOf]; omega
        · have K1 := Lib.hid k1
          clear k1
          go_wp2_with (go_at_call 49; refine (kindOK_any _ _).mono ?_; rintro e w' ⟨rfl, rfl⟩; rw [K1.out])
          go_roundw
          case rel => exact ⟨k + 1, by omega, by go_num, by rw [st.out, Hs.out]; simp [K1.out], hb2⟩
          case measure => simp [intOf]; omega
      · have e1 : Hid (l.take k = l) := Lib.hid (List.take_of_length_le (by omega))
        rw [e1.out]
        go_wp2
        go_ret2
        exact ⟨by rw [fin.out, H0.out]; rfl, hb⟩
  · have h0' : (ledE l != 0) = true := by simpa using h0
    have fin : Hid (totE l = 0) := Lib.hid (by unfold totE; rw [if_neg h0])
    go_enter Tryz.func163, Tryz.ntmps163
    go_wp2_with (go_at_call 48; refine (dCheck_any A c l w h hl).mono ?_; rintro e w1 ⟨rfl, hb1⟩)
    go_ret2
    exact ⟨by rw [fin.out]; rfl, hb1⟩
theorem Total_any (A : Option Addr) (c : Nat) (l : List Itm) (w : World) (h : Arr 2 Itm.enc w w.heap.size A l) (hl : l.length ≤ 4611686018427387904) :
    Calls Tryz.prog 113 #[.slice A l.length c] w fun e w' => e = .returned (.tuple #[.int .i64 (totE l), .int .i64 (ledE l)]) ∧ Below w.heap.size w w' := by
  go_enter Tryz.func113, Tryz.ntmps113
  go_wp2_with (go_at_call 163; refine (sumKind_any A c l w h hl).mono ?_; rintro e w1 ⟨rfl, hb1⟩)
  go_ret2
  exact ⟨rfl, hb1⟩

end Go.Proofs.YtfolgmcoggejbaaGreat

namespace Go.Proofs.YtfolgmcoggejbaaGreat
open Go.RowKit
set_option linter.unusedVariables false
set_option linter.unusedSimpArgs false

def isK (kk x : Int) : Bool := decide (x = kk)
def kOf (kk : Int) (l : List Itm) : Int := if ledE l = 0 then sumBy (isK kk) l else 0
theorem ofE_eq (l : List Itm) (k : Int) : ofE l k = if ledE l = 0 then (if kindB k = true then 0 else 2) else ledE l := rfl
end Go.Proofs.YtfolgmcoggejbaaGreat

namespace Go.Proofs.YtfolgmcoggejbaaGreat
open Go.RowKit
set_option linter.unusedVariables false
set_option linter.unusedSimpArgs false

theorem kind_cases (k : Int) : (kindB k = true ∧ 1 ≤ k ∧ k ≤ 4) ∨ (kindB k = false ∧ k < 1) ∨ (kindB k = false ∧ 4 < k) := by
  unfold kindB betwB
  by_cases h1 : 1 ≤ k <;> by_cases h2 : k ≤ 4 <;> simp [h1, h2] <;> omega

end Go.Proofs.YtfolgmcoggejbaaGreat

namespace Go.Proofs.YtfolgmcoggejbaaGreat
open Go.RowKit
set_option linter.unusedVariables false
set_option linter.unusedSimpArgs false

theorem item_info : (Tryz.prog.info? 141).map (fun i => (i.zero, i.size, i.bytes)) = some (some (.agg #[.int .i64 0, .int .i64 0]), 2, 16) := by kernel_rfl
theorem iparts {P : Program} {e : TypeId} {z : Value} {s b : Nat} (h : (P.info? e).map (fun i => (i.zero, i.size, i.bytes)) = some (some z, s, b)) : ∃ i, P.info? e = some i ∧ i.zero = some z ∧ i.size = s ∧ i.bytes = b := by
  obtain ⟨i, hi, hzz⟩ := Option.map_eq_some_iff.1 h
  simp only [Prod.mk.injEq] at hzz
  exact ⟨i, hi, hzz.1, hzz.2.1, hzz.2.2⟩
theorem below_of_grown {w w' : World} (h : w.grownBy w' none) : Below w.heap.size w w' := ⟨h.os, h.tape, h.output, h.size, fun k hk => h.block k hk (by simp)⟩
theorem own_ptr {α : Type} {w : World} {base e sz : Nat} {enc : α → List Value} {v : Value} {l : List α} (h : Own w base e sz enc v l) (hl : 0 < l.length) : ∃ g cap, v = .slice (some ⟨g, 0, none⟩) l.length cap ∧ base ≤ g ∧ g < w.heap.size := by
  rcases h.2 with ⟨_, h0⟩ | ⟨g, cap, cur, rfl, hb, hg, _⟩
  · omega
  · exact ⟨g, cap, rfl, hb, (Array.getElem?_eq_some_iff.1 hg).1⟩

theorem ent_led {l : List Itm} {k b : Int} (h : ledE l ≠ 0) : ent l k b = .no (ledE l) := by unfold ent; rw [if_pos h]
theorem ent_kind {l : List Itm} {k b : Int} (h : ledE l = 0) (hk : kindB k = false) : ent l k b = .no 2 := by unfold ent; rw [if_neg (by simp [h]), if_pos hk]
theorem ent_bits {l : List Itm} {k b : Int} (h : ledE l = 0) (hk : kindB k = true) (hb : betwB b 0 65536 = false) : ent l k b = .no 3 := by unfold ent; rw [if_neg (by simp [h]), if_neg (by simp [hk]), if_pos hb]
theorem ent_nil {k b : Int} (hk : kindB k = true) (hb : betwB b 0 65536 = true) : ent [] k b = .yes [⟨k, b⟩] := by
  unfold ent; rw [if_neg (by simp [ledE, firstE]), if_neg (by simp [hk]), if_neg (by simp [hb])]; rfl
theorem ent_last {l : List Itm} {k b : Int} {x : Itm} (h : ledE l = 0) (hk : kindB k = true) (hb : betwB b 0 65536 = true) (hx : l.getLast? = some x) : ent l k b =
    if x.kind = k then (if 65536 < x.bits + b then .no 8 else .yes (l.set (l.length - 1) ⟨k, x.bits + b⟩)) else if l.length = 1000 then .no 5 else .yes (l ++ [⟨k, b⟩]) := by
  unfold ent; rw [if_neg (by simp [h]), if_neg (by simp [hk]), if_neg (by simp [hb]), hx]
theorem last_at {l : List Itm} {j : Nat} {x : Itm} (hj : j + 1 = l.length) (hx : l[j]? = some x) : l.getLast? = some x := by
  rw [List.getLast?_eq_getElem?, show l.length - 1 = j from by omega]; exact hx
theorem below_set {a w : World} (h : Below a.heap.size a w) {g k : Nat} {u : Value} (hg : a.heap.size ≤ g) : Below a.heap.size a (w.setCell ⟨g, k, none⟩ u) := h.setCell hg _

set_option maxRecDepth 100000 in
set_option maxHeartbeats 4000000 in
theorem Enter_any (A : Option Addr) (c : Nat) (l : List Itm) (k b : Int) (w : World) (h : Arr 2 Itm.enc w w.heap.size A l) (hl : l.length ≤ 4611686018427387904) (hnil : A = none → c = 0) :
    Calls Tryz.prog 10 #[.slice A l.length c, .int .i64 k, .int .i64 b] w fun e w' => ∃ v, e = .returned (.tuple #[v, .int .i64 (ent l k b).e]) ∧ Own w' w.heap.size 141 2 Itm.enc v (ent l k b).l ∧ Below w.heap.size w w' := by
  by_cases h0 : ledE l = 0
  case neg =>
    rw [ent_led h0]
    have h0' : (ledE l != 0) = true := by simpa using h0
    go_enter Tryz.func10, Tryz.ntmps10
    go_wp2_with (go_at_call 48; refine (dCheck_any A c l w h hl).mono ?_; rintro e w1 ⟨rfl, hb1⟩)
    go_ret2
    exact ⟨_, rfl, Own.nil, hb1⟩
  have cC := dCheck_any A c l w h hl
  rw [h0] at cC
  cases hk : kindB k
  · rw [ent_kind h0 hk]
    have K1 := Lib.hid hk
    clear hk h0
    go_enter Tryz.func10, Tryz.ntmps10
    go_wp2_with (first | (go_at_call 48; refine cC.mono ?_; rintro e w1 ⟨rfl, hb1⟩) | (go_at_call 49; refine (kindOK_any _ _).mono ?_; rintro e w' ⟨rfl, rfl⟩; rw [K1.out]))
    go_ret2
    exact ⟨_, rfl, Own.nil, hb1⟩
  cases hbb : betwB b 0 65536
  · rw [ent_bits h0 hk hbb]
    have K1 := Lib.hid hk
    have K2 := Lib.hid hbb
    clear hk h0 hbb
    go_enter Tryz.func10, Tryz.ntmps10
    go_wp2_with (first | (go_at_call 48; refine cC.mono ?_; rintro e w1 ⟨rfl, hb1⟩) | (go_at_call 49; refine (kindOK_any _ _).mono ?_; rintro e w' ⟨rfl, rfl⟩; rw [K1.out]) | (go_at_call 50; refine (dbetween_any _ _ _ _).mono ?_; rintro e w' ⟨rfl, rfl⟩; rw [K2.out]))
    go_ret2
    exact ⟨_, rfl, Own.nil, hb1⟩
  obtain ⟨hl1, hf⟩ := ledE_zero.1 h0
  have K1 := Lib.hid hk
  have K2 := Lib.hid hbb
  have H0 := Lib.hid h0
  obtain ⟨b0, b1⟩ : 0 ≤ b ∧ b ≤ 65536 := by simpa [betwB] using hbb
  clear hk h0 hbb
  obtain ⟨i0, hi, hz0, hz1, hz2⟩ := iparts item_info
  have Hi := Lib.hid hi; have Hz0 := Lib.hid hz0; have Hz1 := Lib.hid hz1; have Hz2 := Lib.hid hz2
  clear hi hz0 hz1 hz2
  have Hf := Lib.hid hf
  clear hf
  rcases Nat.eq_zero_or_pos l.length with hl0 | hl0
  · obtain rfl : l = [] := List.eq_nil_of_length_eq_zero hl0
    rw [ent_nil K1.out K2.out]
    clear hl0
    go_enter Tryz.func10, Tryz.ntmps10
    go_wp2_with (first
      | (go_at_call 48; refine cC.mono ?_; rintro e w1 ⟨rfl, hb1⟩)
      | (go_at_call 49; refine (kindOK_any _ _).mono ?_; rintro e w' ⟨rfl, rfl⟩; rw [K1.out])
      | (go_at_call 50; refine (dbetween_any _ _ _ _).mono ?_; rintro e w' ⟨rfl, rfl⟩; rw [K2.out])
      | (at_make; refine wpList_make_own _ rfl _ _ 45 rfl w.heap.size 141 i0 _ 2 Tryz.underlying45 Hi.out Hz0.out Hz1.out _ _ _ 1 rfl rfl (by simp) (by rw [Hz2.out]; decide) (by unfold maxLen; omega) hb1.size ?_; intro w3 own3 gr3; have hb3 := below_of_grown gr3)
      | (at_builtin; refine wpList_app rfl _ _ 45 rfl w.heap.size 141 i0 _ 2 16 Tryz.underlying45 Hi.out Hz0.out Hz1.out Hz2.out rfl (by decide) Itm.enc_len Itm.one _ ([] : List Itm) [] A c w.heap.size rfl own3 rfl Arr.nil hnil (by simp) (by decide) (Nat.le_trans hb1.size hb3.size) ?_; intro v4 w4 own4 hb4)
      | (at_builtin; refine wpList_snoc rfl _ _ 45 rfl w.heap.size 141 i0 _ 2 16 Tryz.underlying45 Hi.out Hz0.out Hz1.out Hz2.out rfl (by decide) _ ([] : List Itm) ⟨k, b⟩ #[.int .i64 k, .int .i64 b] 141 rfl own4 rfl rfl rfl (Itm.one _) (by simp) (by decide) (Nat.le_trans (Nat.le_trans hb1.size hb3.size) hb4.size) rfl ?_; intro v5 w5 own5 hb5))
    go_ret2
    exact ⟨_, rfl, own5, hb1.trans ((hb3.mono hb1.size).trans (hb4.trans hb5))⟩
  · obtain ⟨j, hj⟩ : ∃ j, j + 1 = l.length := ⟨l.length - 1, by omega⟩
    obtain ⟨bk, off, qk, qb, rfl, hbk, hq, c0, c1⟩ := h.itm (k := j) (by omega) (Below.refl _ _)
    have hE := ent_last H0.out K1.out K2.out (last_at hj hq.out)
    simp only at hE
    obtain ⟨_, q1, q2⟩ := first_all Hf.out hq.out
    simp only at q1 q2
    have ej : (l.length : Int) - 1 = (j : Int) := by omega
    have jl : j < l.length := by omega
    have lm : l.length - 1 = j := by omega
    rw [lm] at hE
    obtain ⟨n, hn⟩ : ∃ n : Nat, l.length + 1 = n := ⟨_, rfl⟩
    have en : (l.length : Int) + 1 = (n : Int) := by omega
    have n1 : n ≤ 1001 := by omega
    have Hn := Lib.hid hn; have Hj := Lib.hid hj; have Lm := Lib.hid lm
    have HE := Lib.hid hE
    clear hn hj lm hE
    have n0 : decide (0 ≤ (j : Int)) = true := by simp
    by_cases hqk : qk = k
    · have d1 : (qk == k) = true := by simpa using hqk
      by_cases hov : 65536 < qb + b
      · have f1 : ent l k b = .no 8 := by rw [HE.out, if_pos hqk, if_pos hov]
        rw [f1]
        clear f1
        have Hq := Lib.hid hqk
        clear hqk
        go_enter Tryz.func10, Tryz.ntmps10
        go_wp2_with (first
          | (go_at_call 48; refine cC.mono ?_; rintro e w1 ⟨rfl, hb1⟩)
          | (go_at_call 49; refine (kindOK_any _ _).mono ?_; rintro e w' ⟨rfl, rfl⟩; rw [K1.out])
          | (go_at_call 50; refine (dbetween_any _ _ _ _).mono ?_; rintro e w' ⟨rfl, rfl⟩; rw [K2.out])
          | (at_make; refine wpList_make_own _ rfl _ _ 45 rfl w.heap.size 141 i0 _ 2 Tryz.underlying45 Hi.out Hz0.out Hz1.out _ _ _ n rfl rfl rfl (by rw [Hz2.out]; omega) (by unfold maxLen; omega) hb1.size ?_; intro w3 own3 gr3; have hb3 := below_of_grown gr3)
          | (at_builtin; refine wpList_app rfl _ _ 45 rfl w.heap.size 141 i0 _ 2 16 Tryz.underlying45 Hi.out Hz0.out Hz1.out Hz2.out rfl (by decide) Itm.enc_len Itm.one _ ([] : List Itm) l _ c w.heap.size rfl own3 rfl (h.keep (hb1.trans (hb3.mono hb1.size))) hnil (by simp; omega) (by decide) (Nat.le_trans hb1.size hb3.size) ?_; intro v4 w4 own4 hb4; have q4 := hb1.trans ((hb3.mono hb1.size).trans hb4); have e0 := bel_cell q4 c0; have e1 := bel_cell q4 c1))
        go_ret2
        exact ⟨_, rfl, Own.nil, q4⟩
      · have f1 : ent l k b = .yes (l.set j ⟨k, qb + b⟩) := by rw [HE.out, if_pos hqk, if_neg hov]
        rw [f1]
        clear f1
        have Hq := Lib.hid hqk
        have hov' : decide (65536 < qb + b) = false := by simp; omega
        clear hqk hov
        go_enter Tryz.func10, Tryz.ntmps10
        go_wp2_with (first
          | (go_at_call 48; refine cC.mono ?_; rintro e w1 ⟨rfl, hb1⟩)
          | (go_at_call 49; refine (kindOK_any _ _).mono ?_; rintro e w' ⟨rfl, rfl⟩; rw [K1.out])
          | (go_at_call 50; refine (dbetween_any _ _ _ _).mono ?_; rintro e w' ⟨rfl, rfl⟩; rw [K2.out])
          | (at_make; refine wpList_make_own _ rfl _ _ 45 rfl w.heap.size 141 i0 _ 2 Tryz.underlying45 Hi.out Hz0.out Hz1.out _ _ _ n rfl rfl rfl (by rw [Hz2.out]; omega) (by unfold maxLen; omega) hb1.size ?_; intro w3 own3 gr3; have hb3 := below_of_grown gr3)
          | (at_builtin; refine wpList_app rfl _ _ 45 rfl w.heap.size 141 i0 _ 2 16 Tryz.underlying45 Hi.out Hz0.out Hz1.out Hz2.out rfl (by decide) Itm.enc_len Itm.one _ ([] : List Itm) l _ c w.heap.size rfl own3 rfl (h.keep (hb1.trans (hb3.mono hb1.size))) hnil (by simp; omega) (by decide) (Nat.le_trans hb1.size hb3.size) ?_; intro v4 w4 own4 hb4; have q4 := hb1.trans ((hb3.mono hb1.size).trans hb4); have e0 := bel_cell q4 c0; have e1 := bel_cell q4 c1; rw [List.nil_append] at own4; obtain ⟨g, cap, hv4, hg1, hg2⟩ := own_ptr own4 hl0; subst hv4; have x1 : w4.cell? ⟨g, j * 2 + 1, none⟩ = some (.int .i64 qb) := own4.atK rfl Itm.enc_len hq.out (j := 1) rfl; have x2 := own4.frK rfl (j * 2 + 1); have x3 := own4.setK (x' := ⟨k, qb + b⟩) rfl Itm.enc_len hq.out (j := 1) (u := .int .i64 (qb + b)) (by decide) (by simp [Itm.enc, Hq.out])))
        go_ret2
        exact ⟨_, rfl, x3, q4.setCell hg1 _⟩
    · have d1 : (qk == k) = false := by simpa using hqk
      by_cases hfu : l.length = 1000
      · have f1 : ent l k b = .no 5 := by rw [HE.out, if_neg hqk, if_pos hfu]
        rw [f1]
        clear f1
        have hfu' : ((l.length : Int) == 1000) = true := by simp; omega
        have Hfu := Lib.hid hfu
        clear hqk hfu
        go_enter Tryz.func10, Tryz.ntmps10
        go_wp2_with (first
          | (go_at_call 48; refine cC.mono ?_; rintro e w1 ⟨rfl, hb1⟩)
          | (go_at_call 49; refine (kindOK_any _ _).mono ?_; rintro e w' ⟨rfl, rfl⟩; rw [K1.out])
          | (go_at_call 50; refine (dbetween_any _ _ _ _).mono ?_; rintro e w' ⟨rfl, rfl⟩; rw [K2.out])
          | (at_make; refine wpList_make_own _ rfl _ _ 45 rfl w.heap.size 141 i0 _ 2 Tryz.underlying45 Hi.out Hz0.out Hz1.out _ _ _ n rfl rfl rfl (by rw [Hz2.out]; omega) (by unfold maxLen; omega) hb1.size ?_; intro w3 own3 gr3; have hb3 := below_of_grown gr3)
          | (at_builtin; refine wpList_app rfl _ _ 45 rfl w.heap.size 141 i0 _ 2 16 Tryz.underlying45 Hi.out Hz0.out Hz1.out Hz2.out rfl (by decide) Itm.enc_len Itm.one _ ([] : List Itm) l _ c w.heap.size rfl own3 rfl (h.keep (hb1.trans (hb3.mono hb1.size))) hnil (by simp; omega) (by decide) (Nat.le_trans hb1.size hb3.size) ?_; intro v4 w4 own4 hb4; have q4 := hb1.trans ((hb3.mono hb1.size).trans hb4); have e0 := bel_cell q4 c0; have e1 := bel_cell q4 c1))
        go_ret2
        exact ⟨_, rfl, Own.nil, q4⟩
      · have f1 : ent l k b = .yes (l ++ [⟨k, b⟩]) := by rw [HE.out, if_neg hqk, if_neg hfu]
        rw [f1]
        clear f1
        have hfu' : ((l.length : Int) == 1000) = false := by simp; omega
        have Hfu := Lib.hid hfu
        clear hqk hfu
        go_enter Tryz.func10, Tryz.ntmps10
        go_wp2_with (first
          | (go_at_call 48; refine cC.mono ?_; rintro e w1 ⟨rfl, hb1⟩)
          | (go_at_call 49; refine (kindOK_any _ _).mono ?_; rintro e w' ⟨rfl, rfl⟩; rw [K1.out])
          | (go_at_call 50; refine (dbetween_any _ _ _ _).mono ?_; rintro e w' ⟨rfl, rfl⟩; rw [K2.out])
          | (at_make; refine wpList_make_own _ rfl _ _ 45 rfl w.heap.size 141 i0 _ 2 Tryz.underlying45 Hi.out Hz0.out Hz1.out _ _ _ n rfl rfl rfl (by rw [Hz2.out]; omega) (by unfold maxLen; omega) hb1.size ?_; intro w3 own3 gr3; have hb3 := below_of_grown gr3)
          | (at_builtin; refine wpList_app rfl _ _ 45 rfl w.heap.size 141 i0 _ 2 16 Tryz.underlying45 Hi.out Hz0.out Hz1.out Hz2.out rfl (by decide) Itm.enc_len Itm.one _ ([] : List Itm) l _ c w.heap.size rfl own3 rfl (h.keep (hb1.trans (hb3.mono hb1.size))) hnil (by simp; omega) (by decide) (Nat.le_trans hb1.size hb3.size) ?_; intro v4 w4 own4 hb4; have q4 := hb1.trans ((hb3.mono hb1.size).trans hb4); have e0 := bel_cell q4 c0; have e1 := bel_cell q4 c1; rw [List.nil_append] at own4)
          | (at_builtin; refine wpList_snoc rfl _ _ 45 rfl w.heap.size 141 i0 _ 2 16 Tryz.underlying45 Hi.out Hz0.out Hz1.out Hz2.out rfl (by decide) _ l ⟨k, b⟩ #[.int .i64 k, .int .i64 b] 141 rfl own4 rfl rfl rfl (Itm.one _) (by omega) (by decide) q4.size rfl ?_; intro v5 w5 own5 hb5))
        go_ret2
        exact ⟨_, rfl, own5, q4.trans hb5⟩

end Go.Proofs.YtfolgmcoggejbaaGreat

namespace Go.Proofs.YtfolgmcoggejbaaGreat
open Go.RowKit
set_option linter.unusedVariables false
set_option linter.unusedSimpArgs false

end Go.Proofs.YtfolgmcoggejbaaGreat
