/- Contracts of keys, Collisions, Forgeries and Tag, the program's and the reference's. For any width, messages of any length, numbers of 64 bits. Contracts of Collisions and Forgeries, the program's and the reference's. For any width, messages of any length, numbers of 64 bits. Contracts of Forgeries and Tag, the program's and the reference's. For any width, messages of any length, numbers of 64 bits. -/
import Derived.Test.YtfolgmcoggejbaaGreatDigA
import Derived.Test.YtfolgmcoggejbaaGreatGfR
namespace Go.Proofs.YtfolgmcoggejbaaGreat
open Go.RowKit
set_option linter.unusedVariables false
set_option linter.unusedSimpArgs false

theorem horner_lt {w key : Nat} (hw : Wd w) (cs : List Nat) (h : ∀ c ∈ cs, c < 2 ^ w) : horner w key cs < 2 ^ w := by
  have go : ∀ (cs : List Nat) (g : Nat), g < 2 ^ w → (∀ c ∈ cs, c < 2 ^ w) → cs.foldl (fun h c => gm w (h ^^^ c) key) g < 2 ^ w := by
    intro cs
    induction cs with
    | nil => intro g hg _; exact hg
    | cons c cs ih => intro g hg hc; exact ih _ (gm_lt hw _ _ (Nat.xor_lt_two_pow hg (hc c (by simp)))) (fun y hy => hc y (by simp [hy]))
  exact go cs 0 (Nat.pow_pos (by decide)) h
theorem hashN_lt {w key : Nat} (hw : Wd w) (m : List Bool) : hashN w key m < 2 ^ w :=
  horner_lt hw _ (wordsL_lt (by rcases hw with h | h | h <;> omega) m)
theorem hashN_64 {w key : Nat} (hw : Wd w) (m : List Bool) : hashN w key m < 2 ^ 64 :=
  Nat.lt_of_lt_of_le (hashN_lt hw m) (Nat.pow_le_pow_right (by decide) (by rcases hw with h | h | h <;> omega))

def kyE (a b : List Bool) : Int := if 512 < a.length ∨ 512 < b.length then 4 else 0
def kyN (w : Nat) (a b : List Bool) (by_ : Nat) : Nat := if 512 < a.length ∨ 512 < b.length then 0 else keyN w a b by_

theorem xor_test {x y b : Nat} : (((x ^^^ y : Nat) : Int) == (b : Int)) = decide (x ^^^ y = b) := by
  rw [Bool.eq_iff_iff]; simp; omega
theorem eq_test {x y : Nat} : ((x : Int) == (y : Int)) = decide (x ^^^ y = 0) := by
  rw [Bool.eq_iff_iff]; simp
  constructor
  · intro h; have : x = y := by omega
    rw [this, Nat.xor_self]
  · intro h
    have := congrArg (fun z => z ^^^ y) h
    simp [Nat.xor_assoc] at this
    omega
theorem frg_test {x y t f : Nat} : (((y ^^^ (x ^^^ t) : Nat) : Int) == (f : Int)) = decide (x ^^^ y = t ^^^ f) := by
  rw [Bool.eq_iff_iff]; simp
  have key : y ^^^ (x ^^^ t) = f ↔ x ^^^ y = t ^^^ f := by
    constructor
    · intro h
      rw [← h, ← Nat.xor_assoc y, Nat.xor_comm t, Nat.xor_assoc, Nat.xor_self, Nat.xor_zero, Nat.xor_comm]
    · intro h
      rw [← Nat.xor_assoc, Nat.xor_comm y, h, Nat.xor_comm t, Nat.xor_assoc, Nat.xor_self, Nat.xor_zero]
  omega

set_option maxRecDepth 100000 in
set_option maxHeartbeats 2000000 in
theorem keys_any (w : Nat) (A : Option Addr) (cA : Nat) (a : List Bool) (B : Option Addr) (cB : Nat) (b : List Bool) (by_ : Nat) (v : World) (hw : W2 w) (hA : Arr 1 encB v v.heap.size A a) (la : a.length ≤ cA) (ma : cA ≤ maxLen) (hB : Arr 1 encB v v.heap.size B b) (lb : b.length ≤ cB) (mb : cB ≤ maxLen) :
    Calls Tryz.prog 55 #[.int .i64 w, .slice A a.length cA, .slice B b.length cB, .int .u64 by_] v fun e v' => e = .returned (.tuple #[.int .i64 (kyN w a b by_), .int .i64 (kyE a b)]) ∧ Below v.heap.size v v' := by
  by_cases hl : 512 < a.length ∨ 512 < b.length
  · have F : Hid (kyN w a b by_ = 0 ∧ kyE a b = 4) := Lib.hid ⟨by unfold kyN; rw [if_pos hl], by unfold kyE; rw [if_pos hl]⟩
    by_cases h1 : 512 < a.length
    · have d1 : decide (512 < (a.length : Int)) = true := by simp; omega
      clear hl
      go_enter Tryz.func55, Tryz.ntmps55
      go_wp2
      go_ret2
      exact ⟨by rw [F.out.1, F.out.2]; rfl, Below.refl _ _⟩
    · have d1 : decide (512 < (a.length : Int)) = false := by simp; omega
      have d2 : decide (512 < (b.length : Int)) = true := by simp; omega
      clear hl
      go_enter Tryz.func55, Tryz.ntmps55
      go_wp2
      go_ret2
      exact ⟨by rw [F.out.1, F.out.2]; rfl, Below.refl _ _⟩
  · have F : Hid (kyN w a b by_ = keyN w a b by_ ∧ kyE a b = 0) := Lib.hid ⟨by unfold kyN; rw [if_neg hl], by unfold kyE; rw [if_neg hl]⟩
    have d1 : decide (512 < (a.length : Int)) = false := by simp; omega
    have d2 : decide (512 < (b.length : Int)) = false := by simp; omega
    have hla : a.length ≤ 512 := by omega
    have hlb : b.length ≤ 512 := by omega
    clear hl
    have hp := pow_u64 (n := w) (by rcases hw with h | h <;> omega)
    have hX : 2 ^ w ≤ 65536 := Nat.pow_le_pow_right (by decide : 0 < 2) (show w ≤ 16 by rcases hw with h | h <;> omega)
    have hN : Hid (keyN w a b by_ = cntTo (keyP w a b by_) (2 ^ w)) := Lib.hid rfl
    have Hd := Lib.hid hw.wd
    have cA' := fun k w' (hk : k < 2 ^ w) (hb : Below v.heap.size v w') => callsIn_wide.1 (Hash_main w k A cA a w' hw.wd hk (hA.on hb) (by omega) la ma)
    have cB' := fun k w' (hk : k < 2 ^ w) (hb : Below v.heap.size v w') => callsIn_wide.1 (Hash_main w k B cB b w' hw.wd hk (hB.on hb) (by omega) lb mb)
    have w16 : w ≤ 16 := by rcases hw with h | h <;> omega
    clear hw
    obtain ⟨X, hXe⟩ : ∃ x, 2 ^ w = x := ⟨_, rfl⟩
    rw [hXe] at hp hX hN
    have HX := Lib.hid hXe
    clear hXe
    go_enter Tryz.func55, Tryz.ntmps55
    go_wp2
    go_loopw [10, 26] (fun n i wr => ∃ k : Nat, k ≤ X ∧ i = .int .u64 k ∧ n = .int .i64 (cntTo (keyP w a b by_) k) ∧ Below v.heap.size v wr) (fun _ i _ => X - (intOf i).toNat)
    case atStart => exact ⟨0, Nat.zero_le _, rfl, rfl, Below.refl _ _⟩
    case round =>
      obtain ⟨k, hk, rfl, rfl, hb⟩ := hrel
      have cl := cntTo_le (keyP w a b by_) k
      rcases Nat.lt_or_ge k X with hlt | hge
      · have d3 : decide ((k : Int) < (X : Int)) = true := decide_eq_true (by omega)
        have d4 : decide (k < X) = true := decide_eq_true hlt
        have c1 := cA' k wr (by rw [HX.out]; exact hlt) hb
        have c2 := fun w' (hb : Below v.heap.size v w') => cB' k w' (by rw [HX.out]; exact hlt) hb
        have st : Hid (cntTo (keyP w a b by_) (k + 1) = cntTo (keyP w a b by_) k + (if keyP w a b by_ k = true then 1 else 0)) := Lib.hid rfl
        have tst : (((hashN w k a ^^^ hashN w k b : Nat) : Int) == (by_ : Int)) = keyP w a b by_ k := xor_test
        have hx := xor_64 (hashN_64 (key := k) Hd.out a) (hashN_64 (key := k) Hd.out b)
        generalize hashN w k a = x at *
        generalize hashN w k b = y at *
        generalize cntTo (keyP w a b by_) k = C at *
        cases hp1 : keyP w a b by_ k
        all_goals (
          rw [hp1] at tst st
          clear hp1
          go_wp2_with (first
            | (go_at_call 51; refine Calls.on (args' := #[.int .i64 (w : Int), .int .u64 (k : Int), .slice A a.length cA]) rfl ?_; refine c1.mono ?_; rintro e w1 ⟨rfl, hb1⟩; have q1 := below_trans hb hb1)
            | (go_at_call 51; refine Calls.on (args' := #[.int .i64 (w : Int), .int .u64 (k : Int), .slice B b.length cB]) rfl ?_; refine (c2 _ q1).mono ?_; rintro e w2 ⟨rfl, hb2⟩; have q2 := below_trans q1 hb2))
          go_roundw
          case rel => exact ⟨k + 1, by omega, by go_num, by rw [st.out]; first | rfl | go_num, q2⟩
          case measure => (simp [intOf] <;> omega))
      · obtain rfl : k = X := by omega
        have d3 : decide ((k : Int) < (k : Int)) = false := decide_eq_false (by omega)
        have d4 : decide (k < k) = false := decide_eq_false (by omega)
        clear cA' cB'
        go_wp2
        go_ret2
        exact ⟨by rw [F.out.1, F.out.2, hN.out]; rfl, hb⟩

end Go.Proofs.YtfolgmcoggejbaaGreat

namespace Go.Proofs.YtfolgmcoggejbaaGreat
open Go.RowKit
set_option linter.unusedVariables false
set_option linter.unusedSimpArgs false

def w2B (w : Int) : Bool := decide (w = 8 ∨ w = 16)
theorem w2_cases (w : Int) : (∃ n : Nat, w = (n : Int) ∧ W2 n ∧ w2B w = true) ∨ (w2B w = false ∧ (w != 8) = true ∧ (w != 16) = true) := by
  by_cases h : w = 8 ∨ w = 16
  · left
    rcases h with rfl | rfl
    · exact ⟨8, rfl, .inl rfl, by decide⟩
    · exact ⟨16, rfl, .inr rfl, by decide⟩
  · right
    refine ⟨by simpa [w2B] using h, ?_, ?_⟩ <;> (simp; omega)
theorem w2_tests {n : Nat} (h : W2 n) : (((n : Int) != 8) = true ∧ ((n : Int) != 16) = false) ∨ ((n : Int) != 8) = false := by
  rcases h with rfl | rfl
  · exact .inr (by decide)
  · exact .inl ⟨by decide, by decide⟩
/-- The error, and the number, of Collisions. -/
def colE (w : Int) (a b : List Bool) : Int := if w2B w = true then kyE a b else 2
def colN (w : Int) (a b : List Bool) : Nat := if w2B w = true then kyN w.toNat a b 0 else 0
theorem cl_no {w : Int} (h : w2B w = false) (a b : List Bool) : colE w a b = 2 ∧ colN w a b = 0 := by
  unfold colE colN; rw [if_neg (by simp [h]), if_neg (by simp [h])]; exact ⟨rfl, rfl⟩
theorem cl_yes {n : Nat} (h : w2B (n : Int) = true) (a b : List Bool) : colE n a b = kyE a b ∧ colN n a b = kyN n a b 0 := by
  unfold colE colN; rw [if_pos h, if_pos h]; exact ⟨rfl, by simp⟩

set_option maxHeartbeats 1000000 in
theorem Collisions_any (w : Int) (A : Option Addr) (cA : Nat) (a : List Bool) (B : Option Addr) (cB : Nat) (b : List Bool) (v : World) (hA : Arr 1 encB v v.heap.size A a) (la : a.length ≤ cA) (ma : cA ≤ maxLen) (hB : Arr 1 encB v v.heap.size B b) (lb : b.length ≤ cB) (mb : cB ≤ maxLen) :
    Calls Tryz.prog 16 #[.int .i64 w, .slice A a.length cA, .slice B b.length cB] v fun e v' => e = .returned (.tuple #[.int .i64 (colN w a b), .int .i64 (colE w a b)]) ∧ Below v.heap.size v v' := by
  rcases w2_cases w with ⟨n, rfl, hn, hB2⟩ | ⟨hB2, h8, h16⟩
  · have cK := keys_any n A cA a B cB b 0 v hn hA la ma hB lb mb
    obtain ⟨e1, e2⟩ := cl_yes hB2 a b
    rw [e1, e2]
    generalize kyE a b = E at *
    generalize kyN n a b 0 = N at *
    clear e1 e2 hB2
    rcases w2_tests hn with ⟨h8, h16⟩ | h8
    all_goals (
      go_enter Tryz.func16, Tryz.ntmps16
      go_wp2_with (go_at_call 55; refine cK.mono ?_; rintro e w1 ⟨rfl, hb1⟩)
      go_ret2
      exact ⟨rfl, hb1⟩)
  · obtain ⟨e1, e2⟩ := cl_no hB2 a b
    rw [e1, e2]
    clear e1 e2 hB2
    go_enter Tryz.func16, Tryz.ntmps16
    go_wp2
    go_ret2
    exact ⟨rfl, Below.refl _ _⟩

end Go.Proofs.YtfolgmcoggejbaaGreat

namespace Go.Proofs.YtfolgmcoggejbaaGreat
open Go.RowKit
set_option linter.unusedVariables false
set_option linter.unusedSimpArgs false

/-- The error, and the number, of Forgeries. -/
def frE (w : Int) (tag forged : Nat) (a b : List Bool) : Int := if w2B w = true then (if tag < 2 ^ w.toNat ∧ forged < 2 ^ w.toNat then kyE a b else 3) else 2
def frN (w : Int) (tag forged : Nat) (a b : List Bool) : Nat := if w2B w = true then (if tag < 2 ^ w.toNat ∧ forged < 2 ^ w.toNat then kyN w.toNat a b (tag ^^^ forged) else 0) else 0
theorem fr_no {w : Int} (h : w2B w = false) (t f : Nat) (a b : List Bool) : frE w t f a b = 2 ∧ frN w t f a b = 0 := by
  unfold frE frN; rw [if_neg (by simp [h]), if_neg (by simp [h])]; exact ⟨rfl, rfl⟩
theorem fr_big {n : Nat} (h : w2B (n : Int) = true) {t f : Nat} (hb : ¬ (t < 2 ^ n ∧ f < 2 ^ n)) (a b : List Bool) : frE n t f a b = 3 ∧ frN n t f a b = 0 := by
  unfold frE frN; rw [if_pos h, if_pos h]; simp only [Int.toNat_natCast]; rw [if_neg hb, if_neg hb]; exact ⟨rfl, rfl⟩
theorem fr_yes {n : Nat} (h : w2B (n : Int) = true) {t f : Nat} (hb : t < 2 ^ n ∧ f < 2 ^ n) (a b : List Bool) : frE n t f a b = kyE a b ∧ frN n t f a b = kyN n a b (t ^^^ f) := by
  unfold frE frN; rw [if_pos h, if_pos h]; simp only [Int.toNat_natCast]; rw [if_pos hb, if_pos hb]; exact ⟨rfl, rfl⟩

/-- The error, and the number, of a tag. -/
def tgE (w : Int) (key pad : Nat) (m : List Bool) : Int := if wdB w = true ∧ ¬ pad < 2 ^ w.toNat then 3 else hshE w key m
def tgN (w : Int) (key pad : Nat) (m : List Bool) : Nat := if tgE w key pad m = 0 then hashN w.toNat key m ^^^ pad else 0
theorem tg_wd {w : Int} (h : wdB w = false) (key pad : Nat) (m : List Bool) : tgE w key pad m = 2 ∧ tgN w key pad m = 0 := by
  have e : tgE w key pad m = 2 := by unfold tgE; rw [if_neg (by simp [h]), (hsh_wd h).1]
  exact ⟨e, by unfold tgN; rw [e]; rfl⟩
theorem tg_pad {n : Nat} (h : wdB (n : Int) = true) (key : Nat) {pad : Nat} (hp : ¬ pad < 2 ^ n) (m : List Bool) : tgE n key pad m = 3 ∧ tgN n key pad m = 0 := by
  have e : tgE n key pad m = 3 := by unfold tgE; rw [if_pos ⟨h, by simpa using hp⟩]
  exact ⟨e, by unfold tgN; rw [e]; rfl⟩
theorem tg_err {n : Nat} (key : Nat) {pad : Nat} (hp : pad < 2 ^ n) {m : List Bool} (he : hshE n key m ≠ 0) : tgE n key pad m = hshE n key m ∧ tgN n key pad m = 0 := by
  have e : tgE n key pad m = hshE n key m := by unfold tgE; rw [if_neg (by simp [hp])]
  exact ⟨e, by unfold tgN; rw [e, if_neg he]⟩
theorem tg_ok {n : Nat} (key : Nat) {pad : Nat} (hp : pad < 2 ^ n) {m : List Bool} (he : hshE n key m = 0) : tgE n key pad m = 0 ∧ tgN n key pad m = hashN n key m ^^^ pad := by
  have e : tgE n key pad m = 0 := by unfold tgE; rw [if_neg (by simp [hp]), he]
  exact ⟨e, by unfold tgN; rw [if_pos e]; simp⟩
theorem wd_tests {n : Nat} (h : Wd n) : ((n : Int) != 8) = false ∨ (((n : Int) != 8) = true ∧ ((n : Int) != 16) = false) ∨ (((n : Int) != 8) = true ∧ ((n : Int) != 16) = true ∧ ((n : Int) != 32) = false) := by
  rcases h with rfl | rfl | rfl
  · exact .inl (by decide)
  · exact .inr (.inl ⟨by decide, by decide⟩)
  · exact .inr (.inr ⟨by decide, by decide, by decide⟩)

set_option maxHeartbeats 2000000 in
theorem Tag_any (w : Int) (key pad : Nat) (A : Option Addr) (c : Nat) (m : List Bool) (v : World) (h : Arr 1 encB v v.heap.size A m) (hc : m.length ≤ c) (hmc : c ≤ maxLen) :
    Calls Tryz.prog 176 #[.int .i64 w, .int .u64 key, .int .u64 pad, .slice A m.length c] v fun e v' => e = .returned (.tuple #[.int .u64 (tgN w key pad m), .int .i64 (tgE w key pad m)]) ∧ Below v.heap.size v v' := by
  rcases wd_cases w with ⟨n, rfl, hn, hB⟩ | ⟨hB, h8, h16, h32⟩
  · have s1 := shr_zero (key := pad) (w := n)
    have n32 : n ≤ 32 := by rcases hn with h | h | h <;> omega
    by_cases h1 : pad < 2 ^ n
    · rw [decide_eq_false (by simpa using h1)] at s1
      have cH := Hash_any n key A c m v h hc hmc
      by_cases he : hshE n key m = 0
      · obtain ⟨e1, e2⟩ := tg_ok key h1 he
        have hN : hshN n key m = hashN n key m := by unfold hshN; rw [if_pos he]; simp
        rw [he, hN] at cH
        have hx := xor_64 (hashN_64 (key := key) hn m) (Nat.lt_of_lt_of_le h1 (Nat.pow_le_pow_right (by decide) (show n ≤ 64 by omega)))
        rw [e1, e2]
        generalize hashN n key m = H at *
        clear e1 e2 he hN h1 hB
        rcases wd_tests hn with h8 | ⟨h8, h16⟩ | ⟨h8, h16, h32⟩
        all_goals (
          clear hn
          go_enter Tryz.func176, Tryz.ntmps176
          go_wp2_with (go_at_call 51; refine cH.mono ?_; rintro e w1 ⟨rfl, hb1⟩)
          go_ret2
          exact ⟨rfl, hb1⟩)
      · obtain ⟨e1, e2⟩ := tg_err key h1 he
        have he' : (hshE n key m != 0) = true := by simpa using he
        rw [e1, e2]
        generalize hshE n key m = E at *
        generalize hshN n key m = N at *
        clear e1 e2 he h1 hB
        rcases wd_tests hn with h8 | ⟨h8, h16⟩ | ⟨h8, h16, h32⟩
        all_goals (
          clear hn
          go_enter Tryz.func176, Tryz.ntmps176
          go_wp2_with (go_at_call 51; refine cH.mono ?_; rintro e w1 ⟨rfl, hb1⟩)
          go_ret2
          exact ⟨rfl, hb1⟩)
    · rw [decide_eq_true (by simpa using h1)] at s1
      obtain ⟨e1, e2⟩ := tg_pad hB key h1 m
      rw [e1, e2]
      clear e1 e2 hB h1
      rcases wd_tests hn with h8 | ⟨h8, h16⟩ | ⟨h8, h16, h32⟩
      all_goals (
        clear hn
        go_enter Tryz.func176, Tryz.ntmps176
        go_wp2
        go_ret2
        exact ⟨rfl, Below.refl _ _⟩)
  · obtain ⟨e1, e2⟩ := tg_wd hB key pad m
    have g8 : (w != 8) = true := by simpa using h8
    have g16 : (w != 16) = true := by simpa using h16
    have g32 : (w != 32) = true := by simpa using h32
    rw [e1, e2]
    clear e1 e2 hB
    go_enter Tryz.func176, Tryz.ntmps176
    go_wp2
    go_ret2
    exact ⟨rfl, Below.refl _ _⟩

end Go.Proofs.YtfolgmcoggejbaaGreat
