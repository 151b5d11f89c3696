/- Contracts of keys, Collisions, Forgeries and Tag, the program's and the reference's. For any width, messages of any length, numbers of 64 bits. -/
import Derived.Test.YtliekcfcdfakjaaDoorDigA
import Derived.Test.YtliekcfcdfakjaaDoorGfR
namespace Go.Proofs.YtliekcfcdfakjaaDoor
open Go.RowKit
set_option linter.unusedVariables false
set_option linter.unusedSimpArgs false

theorem horner_lt {w key : Nat} (hw : Wd w) (cs : List Nat) (h : ∀ c ∈ cs, c < 2 ^ w) : horner w key cs < 2 ^ w := by
  have go : ∀ (cs : List Nat) (g : Nat), g < 2 ^ w → (∀ c ∈ cs, c < 2 ^ w) → cs.foldl (fun h c => gm w (h ^^^ c) key) g < 2 ^ w := by
    intro cs
    induction cs with
    | nil => intro g hg _; exact hg
    | cons c cs ih => intro g hg hc; exact ih _ (gm_lt hw _ _ (Nat.xor_lt_two_pow hg (hc c (by simp)))) (fun y hy => hc y (by simp [hy]))
  exact go cs 0 (Nat.pow_pos (by decide)) h
theorem hashN_lt {w key : Nat} (hw : Wd w) (m : List Bool) : hashN w key m < 2 ^ w :=
  horner_lt hw _ (wordsL_lt (by rcases hw with h | h | h <;> omega) m)
theorem hashN_64 {w key : Nat} (hw : Wd w) (m : List Bool) : hashN w key m < 2 ^ 64 :=
  Nat.lt_of_lt_of_le (hashN_lt hw m) (Nat.pow_le_pow_right (by decide) (by rcases hw with h | h | h <;> omega))

def kyE (a b : List Bool) : Int := if 512 < a.length ∨ 512 < b.length then 4 else 0
def kyN (w : Nat) (a b : List Bool) (by_ : Nat) : Nat := if 512 < a.length ∨ 512 < b.length then 0 else keyN w a b by_

theorem xor_test {x y b : Nat} : (((x ^^^ y : Nat) : Int) == (b : Int)) = decide (x ^^^ y = b) := by
  rw [Bool.eq_iff_iff]; simp; omega
theorem eq_test {x y : Nat} : ((x : Int) == (y : Int)) = decide (x ^^^ y = 0) := by
  rw [Bool.eq_iff_iff]; simp
  constructor
  · intro h; have : x = y := by omega
    rw [this, Nat.xor_self]
  · intro h
    have := congrArg (fun z => z ^^^ y) h
    simp [Nat.xor_assoc] at this
    omega
theorem frg_test {x y t f : Nat} : (((y ^^^ (x ^^^ t) : Nat) : Int) == (f : Int)) = decide (x ^^^ y = t ^^^ f) := by
  rw [Bool.eq_iff_iff]; simp
  have key : y ^^^ (x ^^^ t) = f ↔ x ^^^ y = t ^^^ f := by
    constructor
    · intro h
      rw [← h, ← Nat.xor_assoc y, Nat.xor_comm t, Nat.xor_assoc, Nat.xor_self, Nat.xor_zero, Nat.xor_comm]
    · intro h
      rw [← Nat.xor_assoc, Nat.xor_comm y, h, Nat.xor_comm t, Nat.xor_assoc, Nat.xor_self, Nat.xor_zero]
  omega

set_option maxRecDepth 100000 in
set_option maxHeartbeats 2000000 in
theorem keys_any (w : Nat) (A : Option Addr) (cA : Nat) (a : List Bool) (B : Option Addr) (cB : Nat) (b : List Bool) (by_ : Nat) (v : World) (hw : W2 w) (hA : Arr 1 encB v v.heap.size A a) (la : a.length ≤ cA) (ma : cA ≤ maxLen) (hB : Arr 1 encB v v.heap.size B b) (lb : b.length ≤ cB) (mb : cB ≤ maxLen) :
    Calls Tryd.prog 90 #[.int .i64 w, .slice A a.length cA, .slice B b.length cB, .int .u64 by_] v fun e v' => e = .returned (.tuple #[.int .i64 (kyN w a b by_), .int .i64 (kyE a b)]) ∧ Below v.heap.size v v' := by
  by_cases hl : 512 < a.length ∨ 512 < b.length
  · have F : Hid (kyN w a b by_ = 0 ∧ kyE a b = 4) := Lib.hid ⟨by unfold kyN; rw [if_pos hl], by unfold kyE; rw [if_pos hl]⟩
    by_cases h1 : 512 < a.length
    · have d1 : decide (512 < (a.length : Int)) = true := by simp; omega
      clear hl
      go_enter Tryd.func90, Tryd.ntmps90
      go_wp2
      go_ret2
      exact ⟨by rw [F.out.1, F.out.2]; rfl, Below.refl _ _⟩
    · have d1 : decide (512 < (a.length : Int)) = false := by simp; omega
      have d2 : decide (512 < (b.length : Int)) = true := by simp; omega
      clear hl
      go_enter Tryd.func90, Tryd.ntmps90
      go_wp2
      go_ret2
      exact ⟨by rw [F.out.1, F.out.2]; rfl, Below.refl _ _⟩
  · have F : Hid (kyN w a b by_ = keyN w a b by_ ∧ kyE a b = 0) := Lib.hid ⟨by unfold kyN; rw [if_neg hl], by unfold kyE; rw [if_neg hl]⟩
    have d1 : decide (512 < (a.length : Int)) = false := by simp; omega
    have d2 : decide (512 < (b.length : Int)) = false := by simp; omega
    have hla : a.length ≤ 512 := by omega
    have hlb : b.length ≤ 512 := by omega
    clear hl
    have hp := pow_u64 (n := w) (by rcases hw with h | h <;> omega)
    have hX : 2 ^ w ≤ 65536 := Nat.pow_le_pow_right (by decide : 0 < 2) (show w ≤ 16 by rcases hw with h | h <;> omega)
    have hN : Hid (keyN w a b by_ = cntTo (keyP w a b by_) (2 ^ w)) := Lib.hid rfl
    have Hd := Lib.hid hw.wd
    have cA' := fun k w' (hk : k < 2 ^ w) (hb : Below v.heap.size v w') => callsIn_wide.1 (Hash_main w k A cA a w' hw.wd hk (hA.on hb) (by omega) la ma)
    have cB' := fun k w' (hk : k < 2 ^ w) (hb : Below v.heap.size v w') => callsIn_wide.1 (Hash_main w k B cB b w' hw.wd hk (hB.on hb) (by omega) lb mb)
    have w16 : w ≤ 16 := by rcases hw with h | h <;> omega
    clear hw
    obtain ⟨X, hXe⟩ : ∃ x, 2 ^ w = x := ⟨_, rfl⟩
    rw [hXe] at hp hX hN
    have HX := Lib.hid hXe
    clear hXe
    go_enter Tryd.func90, Tryd.ntmps90
    go_wp2
    go_loopw [10, 26] (fun n i wr => ∃ k : Nat, k ≤ X ∧ i = .int .u64 k ∧ n = .int .i64 (cntTo (keyP w a b by_) k) ∧ Below v.heap.size v wr) (fun _ i _ => X - (intOf i).toNat)
    case atStart => exact ⟨0, Nat.zero_le _, rfl, rfl, Below.refl _ _⟩
    case round =>
      obtain ⟨k, hk, rfl, rfl, hb⟩ := hrel
      have cl := cntTo_le (keyP w a b by_) k
      rcases Nat.lt_or_ge k X with hlt | hge
      · have d3 : decide ((k : Int) < (X : Int)) = true := decide_eq_true (by omega)
        have d4 : decide (k < X) = true := decide_eq_true hlt
        have c1 := cA' k wr (by rw [HX.out]; exact hlt) hb
        have c2 := fun w' (hb : Below v.heap.size v w') => cB' k w' (by rw [HX.out]; exact hlt) hb
        have st : Hid (cntTo (keyP w a b by_) (k + 1) = cntTo (keyP w a b by_) k + (if keyP w a b by_ k = true then 1 else 0)) := Lib.hid rfl
        have tst : (((hashN w k a ^^^ hashN w k b : Nat) : Int) == (by_ : Int)) = keyP w a b by_ k := xor_test
        have hx := xor_64 (hashN_64 (key := k) Hd.out a) (hashN_64 (key := k) Hd.out b)
        generalize hashN w k a = x at *
        generalize hashN w k b = y at *
        generalize cntTo (keyP w a b by_) k = C at *
        cases hp1 : keyP w a b by_ k
        all_goals (
          rw [hp1] at tst st
          clear hp1
          go_wp2_with (first
            | (go_at_call 81; refine Calls.on (args' := #[.int .i64 (w : Int), .int .u64 (k : Int), .slice A a.length cA]) rfl ?_; refine c1.mono ?_; rintro e w1 ⟨rfl, hb1⟩; have q1 := below_trans hb hb1)
            | (go_at_call 81; refine Calls.on (args' := #[.int .i64 (w : Int), .int .u64 (k : Int), .slice B b.length cB]) rfl ?_; refine (c2 _ q1).mono ?_; rintro e w2 ⟨rfl, hb2⟩; have q2 := below_trans q1 hb2))
          go_roundw
          case rel => exact ⟨k + 1, by omega, by go_num, by rw [st.out]; first | rfl | go_num, q2⟩
          case measure => (simp [intOf] <;> omega))
      · obtain rfl : k = X := by omega
        have d3 : decide ((k : Int) < (k : Int)) = false := decide_eq_false (by omega)
        have d4 : decide (k < k) = false := decide_eq_false (by omega)
        clear cA' cB'
        go_wp2
        go_ret2
        exact ⟨by rw [F.out.1, F.out.2, hN.out]; rfl, hb⟩

end Go.Proofs.YtliekcfcdfakjaaDoor
