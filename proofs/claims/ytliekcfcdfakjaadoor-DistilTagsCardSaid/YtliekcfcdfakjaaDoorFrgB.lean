/- Contracts of Collisions and Forgeries, the program's and the reference's. For any width, messages of any length, numbers of 64 bits. -/
import Derived.Test.YtliekcfcdfakjaaDoorFrgA
namespace Go.Proofs.YtliekcfcdfakjaaDoor
open Go.RowKit
set_option linter.unusedVariables false
set_option linter.unusedSimpArgs false

def w2B (w : Int) : Bool := decide (w = 8 ∨ w = 16)
theorem w2_cases (w : Int) : (∃ n : Nat, w = (n : Int) ∧ W2 n ∧ w2B w = true) ∨ (w2B w = false ∧ (w != 8) = true ∧ (w != 16) = true) := by
  by_cases h : w = 8 ∨ w = 16
  · left
    rcases h with rfl | rfl
    · exact ⟨8, rfl, .inl rfl, by decide⟩
    · exact ⟨16, rfl, .inr rfl, by decide⟩
  · right
    refine ⟨by simpa [w2B] using h, ?_, ?_⟩ <;> (simp; omega)
theorem w2_tests {n : Nat} (h : W2 n) : (((n : Int) != 8) = true ∧ ((n : Int) != 16) = false) ∨ ((n : Int) != 8) = false := by
  rcases h with rfl | rfl
  · exact .inr (by decide)
  · exact .inl ⟨by decide, by decide⟩
/-- The error, and the number, of Collisions. -/
def colE (w : Int) (a b : List Bool) : Int := if w2B w = true then kyE a b else 2
def colN (w : Int) (a b : List Bool) : Nat := if w2B w = true then kyN w.toNat a b 0 else 0
theorem cl_no {w : Int} (h : w2B w = false) (a b : List Bool) : colE w a b = 2 ∧ colN w a b = 0 := by
  unfold colE colN; rw [if_neg (by simp [h]), if_neg (by simp [h])]; exact ⟨rfl, rfl⟩
theorem cl_yes {n : Nat} (h : w2B (n : Int) = true) (a b : List Bool) : colE n a b = kyE a b ∧ colN n a b = kyN n a b 0 := by
  unfold colE colN; rw [if_pos h, if_pos h]; exact ⟨rfl, by simp⟩

set_option maxHeartbeats 1000000 in
theorem Collisions_any (w : Int) (A : Option Addr) (cA : Nat) (a : List Bool) (B : Option Addr) (cB : Nat) (b : List Bool) (v : World) (hA : Arr 1 encB v v.heap.size A a) (la : a.length ≤ cA) (ma : cA ≤ maxLen) (hB : Arr 1 encB v v.heap.size B b) (lb : b.length ≤ cB) (mb : cB ≤ maxLen) :
    Calls Tryd.prog 47 #[.int .i64 w, .slice A a.length cA, .slice B b.length cB] v fun e v' => e = .returned (.tuple #[.int .i64 (colN w a b), .int .i64 (colE w a b)]) ∧ Below v.heap.size v v' := by
  rcases w2_cases w with ⟨n, rfl, hn, hB2⟩ | ⟨hB2, h8, h16⟩
  · have cK := keys_any n A cA a B cB b 0 v hn hA la ma hB lb mb
    obtain ⟨e1, e2⟩ := cl_yes hB2 a b
    rw [e1, e2]
    generalize kyE a b = E at *
    generalize kyN n a b 0 = N at *
    clear e1 e2 hB2
    rcases w2_tests hn with ⟨h8, h16⟩ | h8
    all_goals (
      go_enter Tryd.func47, Tryd.ntmps47
      go_wp2_with (go_at_call 90; refine cK.mono ?_; rintro e w1 ⟨rfl, hb1⟩)
      go_ret2
      exact ⟨rfl, hb1⟩)
  · obtain ⟨e1, e2⟩ := cl_no hB2 a b
    rw [e1, e2]
    clear e1 e2 hB2
    go_enter Tryd.func47, Tryd.ntmps47
    go_wp2
    go_ret2
    exact ⟨rfl, Below.refl _ _⟩

set_option maxRecDepth 100000 in
set_option maxHeartbeats 2000000 in
theorem rCollisions_any (w : Int) (A : Option Addr) (cA : Nat) (a : List Bool) (B : Option Addr) (cB : Nat) (b : List Bool) (v : World) (hA : Arr 1 encB v v.heap.size A a) (na : A = none → cA = 0) (hB : Arr 1 encB v v.heap.size B b) (nb : B = none → cB = 0) :
    Calls Tryd.prog 48 #[.int .i64 w, .slice A a.length cA, .slice B b.length cB] v fun e v' => e = .returned (.tuple #[.int .i64 (colN w a b), .int .i64 (colE w a b)]) ∧ Below v.heap.size v v' := by
  rcases w2_cases w with ⟨n, rfl, hn, hB2⟩ | ⟨hB2, h8, h16⟩
  · obtain ⟨e1, e2⟩ := cl_yes hB2 a b
    rw [e1, e2]
    clear e1 e2 hB2
    by_cases hl : 512 < a.length ∨ 512 < b.length
    · have F : Hid (kyN n a b 0 = 0 ∧ kyE a b = 4) := Lib.hid ⟨by unfold kyN; rw [if_pos hl], by unfold kyE; rw [if_pos hl]⟩
      by_cases h1 : 512 < a.length
      · have d1 : decide (512 < (a.length : Int)) = true := by simp; omega
        clear hl
        rcases w2_tests hn with ⟨h8, h16⟩ | h8
        all_goals (
          go_enter Tryd.func48, Tryd.ntmps48
          go_wp2
          go_ret2
          exact ⟨by rw [F.out.1, F.out.2]; rfl, Below.refl _ _⟩)
      · have d1 : decide (512 < (a.length : Int)) = false := by simp; omega
        have d2 : decide (512 < (b.length : Int)) = true := by simp; omega
        clear hl
        rcases w2_tests hn with ⟨h8, h16⟩ | h8
        all_goals (
          go_enter Tryd.func48, Tryd.ntmps48
          go_wp2
          go_ret2
          exact ⟨by rw [F.out.1, F.out.2]; rfl, Below.refl _ _⟩)
    · have F : Hid (kyN n a b 0 = keyN n a b 0 ∧ kyE a b = 0) := Lib.hid ⟨by unfold kyN; rw [if_neg hl], by unfold kyE; rw [if_neg hl]⟩
      have d1 : decide (512 < (a.length : Int)) = false := by simp; omega
      have d2 : decide (512 < (b.length : Int)) = false := by simp; omega
      have hla : a.length ≤ 512 := by omega
      have hlb : b.length ≤ 512 := by omega
      clear hl
      have hp := pow_u64 (n := n) (by rcases hn with h | h <;> omega)
      have hX : 2 ^ n ≤ 65536 := Nat.pow_le_pow_right (by decide : 0 < 2) (show n ≤ 16 by rcases hn with h | h <;> omega)
      have hN : Hid (keyN n a b 0 = cntTo (keyP n a b 0) (2 ^ n)) := Lib.hid rfl
      have cA' := fun k w' (hk : k < 2 ^ n) (hb : Below v.heap.size v w') => rHash_any n k A cA a w' hn.wd hk (hA.on hb) (by omega) na
      have cB' := fun k w' (hk : k < 2 ^ n) (hb : Below v.heap.size v w') => rHash_any n k B cB b w' hn.wd hk (hB.on hb) (by omega) nb
      have w16 : n ≤ 16 := by rcases hn with h | h <;> omega
      obtain ⟨X, hXe⟩ : ∃ x, 2 ^ n = x := ⟨_, rfl⟩
      rw [hXe] at hp hX hN
      have HX := Lib.hid hXe
      clear hXe
      rcases w2_tests hn with ⟨h8, h16⟩ | h8
      all_goals (
        clear hn
        go_enter Tryd.func48, Tryd.ntmps48
        go_wp2
        go_loopw [8, 9] (fun m i wr => ∃ k : Nat, k ≤ X ∧ i = .int .u64 k ∧ m = .int .i64 (cntTo (keyP n a b 0) k) ∧ Below v.heap.size v wr) (fun _ i _ => X - (intOf i).toNat)
        case atStart => exact ⟨0, Nat.zero_le _, rfl, rfl, Below.refl _ _⟩
        case round =>
          obtain ⟨k, hk, rfl, rfl, hb⟩ := hrel
          have cl := cntTo_le (keyP n a b 0) k
          rcases Nat.lt_or_ge k X with hlt | hge
          · have c1 := cA' k wr (by rw [HX.out]; exact hlt) hb
            have c2 := fun w' (hb : Below v.heap.size v w') => cB' k w' (by rw [HX.out]; exact hlt) hb
            have st : Hid (cntTo (keyP n a b 0) (k + 1) = cntTo (keyP n a b 0) k + (if keyP n a b 0 k = true then 1 else 0)) := Lib.hid rfl
            have tst : ((hashN n k a : Int) == (hashN n k b : Int)) = keyP n a b 0 k := eq_test
            generalize hashN n k a = x at *
            generalize hashN n k b = y at *
            generalize cntTo (keyP n a b 0) k = C at *
            cases hp1 : keyP n a b 0 k
            all_goals (
              rw [hp1] at tst st
              clear hp1
              go_wp2_with (first
                | (go_at_call 91; refine Calls.on (args' := #[.int .i64 (n : Int), .int .u64 (k : Int), .slice A a.length cA]) rfl ?_; refine c1.mono ?_; rintro e w1 ⟨rfl, hb1⟩; have q1 := below_trans hb hb1)
                | (go_at_call 91; refine Calls.on (args' := #[.int .i64 (n : Int), .int .u64 (k : Int), .slice B b.length cB]) rfl ?_; refine (c2 _ q1).mono ?_; rintro e w2 ⟨rfl, hb2⟩; have q2 := below_trans q1 hb2))
              go_roundw
              case rel => exact ⟨k + 1, by omega, by go_num, by rw [st.out]; first | rfl | go_num, q2⟩
              case measure => (simp [intOf] <;> omega))
          · obtain rfl : k = X := by omega
            clear cA' cB'
            go_wp2
            go_ret2
            exact ⟨by rw [F.out.1, F.out.2, hN.out]; rfl, hb⟩)
  · obtain ⟨e1, e2⟩ := cl_no hB2 a b
    rw [e1, e2]
    clear e1 e2 hB2
    go_enter Tryd.func48, Tryd.ntmps48
    go_wp2
    go_ret2
    exact ⟨rfl, Below.refl _ _⟩

end Go.Proofs.YtliekcfcdfakjaaDoor
