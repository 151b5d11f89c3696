/- Contracts of Forgeries and Tag, the program's and the reference's. For any width, messages of any length, numbers of 64 bits. -/
import Derived.Test.YtliekcfcdfakjaaDoorFrgB
namespace Go.Proofs.YtliekcfcdfakjaaDoor
open Go.RowKit
set_option linter.unusedVariables false
set_option linter.unusedSimpArgs false

/-- The error, and the number, of Forgeries. -/
def frE (w : Int) (tag forged : Nat) (a b : List Bool) : Int := if w2B w = true then (if tag < 2 ^ w.toNat ∧ forged < 2 ^ w.toNat then kyE a b else 3) else 2
def frN (w : Int) (tag forged : Nat) (a b : List Bool) : Nat := if w2B w = true then (if tag < 2 ^ w.toNat ∧ forged < 2 ^ w.toNat then kyN w.toNat a b (tag ^^^ forged) else 0) else 0
theorem fr_no {w : Int} (h : w2B w = false) (t f : Nat) (a b : List Bool) : frE w t f a b = 2 ∧ frN w t f a b = 0 := by
  unfold frE frN; rw [if_neg (by simp [h]), if_neg (by simp [h])]; exact ⟨rfl, rfl⟩
theorem fr_big {n : Nat} (h : w2B (n : Int) = true) {t f : Nat} (hb : ¬ (t < 2 ^ n ∧ f < 2 ^ n)) (a b : List Bool) : frE n t f a b = 3 ∧ frN n t f a b = 0 := by
  unfold frE frN; rw [if_pos h, if_pos h]; simp only [Int.toNat_natCast]; rw [if_neg hb, if_neg hb]; exact ⟨rfl, rfl⟩
theorem fr_yes {n : Nat} (h : w2B (n : Int) = true) {t f : Nat} (hb : t < 2 ^ n ∧ f < 2 ^ n) (a b : List Bool) : frE n t f a b = kyE a b ∧ frN n t f a b = kyN n a b (t ^^^ f) := by
  unfold frE frN; rw [if_pos h, if_pos h]; simp only [Int.toNat_natCast]; rw [if_pos hb, if_pos hb]; exact ⟨rfl, rfl⟩

set_option maxHeartbeats 2000000 in
theorem Forgeries_any (w : Int) (t f : Nat) (A : Option Addr) (cA : Nat) (a : List Bool) (B : Option Addr) (cB : Nat) (b : List Bool) (v : World) (hA : Arr 1 encB v v.heap.size A a) (la : a.length ≤ cA) (ma : cA ≤ maxLen) (hB : Arr 1 encB v v.heap.size B b) (lb : b.length ≤ cB) (mb : cB ≤ maxLen) :
    Calls Tryd.prog 52 #[.int .i64 w, .slice A a.length cA, .int .u64 t, .slice B b.length cB, .int .u64 f] v fun e v' => e = .returned (.tuple #[.int .i64 (frN w t f a b), .int .i64 (frE w t f a b)]) ∧ Below v.heap.size v v' := by
  rcases w2_cases w with ⟨n, rfl, hn, hB2⟩ | ⟨hB2, h8, h16⟩
  · have s1 := shr_zero (key := t) (w := n)
    have s2 := shr_zero (key := f) (w := n)
    have n16 : n ≤ 16 := by rcases hn with h | h <;> omega
    by_cases h1 : t < 2 ^ n
    · rw [decide_eq_false (by simpa using h1)] at s1
      by_cases h2 : f < 2 ^ n
      · rw [decide_eq_false (by simpa using h2)] at s2
        have p16 : 2 ^ n ≤ 65536 := Nat.pow_le_pow_right (by decide : 0 < 2) n16
        have hx := xor_u64 (a := t) (b := f) (by omega) (by omega)
        have cK := keys_any n A cA a B cB b (t ^^^ f) v hn hA la ma hB lb mb
        obtain ⟨e1, e2⟩ := fr_yes hB2 ⟨h1, h2⟩ a b
        rw [e1, e2]
        generalize kyE a b = E at *
        generalize kyN n a b (t ^^^ f) = N at *
        clear e1 e2 hB2 h1 h2 p16
        rcases w2_tests hn with ⟨h8, h16⟩ | h8
        all_goals (
          clear hn
          go_enter Tryd.func52, Tryd.ntmps52
          go_wp2_with (go_at_call 90; refine cK.mono ?_; rintro e w1 ⟨rfl, hb1⟩)
          go_ret2
          exact ⟨rfl, hb1⟩)
      · rw [decide_eq_true (by simpa using h2)] at s2
        obtain ⟨e1, e2⟩ := fr_big hB2 (t := t) (f := f) (by simp [h2]) a b
        rw [e1, e2]
        clear e1 e2 hB2 h1 h2
        rcases w2_tests hn with ⟨h8, h16⟩ | h8
        all_goals (
          clear hn
          go_enter Tryd.func52, Tryd.ntmps52
          go_wp2
          go_ret2
          exact ⟨rfl, Below.refl _ _⟩)
    · rw [decide_eq_true (by simpa using h1)] at s1
      obtain ⟨e1, e2⟩ := fr_big hB2 (t := t) (f := f) (by simp [h1]) a b
      rw [e1, e2]
      clear e1 e2 hB2 h1
      rcases w2_tests hn with ⟨h8, h16⟩ | h8
      all_goals (
        clear hn
        go_enter Tryd.func52, Tryd.ntmps52
        go_wp2
        go_ret2
        exact ⟨rfl, Below.refl _ _⟩)
  · obtain ⟨e1, e2⟩ := fr_no hB2 t f a b
    rw [e1, e2]
    clear e1 e2 hB2
    go_enter Tryd.func52, Tryd.ntmps52
    go_wp2
    go_ret2
    exact ⟨rfl, Below.refl _ _⟩

set_option maxRecDepth 100000 in
set_option maxHeartbeats 2000000 in
theorem rForgeries_any (w : Int) (t f : Nat) (A : Option Addr) (cA : Nat) (a : List Bool) (B : Option Addr) (cB : Nat) (b : List Bool) (v : World) (hA : Arr 1 encB v v.heap.size A a) (na : A = none → cA = 0) (hB : Arr 1 encB v v.heap.size B b) (nb : B = none → cB = 0) :
    Calls Tryd.prog 53 #[.int .i64 w, .slice A a.length cA, .int .u64 t, .slice B b.length cB, .int .u64 f] v fun e v' => e = .returned (.tuple #[.int .i64 (frN w t f a b), .int .i64 (frE w t f a b)]) ∧ Below v.heap.size v v' := by
  rcases w2_cases w with ⟨n, rfl, hn, hB2⟩ | ⟨hB2, h8, h16⟩
  · have n16 : n ≤ 16 := by rcases hn with h | h <;> omega
    have cT := Fits_any t n v (by omega)
    have cF := Fits_any f n v (by omega)
    have cF' := fun (h : decide (f < 2 ^ n) = decide (f < 2 ^ n)) => cF
    by_cases h1 : t < 2 ^ n
    · rw [decide_eq_true h1] at cT
      by_cases h2 : f < 2 ^ n
      · rw [decide_eq_true h2] at cF
        clear cF'
        obtain ⟨e1, e2⟩ := fr_yes hB2 ⟨h1, h2⟩ a b
        rw [e1, e2]
        clear e1 e2 hB2
        by_cases hl : 512 < a.length ∨ 512 < b.length
        · have F : Hid (kyN n a b (t ^^^ f) = 0 ∧ kyE a b = 4) := Lib.hid ⟨by unfold kyN; rw [if_pos hl], by unfold kyE; rw [if_pos hl]⟩
          have hd : (decide (512 < (a.length : Int)) = true) ∨ (decide (512 < (a.length : Int)) = false ∧ decide (512 < (b.length : Int)) = true) := by simp only [decide_eq_true_eq, decide_eq_false_iff_not]; omega
          clear hl h1 h2
          rcases hd with d1 | ⟨d1, d2⟩
          all_goals (
            rcases w2_tests hn with ⟨h8, h16⟩ | h8
            all_goals (
              clear hn
              go_enter Tryd.func53, Tryd.ntmps53
              go_wp2_with (first
                | (go_at_call 94; refine Calls.on (args' := #[.int .u64 (t : Int), .int .i64 (n : Int)]) rfl ?_; refine cT.mono ?_; rintro e w' ⟨rfl, rfl⟩)
                | (go_at_call 94; refine Calls.on (args' := #[.int .u64 (f : Int), .int .i64 (n : Int)]) rfl ?_; refine cF.mono ?_; rintro e w' ⟨rfl, rfl⟩))
              go_ret2
              exact ⟨by rw [F.out.1, F.out.2]; rfl, Below.refl _ _⟩))
        · have F : Hid (kyN n a b (t ^^^ f) = keyN n a b (t ^^^ f) ∧ kyE a b = 0) := Lib.hid ⟨by unfold kyN; rw [if_neg hl], by unfold kyE; rw [if_neg hl]⟩
          have d1 : decide (512 < (a.length : Int)) = false := by simp; omega
          have d2 : decide (512 < (b.length : Int)) = false := by simp; omega
          have hla : a.length ≤ 512 := by omega
          have hlb : b.length ≤ 512 := by omega
          have p16 : 2 ^ n ≤ 65536 := Nat.pow_le_pow_right (by decide : 0 < 2) n16
          have t16 : t < 2 ^ 64 := Nat.lt_of_lt_of_le h1 (Nat.le_trans p16 (by decide))
          have Ht := Lib.hid t16
          clear hl h1 h2 t16
          have hp := pow_u64 (n := n) (by omega)
          have hX : 2 ^ n ≤ 65536 := p16
          have hN : Hid (keyN n a b (t ^^^ f) = cntTo (keyP n a b (t ^^^ f)) (2 ^ n)) := Lib.hid rfl
          have Hd := Lib.hid hn.wd
          have cA' := fun k w' (hk : k < 2 ^ n) (hb : Below v.heap.size v w') => rHash_any n k A cA a w' hn.wd hk (hA.on hb) (by omega) na
          have cB' := fun k w' (hk : k < 2 ^ n) (hb : Below v.heap.size v w') => rHash_any n k B cB b w' hn.wd hk (hB.on hb) (by omega) nb
          obtain ⟨X, hXe⟩ : ∃ x, 2 ^ n = x := ⟨_, rfl⟩
          rw [hXe] at hp hX hN
          have HX := Lib.hid hXe
          clear hXe p16
          rcases w2_tests hn with ⟨h8, h16⟩ | h8
          all_goals (
            clear hn
            go_enter Tryd.func53, Tryd.ntmps53
            go_wp2_with (first
              | (go_at_call 94; refine Calls.on (args' := #[.int .u64 (t : Int), .int .i64 (n : Int)]) rfl ?_; refine cT.mono ?_; rintro e w' ⟨rfl, rfl⟩)
              | (go_at_call 94; refine Calls.on (args' := #[.int .u64 (f : Int), .int .i64 (n : Int)]) rfl ?_; refine cF.mono ?_; rintro e w' ⟨rfl, rfl⟩))
            go_loopw [12, 13] (fun m i wr => ∃ k : Nat, k ≤ X ∧ i = .int .u64 k ∧ m = .int .i64 (cntTo (keyP n a b (t ^^^ f)) k) ∧ Below v.heap.size v wr) (fun _ i _ => X - (intOf i).toNat)
            case atStart => exact ⟨0, Nat.zero_le _, rfl, rfl, Below.refl _ _⟩
            case round =>
              obtain ⟨k, hk, rfl, rfl, hb⟩ := hrel
              have cl := cntTo_le (keyP n a b (t ^^^ f)) k
              rcases Nat.lt_or_ge k X with hlt | hge
              · have c1 := cA' k wr (by rw [HX.out]; exact hlt) hb
                have c2 := fun w' (hb : Below v.heap.size v w') => cB' k w' (by rw [HX.out]; exact hlt) hb
                have st : Hid (cntTo (keyP n a b (t ^^^ f)) (k + 1) = cntTo (keyP n a b (t ^^^ f)) k + (if keyP n a b (t ^^^ f) k = true then 1 else 0)) := Lib.hid rfl
                have tst : (((hashN n k b ^^^ (hashN n k a ^^^ t) : Nat) : Int) == (f : Int)) = keyP n a b (t ^^^ f) k := frg_test
                have l1 := hashN_64 (key := k) Hd.out a
                have x1 := xor_64 l1 Ht.out
                have x2 := xor_64 (hashN_64 (key := k) Hd.out b) (Nat.xor_lt_two_pow l1 Ht.out)
                clear l1
                generalize hashN n k a = x at *
                generalize hashN n k b = y at *
                generalize cntTo (keyP n a b (t ^^^ f)) k = C at *
                cases hp1 : keyP n a b (t ^^^ f) k
                all_goals (
                  rw [hp1] at tst st
                  clear hp1
                  go_wp2_with (first
                    | (go_at_call 91; refine Calls.on (args' := #[.int .i64 (n : Int), .int .u64 (k : Int), .slice A a.length cA]) rfl ?_; refine c1.mono ?_; rintro e w1 ⟨rfl, hb1⟩; have q1 := below_trans hb hb1)
                    | (go_at_call 91; refine Calls.on (args' := #[.int .i64 (n : Int), .int .u64 (k : Int), .slice B b.length cB]) rfl ?_; refine (c2 _ q1).mono ?_; rintro e w2 ⟨rfl, hb2⟩; have q2 := below_trans q1 hb2))
                  go_roundw
                  case rel => exact ⟨k + 1, by omega, by go_num, by rw [st.out]; first | rfl | go_num, q2⟩
                  case measure => (simp [intOf] <;> omega))
              · obtain rfl : k = X := by omega
                clear cA' cB'
                go_wp2
                go_ret2
                exact ⟨by rw [F.out.1, F.out.2, hN.out]; rfl, hb⟩)
      · rw [decide_eq_false h2] at cF
        obtain ⟨e1, e2⟩ := fr_big hB2 (t := t) (f := f) (by simp [h2]) a b
        rw [e1, e2]
        clear e1 e2 hB2 h1 h2 cF'
        rcases w2_tests hn with ⟨h8, h16⟩ | h8
        all_goals (
          clear hn
          go_enter Tryd.func53, Tryd.ntmps53
          go_wp2_with (first
            | (go_at_call 94; refine Calls.on (args' := #[.int .u64 (t : Int), .int .i64 (n : Int)]) rfl ?_; refine cT.mono ?_; rintro e w' ⟨rfl, rfl⟩)
            | (go_at_call 94; refine Calls.on (args' := #[.int .u64 (f : Int), .int .i64 (n : Int)]) rfl ?_; refine cF.mono ?_; rintro e w' ⟨rfl, rfl⟩))
          go_ret2
          exact ⟨rfl, Below.refl _ _⟩)
    · rw [decide_eq_false h1] at cT
      obtain ⟨e1, e2⟩ := fr_big hB2 (t := t) (f := f) (by simp [h1]) a b
      rw [e1, e2]
      clear e1 e2 hB2 h1 cF'
      rcases w2_tests hn with ⟨h8, h16⟩ | h8
      all_goals (
        clear hn
        go_enter Tryd.func53, Tryd.ntmps53
        go_wp2_with (go_at_call 94; refine cT.mono ?_; rintro e w' ⟨rfl, rfl⟩)
        go_ret2
        exact ⟨rfl, Below.refl _ _⟩)
  · obtain ⟨e1, e2⟩ := fr_no hB2 t f a b
    rw [e1, e2]
    clear e1 e2 hB2
    go_enter Tryd.func53, Tryd.ntmps53
    go_wp2
    go_ret2
    exact ⟨rfl, Below.refl _ _⟩

/-- The error, and the number, of a tag. -/
def tgE (w : Int) (key pad : Nat) (m : List Bool) : Int := if wdB w = true ∧ ¬ pad < 2 ^ w.toNat then 3 else hshE w key m
def tgN (w : Int) (key pad : Nat) (m : List Bool) : Nat := if tgE w key pad m = 0 then hashN w.toNat key m ^^^ pad else 0
theorem tg_wd {w : Int} (h : wdB w = false) (key pad : Nat) (m : List Bool) : tgE w key pad m = 2 ∧ tgN w key pad m = 0 := by
  have e : tgE w key pad m = 2 := by unfold tgE; rw [if_neg (by simp [h]), (hsh_wd h).1]
  exact ⟨e, by unfold tgN; rw [e]; rfl⟩
theorem tg_pad {n : Nat} (h : wdB (n : Int) = true) (key : Nat) {pad : Nat} (hp : ¬ pad < 2 ^ n) (m : List Bool) : tgE n key pad m = 3 ∧ tgN n key pad m = 0 := by
  have e : tgE n key pad m = 3 := by unfold tgE; rw [if_pos ⟨h, by simpa using hp⟩]
  exact ⟨e, by unfold tgN; rw [e]; rfl⟩
theorem tg_err {n : Nat} (key : Nat) {pad : Nat} (hp : pad < 2 ^ n) {m : List Bool} (he : hshE n key m ≠ 0) : tgE n key pad m = hshE n key m ∧ tgN n key pad m = 0 := by
  have e : tgE n key pad m = hshE n key m := by unfold tgE; rw [if_neg (by simp [hp])]
  exact ⟨e, by unfold tgN; rw [e, if_neg he]⟩
theorem tg_ok {n : Nat} (key : Nat) {pad : Nat} (hp : pad < 2 ^ n) {m : List Bool} (he : hshE n key m = 0) : tgE n key pad m = 0 ∧ tgN n key pad m = hashN n key m ^^^ pad := by
  have e : tgE n key pad m = 0 := by unfold tgE; rw [if_neg (by simp [hp]), he]
  exact ⟨e, by unfold tgN; rw [if_pos e]; simp⟩
theorem wd_tests {n : Nat} (h : Wd n) : ((n : Int) != 8) = false ∨ (((n : Int) != 8) = true ∧ ((n : Int) != 16) = false) ∨ (((n : Int) != 8) = true ∧ ((n : Int) != 16) = true ∧ ((n : Int) != 32) = false) := by
  rcases h with rfl | rfl | rfl
  · exact .inl (by decide)
  · exact .inr (.inl ⟨by decide, by decide⟩)
  · exact .inr (.inr ⟨by decide, by decide, by decide⟩)

set_option maxHeartbeats 2000000 in
theorem Tag_any (w : Int) (key pad : Nat) (A : Option Addr) (c : Nat) (m : List Bool) (v : World) (h : Arr 1 encB v v.heap.size A m) (hc : m.length ≤ c) (hmc : c ≤ maxLen) :
    Calls Tryd.prog 50 #[.int .i64 w, .int .u64 key, .int .u64 pad, .slice A m.length c] v fun e v' => e = .returned (.tuple #[.int .u64 (tgN w key pad m), .int .i64 (tgE w key pad m)]) ∧ Below v.heap.size v v' := by
  rcases wd_cases w with ⟨n, rfl, hn, hB⟩ | ⟨hB, h8, h16, h32⟩
  · have s1 := shr_zero (key := pad) (w := n)
    have n32 : n ≤ 32 := by rcases hn with h | h | h <;> omega
    by_cases h1 : pad < 2 ^ n
    · rw [decide_eq_false (by simpa using h1)] at s1
      have cH := Hash_any n key A c m v h hc hmc
      by_cases he : hshE n key m = 0
      · obtain ⟨e1, e2⟩ := tg_ok key h1 he
        have hN : hshN n key m = hashN n key m := by unfold hshN; rw [if_pos he]; simp
        rw [he, hN] at cH
        have hx := xor_64 (hashN_64 (key := key) hn m) (Nat.lt_of_lt_of_le h1 (Nat.pow_le_pow_right (by decide) (show n ≤ 64 by omega)))
        rw [e1, e2]
        generalize hashN n key m = H at *
        clear e1 e2 he hN h1 hB
        rcases wd_tests hn with h8 | ⟨h8, h16⟩ | ⟨h8, h16, h32⟩
        all_goals (
          clear hn
          go_enter Tryd.func50, Tryd.ntmps50
          go_wp2_with (go_at_call 81; refine cH.mono ?_; rintro e w1 ⟨rfl, hb1⟩)
          go_ret2
          exact ⟨rfl, hb1⟩)
      · obtain ⟨e1, e2⟩ := tg_err key h1 he
        have he' : (hshE n key m != 0) = true := by simpa using he
        rw [e1, e2]
        generalize hshE n key m = E at *
        generalize hshN n key m = N at *
        clear e1 e2 he h1 hB
        rcases wd_tests hn with h8 | ⟨h8, h16⟩ | ⟨h8, h16, h32⟩
        all_goals (
          clear hn
          go_enter Tryd.func50, Tryd.ntmps50
          go_wp2_with (go_at_call 81; refine cH.mono ?_; rintro e w1 ⟨rfl, hb1⟩)
          go_ret2
          exact ⟨rfl, hb1⟩)
    · rw [decide_eq_true (by simpa using h1)] at s1
      obtain ⟨e1, e2⟩ := tg_pad hB key h1 m
      rw [e1, e2]
      clear e1 e2 hB h1
      rcases wd_tests hn with h8 | ⟨h8, h16⟩ | ⟨h8, h16, h32⟩
      all_goals (
        clear hn
        go_enter Tryd.func50, Tryd.ntmps50
        go_wp2
        go_ret2
        exact ⟨rfl, Below.refl _ _⟩)
  · obtain ⟨e1, e2⟩ := tg_wd hB key pad m
    have g8 : (w != 8) = true := by simpa using h8
    have g16 : (w != 16) = true := by simpa using h16
    have g32 : (w != 32) = true := by simpa using h32
    rw [e1, e2]
    clear e1 e2 hB
    go_enter Tryd.func50, Tryd.ntmps50
    go_wp2
    go_ret2
    exact ⟨rfl, Below.refl _ _⟩

set_option maxHeartbeats 2000000 in
theorem rTag_any (w : Int) (key pad : Nat) (A : Option Addr) (c : Nat) (m : List Bool) (v : World) (h : Arr 1 encB v v.heap.size A m) (hl : m.length ≤ 100000) (hnil : A = none → c = 0) :
    Calls Tryd.prog 51 #[.int .i64 w, .int .u64 key, .int .u64 pad, .slice A m.length c] v fun e v' => e = .returned (.tuple #[.int .u64 (tgN w key pad m), .int .i64 (tgE w key pad m)]) ∧ Below v.heap.size v v' := by
  rcases wd_cases w with ⟨n, rfl, hn, hB⟩ | ⟨hB, h8, h16, h32⟩
  · have HB := Lib.hid hB
    have n32 : n ≤ 32 := by rcases hn with h | h | h <;> omega
    have cW := Width_any (n : Int) v
    rw [hB] at cW
    have cK := Fits_any key n v n32
    have cP := Fits_any pad n v n32
    by_cases hk : key < 2 ^ n
    · rw [decide_eq_true hk] at cK
      by_cases h1 : pad < 2 ^ n
      · rw [decide_eq_true h1] at cP
        have cH := rhash_any n key A c m v h hl hnil
        by_cases he : hshE n key m = 0
        · obtain ⟨e1, e2⟩ := tg_ok key h1 he
          have hN : hshN n key m = hashN n key m := by unfold hshN; rw [if_pos he]; simp
          rw [he, hN] at cH
          have hx := xor_64 (hashN_64 (key := key) hn m) (Nat.lt_of_lt_of_le h1 (Nat.pow_le_pow_right (by decide) (show n ≤ 64 by omega)))
          rw [e1, e2]
          generalize hashN n key m = H at *
          clear e1 e2 he hN h1 hB hk
          go_enter Tryd.func51, Tryd.ntmps51
          go_wp2_with (first
            | (go_at_call 93; refine (cW).mono ?_; rintro e w' ⟨rfl, rfl⟩)
            | (go_at_call 94; refine Calls.on (args' := #[.int .u64 (key : Int), .int .i64 (n : Int)]) rfl ?_; refine cK.mono ?_; rintro e w' ⟨rfl, rfl⟩)
            | (go_at_call 94; refine Calls.on (args' := #[.int .u64 (pad : Int), .int .i64 (n : Int)]) rfl ?_; refine cP.mono ?_; rintro e w' ⟨rfl, rfl⟩)
            | (go_at_call 82; refine cH.mono ?_; rintro e w1 ⟨rfl, hb1⟩))
          go_ret2
          exact ⟨rfl, hb1⟩
        · obtain ⟨e1, e2⟩ := tg_err key h1 he
          have he' : (hshE n key m != 0) = true := by simpa using he
          rw [e1, e2]
          generalize hshE n key m = E at *
          generalize hshN n key m = N at *
          clear e1 e2 he h1 hB hk
          go_enter Tryd.func51, Tryd.ntmps51
          go_wp2_with (first
            | (go_at_call 93; refine (cW).mono ?_; rintro e w' ⟨rfl, rfl⟩)
            | (go_at_call 94; refine Calls.on (args' := #[.int .u64 (key : Int), .int .i64 (n : Int)]) rfl ?_; refine cK.mono ?_; rintro e w' ⟨rfl, rfl⟩)
            | (go_at_call 94; refine Calls.on (args' := #[.int .u64 (pad : Int), .int .i64 (n : Int)]) rfl ?_; refine cP.mono ?_; rintro e w' ⟨rfl, rfl⟩)
            | (go_at_call 82; refine cH.mono ?_; rintro e w1 ⟨rfl, hb1⟩))
          go_ret2
          exact ⟨rfl, hb1⟩
      · rw [decide_eq_false h1] at cP
        obtain ⟨e1, e2⟩ := tg_pad hB key h1 m
        rw [e1, e2]
        clear e1 e2 hB h1 hk
        go_enter Tryd.func51, Tryd.ntmps51
        go_wp2_with (first
          | (go_at_call 93; refine (cW).mono ?_; rintro e w' ⟨rfl, rfl⟩)
          | (go_at_call 94; refine Calls.on (args' := #[.int .u64 (key : Int), .int .i64 (n : Int)]) rfl ?_; refine cK.mono ?_; rintro e w' ⟨rfl, rfl⟩)
          | (go_at_call 94; refine Calls.on (args' := #[.int .u64 (pad : Int), .int .i64 (n : Int)]) rfl ?_; refine cP.mono ?_; rintro e w' ⟨rfl, rfl⟩))
        go_ret2
        exact ⟨rfl, Below.refl _ _⟩
    · rw [decide_eq_false hk] at cK
      have e12 : tgE n key pad m = 3 ∧ tgN n key pad m = 0 := by
        by_cases h1 : pad < 2 ^ n
        · have he := (hsh_key (m := m) hB hk).1
          obtain ⟨e1, e2⟩ := tg_err (m := m) key h1 (by rw [he]; decide)
          exact ⟨e1.trans he, e2⟩
        · exact tg_pad hB key h1 m
      rw [e12.1, e12.2]
      clear e12 hB hk
      go_enter Tryd.func51, Tryd.ntmps51
      go_wp2_with (first
        | (go_at_call 93; refine (cW).mono ?_; rintro e w' ⟨rfl, rfl⟩)
        | (go_at_call 94; refine cK.mono ?_; rintro e w' ⟨rfl, rfl⟩))
      go_ret2
      exact ⟨rfl, Below.refl _ _⟩
  · obtain ⟨e1, e2⟩ := tg_wd hB key pad m
    have cW := Width_any w v
    rw [hB] at cW
    rw [e1, e2]
    clear e1 e2 hB
    go_enter Tryd.func51, Tryd.ntmps51
    go_wp2_with (go_at_call 93; refine (cW).mono ?_; rintro e w' ⟨rfl, rfl⟩)
    go_ret2
    exact ⟨rfl, Below.refl _ _⟩

end Go.Proofs.YtliekcfcdfakjaaDoor
