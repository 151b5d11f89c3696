/- The statement DistilCollides: for any two blocks, width, key and digest the law returns true and its argument reads as it did. No condition but what the card ties: the listed tables are as the program's text lays them. -/
import Derived.Test.YtliekcfcdfakjaaDoorDoorD
import Derived.Test.YtliekcfcdfakjaaDoorKnownD
import Derived.Test.YtliekcfcdfakjaaDoorColP
import Derived.Deep.DeepCutAuto
import Derived.Test.YtliekcfcdfakjaaDoorTie
import Derived.Test.YtliekcfcdfakjaaDoorCards
import Derived.SevenTiedAt
namespace Go.Proofs.YtliekcfcdfakjaaDoor.distilCollides
open Go.ChangeShapes Go.WideShapes Go.ChangeAt Go.RowKit Go.Deep Go.Joins
set_option linter.unusedVariables false
set_option linter.unusedSimpArgs false

theorem early {a b : List Bool} (h : ¬ (512 < a.length ∨ 512 < b.length) ∧ (150 < a.length ∨ 150 < b.length) ∨ 600 < a.length ∨ 600 < b.length) :
    (decide (512 < (a.length : Int)) = true ∧ decide (600 < (a.length : Int)) = true) ∨ (decide (512 < (a.length : Int)) = true ∧ decide (600 < (a.length : Int)) = false ∧ decide (600 < (b.length : Int)) = true) ∨
    (decide (512 < (a.length : Int)) = false ∧ decide (512 < (b.length : Int)) = true ∧ decide (600 < (a.length : Int)) = false ∧ decide (600 < (b.length : Int)) = true) ∨
    (decide (512 < (a.length : Int)) = false ∧ decide (512 < (b.length : Int)) = false ∧ decide (150 < (a.length : Int)) = true) ∨ (decide (512 < (a.length : Int)) = false ∧ decide (512 < (b.length : Int)) = false ∧ decide (150 < (a.length : Int)) = false ∧ decide (150 < (b.length : Int)) = true) := by
  simp only [decide_eq_true_eq, decide_eq_false_iff_not]; omega
theorem long {a b : List Bool} (h : ¬ (¬ (512 < a.length ∨ 512 < b.length) ∧ (150 < a.length ∨ 150 < b.length) ∨ 600 < a.length ∨ 600 < b.length)) (hl : 512 < a.length ∨ 512 < b.length) :
    (decide (512 < (a.length : Int)) = true ∧ decide (600 < (a.length : Int)) = false ∧ decide (600 < (b.length : Int)) = false) ∨ (decide (512 < (a.length : Int)) = false ∧ decide (512 < (b.length : Int)) = true ∧ decide (600 < (a.length : Int)) = false ∧ decide (600 < (b.length : Int)) = false) := by
  simp only [decide_eq_true_eq, decide_eq_false_iff_not]; omega

set_option maxRecDepth 100000 in
set_option maxHeartbeats 4000000 in
theorem go_early (A : Option Addr) (cA : Nat) (a : List Bool) (B : Option Addr) (cB : Nat) (b : List Bool) (w : Int) (key d : Nat) (v : World) (ht : Tab v)
    (h : ¬ (512 < a.length ∨ 512 < b.length) ∧ (150 < a.length ∨ 150 < b.length) ∨ 600 < a.length ∨ 600 < b.length) :
    Calls Tryd.prog 9 #[.agg #[.slice A a.length cA, .slice B b.length cB, .int .i64 w, .int .u64 key, .int .u64 d]] v fun e w' => e = .returned (.bool true) ∧ Below v.heap.size v w' := by
  have htl := ht.lt
  have q0 : Below v.heap.size v (v.alloc (.cells #[.slice A a.length cA, .slice B b.length cB, .int .i64 w, .int .u64 key, .int .u64 d] 58)) := below_alloc (Below.refl _ _) _
  have cK := fun w' (hb : Below v.heap.size v w') => known_any w' (ht.on hb htl)
  rcases early h with ⟨h1, h2⟩ | ⟨h1, h2, h3⟩ | ⟨h1, h2, h3, h4⟩ | ⟨h1, h2, h3⟩ | ⟨h1, h2, h3, h4⟩
  all_goals (
    clear h
    go_enter Tryd.func9, Tryd.ntmps9
    go_wp2_with (go_at_call 14; refine (cK _ q0).mono ?_; rintro e w5 ⟨rfl, hb5⟩)
    go_ret
    exact ⟨rfl, below_trans q0 hb5⟩)

set_option maxRecDepth 100000 in
set_option maxHeartbeats 4000000 in
theorem go_long (A : Option Addr) (cA : Nat) (a : List Bool) (B : Option Addr) (cB : Nat) (b : List Bool) (w : Int) (key d : Nat) (v : World) (ht : Tab v) (hA : Arr 1 encB v v.heap.size A a) (hB : Arr 1 encB v v.heap.size B b)
    (la : a.length ≤ cA) (ma : cA ≤ maxLen) (na : A = none → cA = 0) (lb : b.length ≤ cB) (mb : cB ≤ maxLen) (nb : B = none → cB = 0)
    (h : ¬ (¬ (512 < a.length ∨ 512 < b.length) ∧ (150 < a.length ∨ 150 < b.length) ∨ 600 < a.length ∨ 600 < b.length)) (hl : 512 < a.length ∨ 512 < b.length) :
    Calls Tryd.prog 9 #[.agg #[.slice A a.length cA, .slice B b.length cB, .int .i64 w, .int .u64 key, .int .u64 d]] v fun e w' => e = .returned (.bool true) ∧ Below v.heap.size v w' := by
  have htl := ht.lt
  have q0 := Bx5.new v (.slice A a.length cA) (.slice B b.length cB) (.int .i64 w) (.int .u64 key) (.int .u64 d) 58
  have cK := fun w' (hb : Below v.heap.size v w') => known_any w' (ht.on hb htl)
  have cC := fun w' (hb : Below v.heap.size v w') => Collisions_any w A cA a B cB b w' (hA.on hb) la ma (hB.on hb) lb mb
  have cR := fun w' (hb : Below v.heap.size v w') => rCollisions_any w A cA a B cB b w' (hA.on hb) na (hB.on hb) nb
  have hE := col_long w hl
  generalize colE w a b = E at *
  generalize colN w a b = N at *
  have hw : ∃ wb : Bool, (w == 16) = wb := ⟨_, rfl⟩
  obtain ⟨wb, hwb⟩ := hw
  rcases long h hl with ⟨h1, h2, h3⟩ | ⟨h1, h2, h3, h4⟩
  all_goals (
    clear h hl
    cases wb
    all_goals (
      go_enter Tryd.func9, Tryd.ntmps9
      go_wp2_with (first
        | (go_at_call 47; refine (cC _ q0.1).mono ?_; rintro e w1 ⟨rfl, hb1⟩; have q1 := q0.on hb1; have t0 := q1.2.1; have t1 := q1.2.2.1)
        | (go_at_call 48; refine (cR _ q1.1).mono ?_; rintro e w2 ⟨rfl, hb2⟩; have q2 := below_trans q1.1 hb2)
        | (go_at_call 14; refine (cK _ q2).mono ?_; rintro e w5 ⟨rfl, hb5⟩))
      go_ret
      exact ⟨rfl, below_trans q2 hb5⟩))

theorem pack (n : Nat) (L : Int) (hL : L = (n : Int)) (hn : W2 n) (A : Option Addr) (cA : Nat) (a : List Bool) (B : Option Addr) (cB : Nat) (b : List Bool) (k : Nat) (hk : k < 2 ^ n) (v : World) (hA : Arr 1 encB v v.heap.size A a) (hB : Arr 1 encB v v.heap.size B b)
    (la : a.length ≤ cA) (ma : cA ≤ maxLen) (na : A = none → cA = 0) (lb : b.length ≤ cB) (mb : cB ≤ maxLen) (nb : B = none → cB = 0) (ha : a.length ≤ 150) (hb : b.length ≤ 150) :
    ∃ (N H : Nat) (C : Int),
      (∀ w', Below v.heap.size v w' → Calls Tryd.prog 47 #[.int .i64 L, .slice A a.length cA, .slice B b.length cB] w' fun e w1 => e = .returned (.tuple #[.int .i64 N, .int .i64 0]) ∧ Below w'.heap.size w' w1) ∧
      (∀ w', Below v.heap.size v w' → Calls Tryd.prog 48 #[.int .i64 L, .slice A a.length cA, .slice B b.length cB] w' fun e w1 => e = .returned (.tuple #[.int .i64 N, .int .i64 0]) ∧ Below w'.heap.size w' w1) ∧
      (∀ w', Below v.heap.size v w' → Calls Tryd.prog 36 #[.int .i64 L, .int .u64 k, .slice A a.length cA] w' fun e w1 => e = .returned (.tuple #[.int .u64 H, .int .i64 0]) ∧ Below w'.heap.size w' w1) ∧
      (∀ w', Below v.heap.size v w' → Calls Tryd.prog 38 #[.int .i64 L, .int .u64 k, .slice B b.length cB, .int .u64 H] w' fun e w1 => e = .returned (.int .i64 C) ∧ Below w'.heap.size w' w1) ∧
      ((C == 0) = true ∧ ((N : Int) == 0) = false ∨ (C == 0) = false) ∧ (a = b → N = 2 ^ n) ∧ (a ≠ b → N ≤ max a.length b.length / n + 2) ∧ N ≤ 65536 := by
  subst hL
  have hB2 : w2B (n : Int) = true := by rcases hn with rfl | rfl <;> decide
  obtain ⟨e1, e2⟩ := cl_yes hB2 a b
  obtain ⟨f1, f2⟩ := ky_ok n (a := a) (b := b) (by omega) (by omega) 0
  obtain ⟨g1, g2⟩ := dig_ok hn hk (m := a) (by omega)
  refine ⟨keyN n a b 0, hashN n k a, cfE n k b (hashN n k a), ?_, ?_, ?_, ?_, ?_, ?_, ?_, ?_⟩
  · intro w' h; have := Collisions_any n A cA a B cB b w' (hA.on h) la ma (hB.on h) lb mb; rw [e1, e2, f1, f2] at this; exact this
  · intro w' h; have := rCollisions_any n A cA a B cB b w' (hA.on h) na (hB.on h) nb; rw [e1, e2, f1, f2] at this; exact this
  · intro w' h; have := Digest_any n k A cA a w' (hA.on h) la ma; rw [g1, g2] at this; exact this
  · intro w' h; exact Confirm_any n k (hashN n k a) B cB b w' (hB.on h) lb mb
  · by_cases h : cfE n k b (hashN n k a) = 0
    · left; refine ⟨by simpa using h, ?_⟩
      have := cf_col hn hk (a := a) (b := b) (by omega) h
      simp; omega
    · right; simpa using h
  · intro h; rw [h]; exact keyN_all b
  · intro h; exact keyN_le hn a b 0 (Nat.pow_pos (by decide)) (.inl h)
  · have := cntTo_le (keyP n a b 0) (2 ^ n)
    have h2 : 2 ^ n ≤ 65536 := Nat.pow_le_pow_right (by decide : 0 < 2) (show n ≤ 16 by rcases hn with h | h <;> omega)
    exact Nat.le_trans this h2

set_option maxRecDepth 100000 in
set_option maxHeartbeats 4000000 in
theorem go_main (A : Option Addr) (cA : Nat) (a : List Bool) (B : Option Addr) (cB : Nat) (b : List Bool) (w : Int) (key d : Nat) (v : World) (ht : Tab v) (hA : Arr 1 encB v v.heap.size A a) (hB : Arr 1 encB v v.heap.size B b)
    (la : a.length ≤ cA) (ma : cA ≤ maxLen) (na : A = none → cA = 0) (lb : b.length ≤ cB) (mb : cB ≤ maxLen) (nb : B = none → cB = 0) (ha : a.length ≤ 150) (hb : b.length ≤ 150) :
    Calls Tryd.prog 9 #[.agg #[.slice A a.length cA, .slice B b.length cB, .int .i64 w, .int .u64 key, .int .u64 d]] v fun e w' => e = .returned (.bool true) ∧ Below v.heap.size v w' := by
  have htl := ht.lt
  have q0 := Bx5.new v (.slice A a.length cA) (.slice B b.length cB) (.int .i64 w) (.int .u64 key) (.int .u64 d) 58
  have cK := fun w' (hb : Below v.heap.size v w') => known_any w' (ht.on hb htl)
  have d1 : decide (512 < (a.length : Int)) = false := by simp; omega
  have d2 : decide (512 < (b.length : Int)) = false := by simp; omega
  have d3 : decide (150 < (a.length : Int)) = false := by simp; omega
  have d4 : decide (150 < (b.length : Int)) = false := by simp; omega
  have d5 : decide (600 < (a.length : Int)) = false := by simp; omega
  have d6 : decide (600 < (b.length : Int)) = false := by simp; omega
  rcases w2_cases w with ⟨n, rfl, hn, hB2⟩ | ⟨hB2, h8, h16⟩
  · obtain ⟨sb, hsb⟩ : ∃ sb : Bool, decide (20 < (a.length : Int) + (b.length : Int)) = sb := ⟨_, rfl⟩
    have k8 : key % 256 < 2 ^ 8 := Nat.mod_lt _ (by decide)
    have k16 : key % 65536 < 2 ^ 16 := Nat.mod_lt _ (by decide)
    have kk8 : ((key % 256 : Nat) : Int) = (key : Int) % 256 := by omega
    have kk16 : ((key % 65536 : Nat) : Int) = (key : Int) % 65536 := by omega
    have cS := fun w' (h : Below v.heap.size v w') => Same_any A B cA cB a b w' (hA.on h) (hB.on h) (by omega) (by omega)
    obtain ⟨i0, hi, hz0, hz1, hz2⟩ := info_parts bool_info
    have Hi := Lib.hid hi; have Hz0 := Lib.hid hz0; have Hz1 := Lib.hid hz1; have Hz2 := Lib.hid hz2
    clear hi hz0 hz1 hz2
    have hways : (n = 8 ∨ n = 16 ∧ sb = true) ∨ (n = 16 ∧ sb = false) := by rcases hn with h | h <;> cases sb <;> simp [h]
    clear hB2 hn
    have p8 := pack 8 8 rfl (.inl rfl) A cA a B cB b (key % 256) k8 v hA hB la ma na lb mb nb ha hb
    have p16 := pack 16 16 rfl (.inr rfl) A cA a B cB b (key % 65536) k16 v hA hB la ma na lb mb nb ha hb
    rcases hways with (rfl | ⟨rfl, rfl⟩) | ⟨rfl, rfl⟩
    · obtain ⟨N, H, C, cC, cR, cD, cF, hC, hS, hW, hN⟩ := p8
      clear p16
      simp only [kk8] at cD cF
      clear hsb
      go_enter Tryd.func9, Tryd.ntmps9
      go_wp2_with (first
        | (go_at_call 47; refine (cC _ q0.1).mono ?_; rintro e w1 ⟨rfl, hb1⟩; have q1 := q0.on hb1; have t0 := q1.2.1; have t1 := q1.2.2.1)
        | (go_at_call 48; refine (cR _ q1.1).mono ?_; rintro e w2 ⟨rfl, hb2⟩; have q2 := q1.on hb2))
      have y3 := later_cell q2.2.2.2.2.1
      (refine wp_region_later (by kernel_rfl) (by kernel_rfl) ?_; (repeat (go_big_quiet_step (fail))); refine wpQuiet_nil ?_; rintro w3 ⟨⟨_, hb3⟩, rfl⟩)
      have q3 := q2.on hb3
      have t30 := q3.2.1
      clear y3 cC cR t0 t1 d3 d4 d5 d6
      rcases hC with ⟨c1, c2⟩ | c1
      all_goals (
        by_cases hab : a = b
        · have tN : ((N : Int) == 256) = true := by have := hS hab; simp; omega
          have dab : decide (a = b) = true := decide_eq_true hab
          clear hab hS hW
          go_wp2_with (first
            | (go_at_call 36; refine (cD _ q3.1).mono ?_; rintro e w4 ⟨rfl, hb4⟩; have q4 := q3.on hb4; have t41 := q4.2.2.1)
            | (go_at_call 38; refine (cF _ q4.1).mono ?_; rintro e w5 ⟨rfl, hb5⟩; have q5 := q4.on hb5; have t50 := q5.2.1; have t51 := q5.2.2.1)
            | (go_at_call 44; refine (cS _ q5.1).mono ?_; rintro e w6 ⟨rfl, hb6⟩; rw [dab]; have q6 := q5.on hb6)
            | (go_at_call 14; refine (cK _ q6.1).mono ?_; rintro e w9 ⟨rfl, hb9⟩))
          go_ret
          exact ⟨rfl, below_trans q6.1 hb9⟩
        · have hNle := hW hab
          have dab : decide (a = b) = false := decide_eq_false hab
          clear hab hS hW
          obtain ⟨M, hM⟩ : ∃ M : Nat, max a.length b.length = M := ⟨_, rfl⟩
          have hM150 : M ≤ 150 := by omega
          have hws := wordsL_length (w := 8) (by decide) (List.replicate M false)
          rw [hM] at hNle
          rw [List.length_replicate] at hws
          have cW : ∀ (w' : World) (A' : Option Addr) (c' : Nat), Arr 1 encB w' w'.heap.size A' (List.replicate M false) → (A' = none → c' = 0) → Calls Tryd.prog 49 #[.int .i64 8, .slice A' M c'] w' fun e v' => ∃ x, e = .returned x ∧ Own v' w'.heap.size 45 1 enc64 x (wordsL 8 (List.replicate M false)) ∧ Below w'.heap.size w' v' := fun w' A' c' h hn => by
            have := Words_any 8 A' c' (List.replicate M false) w' (.inl rfl) h (by rw [List.length_replicate]; omega) hn
            rw [List.length_replicate] at this; exact this
          rw [← hws] at hNle
          generalize wordsL 8 (List.replicate M false) = ws at *
          have HM := Lib.hid hM
          have Hws := Lib.hid hws
          clear hM hws
          go_wp2_with (first
            | (go_at_call 36; refine (cD _ q3.1).mono ?_; rintro e w4 ⟨rfl, hb4⟩; have q4 := q3.on hb4; have t41 := q4.2.2.1)
            | (go_at_call 38; refine (cF _ q4.1).mono ?_; rintro e w5 ⟨rfl, hb5⟩; have q5 := q4.on hb5; have t50 := q5.2.1; have t51 := q5.2.2.1)
            | (go_at_call 44; refine (cS _ q5.1).mono ?_; rintro e w6 ⟨rfl, hb6⟩; rw [dab]; have q6 := q5.on hb6; have t60 := q6.2.1; have t61 := q6.2.2.1)
            | (at_make; refine wpList_mk rfl _ _ 43 rfl 4 i0 _ 1 Tryd.underlying43 Hi.out Hz0.out Hz1.out Hz2.out rfl (fun b : Bool => Value.bool b) false rfl _ _ _ _ M rfl rfl (by have := HM.out; omega) (by have := HM.out; omega) (by omega) (by unfold maxLen; omega) ?_; intro w7 own7 hb7; have q7 := q6.on hb7; obtain ⟨A7, c7, e7, _, _, n7, ar7⟩ := own7.form (enc := encB) encB_len; simp only [Value.slice.injEq] at e7; obtain ⟨e7a, e7b, e7c⟩ := e7; clear e7b; subst e7a e7c)
            | (go_at_call 49; ((with_reducible refine (cW _ _ _ ar7 n7).mono ?_)); rintro e w8 ⟨x8, rfl, own8, hb8⟩; have q8 := q7.on hb8; obtain ⟨A8, c8, e8, _, _, _, _⟩ := own8.form enc64_len; subst e8)
            | (go_at_call 14; refine (cK _ q8.1).mono ?_; rintro e w9 ⟨rfl, hb9⟩))
          go_ret
          exact ⟨rfl, below_trans q8.1 hb9⟩)
    · obtain ⟨N, H, C, cC, cR, cD, cF, hC, hS, hW, hN⟩ := p8
      clear p16
      simp only [kk8] at cD cF
      go_enter Tryd.func9, Tryd.ntmps9
      go_wp2_with (first
        | (go_at_call 47; refine (cC _ q0.1).mono ?_; rintro e w1 ⟨rfl, hb1⟩; have q1 := q0.on hb1; have t0 := q1.2.1; have t1 := q1.2.2.1)
        | (go_at_call 48; refine (cR _ q1.1).mono ?_; rintro e w2 ⟨rfl, hb2⟩; have q2 := q1.on hb2))
      have y3 := later_cell q2.2.2.2.2.1
      (refine wp_region_later (by kernel_rfl) (by kernel_rfl) ?_; (repeat (go_big_quiet_step (fail))); refine wpQuiet_nil ?_; rintro w3 ⟨⟨_, hb3⟩, rfl⟩)
      have q3 := q2.on hb3
      have t30 := q3.2.1
      clear y3 cC cR t0 t1 d3 d4 d5 d6
      rcases hC with ⟨c1, c2⟩ | c1
      all_goals (
        by_cases hab : a = b
        · have tN : ((N : Int) == 256) = true := by have := hS hab; simp; omega
          have dab : decide (a = b) = true := decide_eq_true hab
          clear hab hS hW
          go_wp2_with (first
            | (go_at_call 36; refine (cD _ q3.1).mono ?_; rintro e w4 ⟨rfl, hb4⟩; have q4 := q3.on hb4; have t41 := q4.2.2.1)
            | (go_at_call 38; refine (cF _ q4.1).mono ?_; rintro e w5 ⟨rfl, hb5⟩; have q5 := q4.on hb5; have t50 := q5.2.1; have t51 := q5.2.2.1)
            | (go_at_call 44; refine (cS _ q5.1).mono ?_; rintro e w6 ⟨rfl, hb6⟩; rw [dab]; have q6 := q5.on hb6)
            | (go_at_call 14; refine (cK _ q6.1).mono ?_; rintro e w9 ⟨rfl, hb9⟩))
          go_ret
          exact ⟨rfl, below_trans q6.1 hb9⟩
        · have hNle := hW hab
          have dab : decide (a = b) = false := decide_eq_false hab
          clear hab hS hW
          obtain ⟨M, hM⟩ : ∃ M : Nat, max a.length b.length = M := ⟨_, rfl⟩
          have hM150 : M ≤ 150 := by omega
          have hws := wordsL_length (w := 8) (by decide) (List.replicate M false)
          rw [hM] at hNle
          rw [List.length_replicate] at hws
          have cW : ∀ (w' : World) (A' : Option Addr) (c' : Nat), Arr 1 encB w' w'.heap.size A' (List.replicate M false) → (A' = none → c' = 0) → Calls Tryd.prog 49 #[.int .i64 8, .slice A' M c'] w' fun e v' => ∃ x, e = .returned x ∧ Own v' w'.heap.size 45 1 enc64 x (wordsL 8 (List.replicate M false)) ∧ Below w'.heap.size w' v' := fun w' A' c' h hn => by
            have := Words_any 8 A' c' (List.replicate M false) w' (.inl rfl) h (by rw [List.length_replicate]; omega) hn
            rw [List.length_replicate] at this; exact this
          rw [← hws] at hNle
          generalize wordsL 8 (List.replicate M false) = ws at *
          have HM := Lib.hid hM
          have Hws := Lib.hid hws
          clear hM hws
          go_wp2_with (first
            | (go_at_call 36; refine (cD _ q3.1).mono ?_; rintro e w4 ⟨rfl, hb4⟩; have q4 := q3.on hb4; have t41 := q4.2.2.1)
            | (go_at_call 38; refine (cF _ q4.1).mono ?_; rintro e w5 ⟨rfl, hb5⟩; have q5 := q4.on hb5; have t50 := q5.2.1; have t51 := q5.2.2.1)
            | (go_at_call 44; refine (cS _ q5.1).mono ?_; rintro e w6 ⟨rfl, hb6⟩; rw [dab]; have q6 := q5.on hb6; have t60 := q6.2.1; have t61 := q6.2.2.1)
            | (at_make; refine wpList_mk rfl _ _ 43 rfl 4 i0 _ 1 Tryd.underlying43 Hi.out Hz0.out Hz1.out Hz2.out rfl (fun b : Bool => Value.bool b) false rfl _ _ _ _ M rfl rfl (by have := HM.out; omega) (by have := HM.out; omega) (by omega) (by unfold maxLen; omega) ?_; intro w7 own7 hb7; have q7 := q6.on hb7; obtain ⟨A7, c7, e7, _, _, n7, ar7⟩ := own7.form (enc := encB) encB_len; simp only [Value.slice.injEq] at e7; obtain ⟨e7a, e7b, e7c⟩ := e7; clear e7b; subst e7a e7c)
            | (go_at_call 49; ((with_reducible refine (cW _ _ _ ar7 n7).mono ?_)); rintro e w8 ⟨x8, rfl, own8, hb8⟩; have q8 := q7.on hb8; obtain ⟨A8, c8, e8, _, _, _, _⟩ := own8.form enc64_len; subst e8)
            | (go_at_call 14; refine (cK _ q8.1).mono ?_; rintro e w9 ⟨rfl, hb9⟩))
          go_ret
          exact ⟨rfl, below_trans q8.1 hb9⟩)
    · obtain ⟨N, H, C, cC, cR, cD, cF, hC, hS, hW, hN⟩ := p16
      clear p8
      simp only [kk16] at cD cF
      go_enter Tryd.func9, Tryd.ntmps9
      go_wp2_with (first
        | (go_at_call 47; refine (cC _ q0.1).mono ?_; rintro e w1 ⟨rfl, hb1⟩; have q1 := q0.on hb1; have t0 := q1.2.1; have t1 := q1.2.2.1)
        | (go_at_call 48; refine (cR _ q1.1).mono ?_; rintro e w2 ⟨rfl, hb2⟩; have q2 := q1.on hb2))
      have y3 := later_cell q2.2.2.2.2.1
      (refine wp_region_later (by kernel_rfl) (by kernel_rfl) ?_; (repeat (go_big_quiet_step (fail))); refine wpQuiet_nil ?_; rintro w3 ⟨⟨_, hb3⟩, rfl⟩)
      have q3 := q2.on hb3
      have t30 := q3.2.1
      clear y3 cC cR t0 t1 d3 d4 d5 d6
      rcases hC with ⟨c1, c2⟩ | c1
      all_goals (
        by_cases hab : a = b
        · have tN : ((N : Int) == 65536) = true := by have := hS hab; simp; omega
          have dab : decide (a = b) = true := decide_eq_true hab
          clear hab hS hW
          go_wp2_with (first
            | (go_at_call 36; refine (cD _ q3.1).mono ?_; rintro e w4 ⟨rfl, hb4⟩; have q4 := q3.on hb4; have t41 := q4.2.2.1)
            | (go_at_call 38; refine (cF _ q4.1).mono ?_; rintro e w5 ⟨rfl, hb5⟩; have q5 := q4.on hb5; have t50 := q5.2.1; have t51 := q5.2.2.1)
            | (go_at_call 44; refine (cS _ q5.1).mono ?_; rintro e w6 ⟨rfl, hb6⟩; rw [dab]; have q6 := q5.on hb6)
            | (go_at_call 14; refine (cK _ q6.1).mono ?_; rintro e w9 ⟨rfl, hb9⟩))
          go_ret
          exact ⟨rfl, below_trans q6.1 hb9⟩
        · have hNle := hW hab
          have dab : decide (a = b) = false := decide_eq_false hab
          clear hab hS hW
          obtain ⟨M, hM⟩ : ∃ M : Nat, max a.length b.length = M := ⟨_, rfl⟩
          have hM150 : M ≤ 150 := by omega
          have hws := wordsL_length (w := 16) (by decide) (List.replicate M false)
          rw [hM] at hNle
          rw [List.length_replicate] at hws
          have cW : ∀ (w' : World) (A' : Option Addr) (c' : Nat), Arr 1 encB w' w'.heap.size A' (List.replicate M false) → (A' = none → c' = 0) → Calls Tryd.prog 49 #[.int .i64 16, .slice A' M c'] w' fun e v' => ∃ x, e = .returned x ∧ Own v' w'.heap.size 45 1 enc64 x (wordsL 16 (List.replicate M false)) ∧ Below w'.heap.size w' v' := fun w' A' c' h hn => by
            have := Words_any 16 A' c' (List.replicate M false) w' (.inr (.inl rfl)) h (by rw [List.length_replicate]; omega) hn
            rw [List.length_replicate] at this; exact this
          rw [← hws] at hNle
          generalize wordsL 16 (List.replicate M false) = ws at *
          have HM := Lib.hid hM
          have Hws := Lib.hid hws
          clear hM hws
          go_wp2_with (first
            | (go_at_call 36; refine (cD _ q3.1).mono ?_; rintro e w4 ⟨rfl, hb4⟩; have q4 := q3.on hb4; have t41 := q4.2.2.1)
            | (go_at_call 38; refine (cF _ q4.1).mono ?_; rintro e w5 ⟨rfl, hb5⟩; have q5 := q4.on hb5; have t50 := q5.2.1; have t51 := q5.2.2.1)
            | (go_at_call 44; refine (cS _ q5.1).mono ?_; rintro e w6 ⟨rfl, hb6⟩; rw [dab]; have q6 := q5.on hb6; have t60 := q6.2.1; have t61 := q6.2.2.1)
            | (at_make; refine wpList_mk rfl _ _ 43 rfl 4 i0 _ 1 Tryd.underlying43 Hi.out Hz0.out Hz1.out Hz2.out rfl (fun b : Bool => Value.bool b) false rfl _ _ _ _ M rfl rfl (by have := HM.out; omega) (by have := HM.out; omega) (by omega) (by unfold maxLen; omega) ?_; intro w7 own7 hb7; have q7 := q6.on hb7; obtain ⟨A7, c7, e7, _, _, n7, ar7⟩ := own7.form (enc := encB) encB_len; simp only [Value.slice.injEq] at e7; obtain ⟨e7a, e7b, e7c⟩ := e7; clear e7b; subst e7a e7c)
            | (go_at_call 49; ((with_reducible refine (cW _ _ _ ar7 n7).mono ?_)); rintro e w8 ⟨x8, rfl, own8, hb8⟩; have q8 := q7.on hb8; obtain ⟨A8, c8, e8, _, _, _, _⟩ := own8.form enc64_len; subst e8)
            | (go_at_call 14; refine (cK _ q8.1).mono ?_; rintro e w9 ⟨rfl, hb9⟩))
          go_ret
          exact ⟨rfl, below_trans q8.1 hb9⟩)
  · have hE : Hid (colE w a b = 2 ∧ colN w a b = 0) := Lib.hid (cl_no hB2 a b)
    have cC := fun w' (hb : Below v.heap.size v w') => Collisions_any w A cA a B cB b w' (hA.on hb) la ma (hB.on hb) lb mb
    have cR := fun w' (hb : Below v.heap.size v w') => rCollisions_any w A cA a B cB b w' (hA.on hb) na (hB.on hb) nb
    rw [hE.out.1, hE.out.2] at cC cR
    have h16' : (w == 16) = false := by simpa using h16
    clear hB2
    go_enter Tryd.func9, Tryd.ntmps9
    go_wp2_with (first
      | (go_at_call 47; refine (cC _ q0.1).mono ?_; rintro e w1 ⟨rfl, hb1⟩; have q1 := q0.on hb1; have t0 := q1.2.1; have t1 := q1.2.2.1)
      | (go_at_call 48; refine (cR _ q1.1).mono ?_; rintro e w2 ⟨rfl, hb2⟩; have q2 := below_trans q1.1 hb2)
      | (go_at_call 14; refine (cK _ q2).mono ?_; rintro e w5 ⟨rfl, hb5⟩))
    go_ret
    exact ⟨rfl, below_trans q2 hb5⟩

theorem walk (A : Option Addr) (cA : Nat) (a : List Bool) (B : Option Addr) (cB : Nat) (b : List Bool) (w key d : Int) (v : World) (ht : Tab v)
    (hA : Arr 1 encB v v.heap.size A a) (la : a.length ≤ cA) (ma : cA ≤ maxLen) (na : A = none → cA = 0) (_ : ∀ x ∈ a, True)
    (hB : Arr 1 encB v v.heap.size B b) (lb : b.length ≤ cB) (mb : cB ≤ maxLen) (nb : B = none → cB = 0) (_ : ∀ x ∈ b, True) (_ : (Lit.int .i64 w).wf = true) (hk : (Lit.int .u64 key).wf = true) (hd : (Lit.int .u64 d).wf = true) :
    Calls Tryd.prog 9 #[.agg #[.slice A a.length cA, .slice B b.length cB, .int .i64 w, .int .u64 key, .int .u64 d]] v fun e w' => e = .returned (.bool true) ∧ Below v.heap.size v w' := by
  have b1 := bounds_u64 hk
  have b2 := bounds_u64 hd
  obtain ⟨k, rfl⟩ : ∃ k : Nat, key = (k : Int) := ⟨key.toNat, by omega⟩
  obtain ⟨e, rfl⟩ : ∃ k : Nat, d = (k : Int) := ⟨d.toNat, by omega⟩
  by_cases h : ¬ (512 < a.length ∨ 512 < b.length) ∧ (150 < a.length ∨ 150 < b.length) ∨ 600 < a.length ∨ 600 < b.length
  · exact go_early A cA a B cB b w k e v ht h
  · by_cases hl : 512 < a.length ∨ 512 < b.length
    · exact go_long A cA a B cB b w k e v ht hA hB la ma na lb mb nb h hl
    · exact go_main A cA a B cB b w k e v ht hA hB la ma na lb mb nb (by omega) (by omega)

set_option maxRecDepth 100000 in
theorem lifted (os : Os) (started : os.Started) (H : Type) (enc : TypeId × Value → H) :
    ReturnsInHanded {} Tryd.checked os 9 .any (fun w args => (Rows.distilCollidesSpec.pre enc Tryd.prog Tryd.f9 [] false w args ∧ laidMetH Tryd.prog laid3 w) ∧ sizedMet enc Tryd.prog Tryd.f9 (OpenSpec.ofChange Rows.distilCollidesSpec) false w args) (Rows.distilCollidesSpec.post enc Tryd.prog Tryd.f9 false true false false) := by
  refine returnsInHanded_of_change_and (C := Tryd.checked) (X := fun w _ => laidMetH Tryd.prog laid3 w) (fun _ _ _ hh h => h.of_heap hh) own started (by kernel_rfl) Tryd.func9
    (ChangeSpec.witness_shaped (enc := enc) (C := Tryd.checked) (os := os) (X := fun w _ => laidMetH Tryd.prog laid3 w) false (World.doorLaid Tryd.prog 400 os) #[.agg #[.slice none 0 0, .slice none 0 0, .int .i64 0, .int .u64 0, .int .u64 0]] 8 rfl (World.shaped_of_RefB (by kernel_rfl) (by kernel_rfl)) (by kernel_rfl) (by kernel_rfl) (by kernel_rfl) (door3 os _)) ?_
  intro W base args ds gs before hval0 hW _ hsz hL _
  have hval : ∀ (j : Nat) t v, Tryd.f9.params[j]? = some t → args[j]? = some v → Value.okWide Tryd.prog W .any base t v := hval0
  have hW' := hW
  obtain ⟨p, q, hA0, hV, rfl, hfz, hnd⟩ := hW
  have hA : DataW.TrodAll enc Tryd.prog W 0 (fun _ => true) true Tryd.f9.params.toList args.toList ds p := hA0
  rw [Tryd.params9] at hA hval
  obtain ⟨v0, vs0, d0, ds0, p0, q0, hargs, rfl, rfl, h0, r0⟩ := trodAll_cons hA
  obtain ⟨rfl, rfl, rfl⟩ := trodAll_nil r0
  obtain rfl : args = #[v0] := by cases args; simp_all
  obtain ⟨rfl, rfl⟩ := trodVars_none hV
  have lt0 : ∀ x ∈ p0, x.block < W.heap.size := by obtain ⟨m, hm⟩ := h0; exact DataW.trod_lt m _ _ _ hm
  have k0 := h0
  obtain ⟨cs0, rfl, hsz0⟩ := okWide_struct Tryd.underlying58 (hval 0 58 v0 rfl rfl)
  obtain ⟨c0_0, c0_1, c0_2, c0_3, c0_4, rfl⟩ := arr5 (hsz0.trans (show Tryd.prog.cellsOf 58 = 5 from by kernel_rfl))
  obtain ⟨fuel0, hf0⟩ := h0
  obtain ⟨_, n0', hd0⟩ := trod_fields Tryd.underlying58 (by kernel_rfl) (by kernel_rfl) hf0
  obtain ⟨_, hy0_0⟩ := hd0 0 _ c0_0 rfl rfl
  obtain ⟨A0_0, n0_0, l0_0, hcs0_0, hl0_0, hm0_0, hz0_0, ha0_0, ho0_0⟩ := open_arr (enc := encB) _ encB_len (by decide) Tryd.underlying43 (by kernel_rfl) (fun n cs y h => dec_bool h) hy0_0
  obtain rfl : c0_0 = .slice A0_0 l0_0.length n0_0 := by simpa using hcs0_0
  obtain ⟨_, hy0_1⟩ := hd0 1 _ c0_1 rfl rfl
  obtain ⟨A0_1, n0_1, l0_1, hcs0_1, hl0_1, hm0_1, hz0_1, ha0_1, ho0_1⟩ := open_arr (enc := encB) _ encB_len (by decide) Tryd.underlying43 (by kernel_rfl) (fun n cs y h => dec_bool h) hy0_1
  obtain rfl : c0_1 = .slice A0_1 l0_1.length n0_1 := by simpa using hcs0_1
  obtain ⟨_, hy0_2⟩ := hd0 2 _ c0_2 rfl rfl
  obtain ⟨x0_2, e0_2, _, w0_2⟩ := DataW.trod_int Tryd.underlying3 hy0_2
  obtain rfl : c0_2 = .int .i64 x0_2 := by simpa using e0_2
  obtain ⟨_, hy0_3⟩ := hd0 3 _ c0_3 rfl rfl
  obtain ⟨x0_3, e0_3, _, w0_3⟩ := DataW.trod_int Tryd.underlying45 hy0_3
  obtain rfl : c0_3 = .int .u64 x0_3 := by simpa using e0_3
  obtain ⟨_, hy0_4⟩ := hd0 4 _ c0_4 rfl rfl
  obtain ⟨x0_4, e0_4, _, w0_4⟩ := DataW.trod_int Tryd.underlying45 hy0_4
  obtain rfl : c0_4 = .int .u64 x0_4 := by simpa using e0_4
  clear hA0 hval0
  have ht := tab3 hL
  refine (walk A0_0 n0_0 l0_0 A0_1 n0_1 l0_1 x0_2 x0_3 x0_4 W ht ha0_0 hl0_0 hm0_0 hz0_0 ho0_0 ha0_1 hl0_1 hm0_1 hz0_1 ho0_1 w0_2 w0_3 w0_4).mono fun e W' ⟨he, bel⟩ => ?_
  subst he
  exact ⟨_, rfl, _, _, _, [], _, [], hW', trodAll_mk1 (shut_bool Tryd.underlying4 _), (trodAll_cons_mk (Below.trod laidOut (by kernel_rfl) (of_decide_eq_true (by kernel_rfl)) k0 bel lt0) trodAll_mk0), rfl, bel.frame _, fun h => by cases h⟩

theorem over : Rows.distilCollidesRow.holds Tryd.pinned (OpenSpec.ofChange Rows.distilCollidesSpec) :=
  OpenClaim.holds_of_wide 9 Tryd.f9 rfl rfl rfl rfl rfl rfl rfl ⟨rfl, rfl, rfl, rfl, rfl⟩ rfl rfl rfl rfl rfl (by kernel_rfl) Tryd.func9 (by kernel_rfl)
    (of_decide_eq_true (by kernel_rfl)) (by unfold Func.isWrapper; first | (rw [if_pos (by decide +kernel)]; kernel_rfl) | (rw [if_neg (by decide +kernel)]; exact ⟨rfl, rfl⟩))
    (fun os started H enc _ => lifted os started H enc)

theorem proved : Rows.DistilCollidesCardSaid :=
  Claim7.holds_tied_plain_at .later [] [.data, .data, .data] true _ true over (fun _ h => by cases h) (by kernel_rfl) (fun _ h => by cases h) distilCollides_row_tie rfl ⟨rfl, rfl⟩ (by kernel_rfl) rfl
    (fun f fn hf hfn => by
      obtain rfl : f = 9 := Option.some.inj ((show Tryd.prog.funcNamed "waveplate/waveplatelaw06.DistilCollides" = some 9 by kernel_rfl).symm.trans hf) |>.symm
      obtain rfl : fn = Tryd.f9 := (Option.some.inj (Tryd.func9.symm.trans hfn)).symm
      exact ⟨by kernel_rfl, fun j t ht => by
        rw [Tryd.params9] at ht
        have hm : t ∈ [58] := by simpa using Array.mem_of_getElem? ht
        have hall : ([58].all fun u => !Tryd.prog.wantsStandIn u) = true := by kernel_rfl
        exact (show Tryd.prog.wantsStandIn t = false by simpa using List.all_eq_true.1 hall t hm)⟩)
    (by kernel_rfl)
#print axioms proved
end Go.Proofs.YtliekcfcdfakjaaDoor.distilCollides
