/- The statement DistilTags: for any two messages, tags, width, key and pad the law returns true and its argument reads as it did. No condition but what the card ties: the listed tables are as the program's text lays them. -/
import Derived.Test.YtliekcfcdfakjaaDoorDoorD
import Derived.Test.YtliekcfcdfakjaaDoorKnownD
import Derived.Test.YtliekcfcdfakjaaDoorColP
import Derived.Test.YtliekcfcdfakjaaDoorFrgC
import Derived.Test.YtliekcfcdfakjaaDoorTie
import Derived.Test.YtliekcfcdfakjaaDoorCards
import Derived.SevenTiedAt
namespace Go.Proofs.YtliekcfcdfakjaaDoor.distilTags
open Go.ChangeShapes Go.WideShapes Go.ChangeAt Go.RowKit Go.Deep Go.Joins
set_option linter.unusedVariables false
set_option linter.unusedSimpArgs false

def Bx7 (v wx : World) (c0 c1 c2 c3 c4 c5 c6 : Value) : Prop := Below v.heap.size v wx ∧ wx.cell? ⟨v.heap.size, 0, none⟩ = some c0 ∧ wx.cell? ⟨v.heap.size, 1, none⟩ = some c1 ∧ wx.cell? ⟨v.heap.size, 2, none⟩ = some c2 ∧ wx.cell? ⟨v.heap.size, 3, none⟩ = some c3 ∧ wx.cell? ⟨v.heap.size, 4, none⟩ = some c4 ∧ wx.cell? ⟨v.heap.size, 5, none⟩ = some c5 ∧ wx.cell? ⟨v.heap.size, 6, none⟩ = some c6
theorem Bx7.on {v wx wy : World} {c0 c1 c2 c3 c4 c5 c6 : Value} (h : Bx7 v wx c0 c1 c2 c3 c4 c5 c6) (hb : Below wx.heap.size wx wy) : Bx7 v wy c0 c1 c2 c3 c4 c5 c6 := by
  obtain ⟨h, h0, h1, h2, h3, h4, h5, h6⟩ := h
  exact ⟨below_trans h hb, bel_cell hb h0, bel_cell hb h1, bel_cell hb h2, bel_cell hb h3, bel_cell hb h4, bel_cell hb h5, bel_cell hb h6⟩
theorem Bx7.new (v : World) (c0 c1 c2 c3 c4 c5 c6 : Value) (T : TypeId) : Bx7 v (v.alloc (.cells #[c0, c1, c2, c3, c4, c5, c6] T)) c0 c1 c2 c3 c4 c5 c6 :=
  ⟨below_alloc (Below.refl _ _) _, new_cell rfl, new_cell rfl, new_cell rfl, new_cell rfl, new_cell rfl, new_cell rfl, new_cell rfl⟩

theorem early {a b : List Bool} (h : ¬ (512 < a.length ∨ 512 < b.length) ∧ (150 < a.length ∨ 150 < b.length) ∨ 600 < a.length ∨ 600 < b.length) :
    (decide (512 < (a.length : Int)) = true ∧ decide (600 < (a.length : Int)) = true) ∨ (decide (512 < (a.length : Int)) = true ∧ decide (600 < (a.length : Int)) = false ∧ decide (600 < (b.length : Int)) = true) ∨
    (decide (512 < (a.length : Int)) = false ∧ decide (512 < (b.length : Int)) = true ∧ decide (600 < (a.length : Int)) = false ∧ decide (600 < (b.length : Int)) = true) ∨
    (decide (512 < (a.length : Int)) = false ∧ decide (512 < (b.length : Int)) = false ∧ decide (150 < (a.length : Int)) = true) ∨ (decide (512 < (a.length : Int)) = false ∧ decide (512 < (b.length : Int)) = false ∧ decide (150 < (a.length : Int)) = false ∧ decide (150 < (b.length : Int)) = true) := by
  simp only [decide_eq_true_eq, decide_eq_false_iff_not]; omega
theorem long {a b : List Bool} (h : ¬ (¬ (512 < a.length ∨ 512 < b.length) ∧ (150 < a.length ∨ 150 < b.length) ∨ 600 < a.length ∨ 600 < b.length)) (hl : 512 < a.length ∨ 512 < b.length) :
    (decide (512 < (a.length : Int)) = true ∧ decide (600 < (a.length : Int)) = false ∧ decide (600 < (b.length : Int)) = false) ∨ (decide (512 < (a.length : Int)) = false ∧ decide (512 < (b.length : Int)) = true ∧ decide (600 < (a.length : Int)) = false ∧ decide (600 < (b.length : Int)) = false) := by
  simp only [decide_eq_true_eq, decide_eq_false_iff_not]; omega
theorem fr_long (w : Int) (t f : Nat) {a b : List Bool} (h : 512 < a.length ∨ 512 < b.length) : (frE w t f a b != 0) = true := by
  unfold frE; split
  · split
    · rw [(ky_long 0 h 0).1]; rfl
    · rfl
  · rfl

set_option maxRecDepth 100000 in
set_option maxHeartbeats 4000000 in
theorem go_early (A : Option Addr) (cA : Nat) (a : List Bool) (B : Option Addr) (cB : Nat) (b : List Bool) (tag fg : Nat) (w : Int) (key pad : Nat) (v : World) (ht : Tab v)
    (h : ¬ (512 < a.length ∨ 512 < b.length) ∧ (150 < a.length ∨ 150 < b.length) ∨ 600 < a.length ∨ 600 < b.length) :
    Calls Tryd.prog 10 #[.agg #[.slice A a.length cA, .slice B b.length cB, .int .u64 tag, .int .u64 fg, .int .i64 w, .int .u64 key, .int .u64 pad]] v fun e w' => e = .returned (.bool true) ∧ Below v.heap.size v w' := by
  have htl := ht.lt
  have q0 : Below v.heap.size v (v.alloc (.cells #[.slice A a.length cA, .slice B b.length cB, .int .u64 tag, .int .u64 fg, .int .i64 w, .int .u64 key, .int .u64 pad] 75)) := below_alloc (Below.refl _ _) _
  have cK := fun w' (hb : Below v.heap.size v w') => known_any w' (ht.on hb htl)
  rcases early h with ⟨h1, h2⟩ | ⟨h1, h2, h3⟩ | ⟨h1, h2, h3, h4⟩ | ⟨h1, h2, h3⟩ | ⟨h1, h2, h3, h4⟩
  all_goals (
    clear h
    go_enter Tryd.func10, Tryd.ntmps10
    go_wp2_with (go_at_call 14; refine (cK _ q0).mono ?_; rintro e w5 ⟨rfl, hb5⟩)
    go_ret
    exact ⟨rfl, below_trans q0 hb5⟩)

set_option maxRecDepth 100000 in
set_option maxHeartbeats 4000000 in
theorem go_long (A : Option Addr) (cA : Nat) (a : List Bool) (B : Option Addr) (cB : Nat) (b : List Bool) (tag fg : Nat) (w : Int) (key pad : Nat) (v : World) (ht : Tab v) (hA : Arr 1 encB v v.heap.size A a) (hB : Arr 1 encB v v.heap.size B b)
    (la : a.length ≤ cA) (ma : cA ≤ maxLen) (na : A = none → cA = 0) (lb : b.length ≤ cB) (mb : cB ≤ maxLen) (nb : B = none → cB = 0)
    (h : ¬ (¬ (512 < a.length ∨ 512 < b.length) ∧ (150 < a.length ∨ 150 < b.length) ∨ 600 < a.length ∨ 600 < b.length)) (hl : 512 < a.length ∨ 512 < b.length) :
    Calls Tryd.prog 10 #[.agg #[.slice A a.length cA, .slice B b.length cB, .int .u64 tag, .int .u64 fg, .int .i64 w, .int .u64 key, .int .u64 pad]] v fun e w' => e = .returned (.bool true) ∧ Below v.heap.size v w' := by
  have htl := ht.lt
  have q0 := Bx7.new v (.slice A a.length cA) (.slice B b.length cB) (.int .u64 tag) (.int .u64 fg) (.int .i64 w) (.int .u64 key) (.int .u64 pad) 75
  have cK := fun w' (hb : Below v.heap.size v w') => known_any w' (ht.on hb htl)
  have cT := fun w' (hb : Below v.heap.size v w') => Tag_any w key pad A cA a w' (hA.on hb) la ma
  have cU := fun w' (hb : Below v.heap.size v w') => rTag_any w key pad A cA a w' (hA.on hb) (by omega) na
  generalize tgE w key pad a = TE at *
  generalize tgN w key pad a = TN at *
  have cF := fun w' (hb : Below v.heap.size v w') => Forgeries_any w tag fg A cA a B cB b w' (hA.on hb) la ma (hB.on hb) lb mb
  have cR := fun w' (hb : Below v.heap.size v w') => rForgeries_any w tag fg A cA a B cB b w' (hA.on hb) na (hB.on hb) nb
  have hE := fr_long w tag fg hl
  generalize frE w tag fg a b = E at *
  generalize frN w tag fg a b = N at *
  have hw : ∃ wb : Bool, (w == 16) = wb := ⟨_, rfl⟩
  obtain ⟨wb, hwb⟩ := hw
  rcases long h hl with ⟨h1, h2, h3⟩ | ⟨h1, h2, h3, h4⟩
  all_goals (
    clear h hl
    cases wb
    all_goals (
      go_enter Tryd.func10, Tryd.ntmps10
      go_wp2_with (first
        | (go_at_call 50; refine (cT _ q0.1).mono ?_; rintro e w1 ⟨rfl, hb1⟩; have q1 := q0.on hb1; obtain ⟨_, t0, t1, t2, t3, t4, t5, t6⟩ := q0.on hb1)
        | (go_at_call 51; refine (cU _ q1.1).mono ?_; rintro e w2 ⟨rfl, hb2⟩; have q2 := q1.on hb2; obtain ⟨_, s0, s1, s2, s3, s4, s5, s6⟩ := q1.on hb2)
        | (go_at_call 52; refine (cF _ q2.1).mono ?_; rintro e w3 ⟨rfl, hb3⟩; have q3 := q2.on hb3; obtain ⟨_, r0, r1, r2, r3, r4, r5, r6⟩ := q2.on hb3)
        | (go_at_call 53; refine (cR _ q3.1).mono ?_; rintro e w4 ⟨rfl, hb4⟩; have q4 := q3.on hb4; obtain ⟨_, p0, p1, p2, p3, p4, p5, p6⟩ := q3.on hb4)
        | (go_at_call 14; refine (cK _ q4.1).mono ?_; rintro e w9 ⟨rfl, hb9⟩))
      go_ret
      exact ⟨rfl, below_trans q4.1 hb9⟩))

theorem pack (n : Nat) (L : Int) (hL : L = (n : Int)) (hn : W2 n) (tag fg : Nat) (A : Option Addr) (cA : Nat) (a : List Bool) (B : Option Addr) (cB : Nat) (b : List Bool) (v : World) (hA : Arr 1 encB v v.heap.size A a) (hB : Arr 1 encB v v.heap.size B b)
    (la : a.length ≤ cA) (ma : cA ≤ maxLen) (na : A = none → cA = 0) (lb : b.length ≤ cB) (mb : cB ≤ maxLen) (nb : B = none → cB = 0) (ha : a.length ≤ 150) (hb : b.length ≤ 150) :
    ∃ (N : Nat) (E : Int),
      (∀ w', Below v.heap.size v w' → Calls Tryd.prog 52 #[.int .i64 L, .slice A a.length cA, .int .u64 tag, .slice B b.length cB, .int .u64 fg] w' fun e w1 => e = .returned (.tuple #[.int .i64 N, .int .i64 E]) ∧ Below w'.heap.size w' w1) ∧
      (∀ w', Below v.heap.size v w' → Calls Tryd.prog 53 #[.int .i64 L, .slice A a.length cA, .int .u64 tag, .slice B b.length cB, .int .u64 fg] w' fun e w1 => e = .returned (.tuple #[.int .i64 N, .int .i64 E]) ∧ Below w'.heap.size w' w1) ∧
      ((E != 0) = true ∨ (E = 0 ∧ (a = b ∧ tag = fg → N = 2 ^ n) ∧ (¬ (a = b ∧ tag = fg) → N ≤ max a.length b.length / n + 2) ∧ N ≤ 65536)) := by
  subst hL
  have hB2 : w2B (n : Int) = true := by rcases hn with rfl | rfl <;> decide
  refine ⟨frN n tag fg a b, frE n tag fg a b, fun w' h => Forgeries_any n tag fg A cA a B cB b w' (hA.on h) la ma (hB.on h) lb mb, fun w' h => rForgeries_any n tag fg A cA a B cB b w' (hA.on h) na (hB.on h) nb, ?_⟩
  by_cases hf : tag < 2 ^ n ∧ fg < 2 ^ n
  · right
    obtain ⟨e1, e2⟩ := fr_yes hB2 hf a b
    obtain ⟨f1, f2⟩ := ky_ok n (a := a) (b := b) (by omega) (by omega) (tag ^^^ fg)
    rw [e1, e2, f1, f2]
    refine ⟨rfl, ?_, ?_, ?_⟩
    · rintro ⟨rfl, rfl⟩; rw [Nat.xor_self]; exact keyN_all a
    · intro h
      refine keyN_le hn a b _ (Nat.xor_lt_two_pow hf.1 hf.2) ?_
      by_cases hab : a = b
      · right
        intro h0
        refine h ⟨hab, ?_⟩
        have := congrArg (fun z => z ^^^ fg) h0
        simpa [Nat.xor_assoc] using this
      · exact .inl hab
    · have := cntTo_le (keyP n a b (tag ^^^ fg)) (2 ^ n)
      have h2 : 2 ^ n ≤ 65536 := Nat.pow_le_pow_right (by decide : 0 < 2) (show n ≤ 16 by rcases hn with h | h <;> omega)
      exact Nat.le_trans this h2
  · left
    rw [(fr_big hB2 hf a b).1]; rfl

set_option maxRecDepth 100000 in
set_option maxHeartbeats 8000000 in
theorem go_main (A : Option Addr) (cA : Nat) (a : List Bool) (B : Option Addr) (cB : Nat) (b : List Bool) (tag fg : Nat) (w : Int) (key pad : Nat) (v : World) (ht : Tab v) (hA : Arr 1 encB v v.heap.size A a) (hB : Arr 1 encB v v.heap.size B b)
    (la : a.length ≤ cA) (ma : cA ≤ maxLen) (na : A = none → cA = 0) (lb : b.length ≤ cB) (mb : cB ≤ maxLen) (nb : B = none → cB = 0) (ha : a.length ≤ 150) (hb : b.length ≤ 150) :
    Calls Tryd.prog 10 #[.agg #[.slice A a.length cA, .slice B b.length cB, .int .u64 tag, .int .u64 fg, .int .i64 w, .int .u64 key, .int .u64 pad]] v fun e w' => e = .returned (.bool true) ∧ Below v.heap.size v w' := by
  have htl := ht.lt
  have q0 := Bx7.new v (.slice A a.length cA) (.slice B b.length cB) (.int .u64 tag) (.int .u64 fg) (.int .i64 w) (.int .u64 key) (.int .u64 pad) 75
  have cK := fun w' (hb : Below v.heap.size v w') => known_any w' (ht.on hb htl)
  have cT := fun w' (hb : Below v.heap.size v w') => Tag_any w key pad A cA a w' (hA.on hb) la ma
  have cU := fun w' (hb : Below v.heap.size v w') => rTag_any w key pad A cA a w' (hA.on hb) (by omega) na
  generalize tgE w key pad a = TE at *
  generalize tgN w key pad a = TN at *
  have d1 : decide (512 < (a.length : Int)) = false := by simp; omega
  have d2 : decide (512 < (b.length : Int)) = false := by simp; omega
  have d3 : decide (150 < (a.length : Int)) = false := by simp; omega
  have d4 : decide (150 < (b.length : Int)) = false := by simp; omega
  have d5 : decide (600 < (a.length : Int)) = false := by simp; omega
  have d6 : decide (600 < (b.length : Int)) = false := by simp; omega
  rcases w2_cases w with ⟨n, rfl, hn, hB2⟩ | ⟨hB2, h8, h16⟩
  · obtain ⟨sb, hsb⟩ : ∃ sb : Bool, decide (20 < (a.length : Int) + (b.length : Int)) = sb := ⟨_, rfl⟩
    have cS := fun w' (h : Below v.heap.size v w') => Same_any A B cA cB a b w' (hA.on h) (hB.on h) (by omega) (by omega)
    obtain ⟨i0, hi, hz0, hz1, hz2⟩ := info_parts bool_info
    have Hi := Lib.hid hi; have Hz0 := Lib.hid hz0; have Hz1 := Lib.hid hz1; have Hz2 := Lib.hid hz2
    clear hi hz0 hz1 hz2
    have hways : (n = 8 ∨ n = 16 ∧ sb = true) ∨ (n = 16 ∧ sb = false) := by rcases hn with h | h <;> cases sb <;> simp [h]
    clear hB2 hn
    have p8 := pack 8 8 rfl (.inl rfl) tag fg A cA a B cB b v hA hB la ma na lb mb nb ha hb
    have p16 := pack 16 16 rfl (.inr rfl) tag fg A cA a B cB b v hA hB la ma na lb mb nb ha hb
    rcases hways with (rfl | ⟨rfl, rfl⟩) | ⟨rfl, rfl⟩
    · obtain ⟨N, E, cF, cR, hE⟩ := p8
      clear p16 hsb
      rcases hE with hE | ⟨rfl, hS, hW, hN⟩
      · go_enter Tryd.func10, Tryd.ntmps10
        go_wp2_with (first
        | (go_at_call 50; refine (cT _ q0.1).mono ?_; rintro e w1 ⟨rfl, hb1⟩; have q1 := q0.on hb1; obtain ⟨_, t0, t1, t2, t3, t4, t5, t6⟩ := q0.on hb1)
        | (go_at_call 51; refine (cU _ q1.1).mono ?_; rintro e w2 ⟨rfl, hb2⟩; have q2 := q1.on hb2; obtain ⟨_, s0, s1, s2, s3, s4, s5, s6⟩ := q1.on hb2)
        | (go_at_call 52; refine (cF _ q2.1).mono ?_; rintro e w3 ⟨rfl, hb3⟩; have q3 := q2.on hb3; obtain ⟨_, r0, r1, r2, r3, r4, r5, r6⟩ := q2.on hb3)
        | (go_at_call 53; refine (cR _ q3.1).mono ?_; rintro e w4 ⟨rfl, hb4⟩; have q4 := q3.on hb4; obtain ⟨_, p0, p1, p2, p3, p4, p5, p6⟩ := q3.on hb4)
          | (go_at_call 14; refine (cK _ q4.1).mono ?_; rintro e w9 ⟨rfl, hb9⟩))
        go_ret
        exact ⟨rfl, below_trans q4.1 hb9⟩
      · have ways : (decide (a = b) = true ∧ ((tag : Int) == (fg : Int)) = true ∧ ((N : Int) == 256) = true) ∨ ((decide (a = b) = false ∨ (decide (a = b) = true ∧ ((tag : Int) == (fg : Int)) = false)) ∧ N ≤ max a.length b.length / 8 + 2) := by
          by_cases hab : a = b
          · by_cases htf : tag = fg
            · have hn2 := hS ⟨hab, htf⟩
              left; exact ⟨decide_eq_true hab, by simp; omega, by simp; omega⟩
            · right; exact ⟨.inr ⟨decide_eq_true hab, by simp; omega⟩, hW (fun h => htf h.2)⟩
          · right; exact ⟨.inl (decide_eq_false hab), hW (fun h => hab h.1)⟩
        clear hS hW
        rcases ways with ⟨dab, tf, tN⟩ | ⟨ways, hNle⟩
        · go_enter Tryd.func10, Tryd.ntmps10
          go_wp2_with (first
        | (go_at_call 50; refine (cT _ q0.1).mono ?_; rintro e w1 ⟨rfl, hb1⟩; have q1 := q0.on hb1; obtain ⟨_, t0, t1, t2, t3, t4, t5, t6⟩ := q0.on hb1)
        | (go_at_call 51; refine (cU _ q1.1).mono ?_; rintro e w2 ⟨rfl, hb2⟩; have q2 := q1.on hb2; obtain ⟨_, s0, s1, s2, s3, s4, s5, s6⟩ := q1.on hb2)
        | (go_at_call 52; refine (cF _ q2.1).mono ?_; rintro e w3 ⟨rfl, hb3⟩; have q3 := q2.on hb3; obtain ⟨_, r0, r1, r2, r3, r4, r5, r6⟩ := q2.on hb3)
        | (go_at_call 53; refine (cR _ q3.1).mono ?_; rintro e w4 ⟨rfl, hb4⟩; have q4 := q3.on hb4; obtain ⟨_, p0, p1, p2, p3, p4, p5, p6⟩ := q3.on hb4)
            | (go_at_call 44; refine (cS _ q4.1).mono ?_; rintro e w6 ⟨rfl, hb6⟩; rw [dab]; have q6 := q4.on hb6; obtain ⟨_, n0, n1, n2, n3, n4, n5, n6⟩ := q4.on hb6)
            | (go_at_call 14; refine (cK _ q6.1).mono ?_; rintro e w9 ⟨rfl, hb9⟩))
          go_ret
          exact ⟨rfl, below_trans q6.1 hb9⟩
        · obtain ⟨M, hM⟩ : ∃ M : Nat, max a.length b.length = M := ⟨_, rfl⟩
          have hM150 : M ≤ 150 := by omega
          have hws := wordsL_length (w := 8) (by decide) (List.replicate M false)
          rw [hM] at hNle
          rw [List.length_replicate] at hws
          have cW : ∀ (w' : World) (A' : Option Addr) (c' : Nat), Arr 1 encB w' w'.heap.size A' (List.replicate M false) → (A' = none → c' = 0) → Calls Tryd.prog 49 #[.int .i64 8, .slice A' M c'] w' fun e v' => ∃ x, e = .returned x ∧ Own v' w'.heap.size 45 1 enc64 x (wordsL 8 (List.replicate M false)) ∧ Below w'.heap.size w' v' := fun w' A' c' h hn => by
            have := Words_any 8 A' c' (List.replicate M false) w' (.inl rfl) h (by rw [List.length_replicate]; omega) hn
            rw [List.length_replicate] at this; exact this
          rw [← hws] at hNle
          generalize wordsL 8 (List.replicate M false) = ws at *
          have HM := Lib.hid hM
          have Hws := Lib.hid hws
          clear hM hws
          rcases ways with dab | ⟨dab, tf⟩
          all_goals (
            go_enter Tryd.func10, Tryd.ntmps10
            go_wp2_with (first
        | (go_at_call 50; refine (cT _ q0.1).mono ?_; rintro e w1 ⟨rfl, hb1⟩; have q1 := q0.on hb1; obtain ⟨_, t0, t1, t2, t3, t4, t5, t6⟩ := q0.on hb1)
        | (go_at_call 51; refine (cU _ q1.1).mono ?_; rintro e w2 ⟨rfl, hb2⟩; have q2 := q1.on hb2; obtain ⟨_, s0, s1, s2, s3, s4, s5, s6⟩ := q1.on hb2)
        | (go_at_call 52; refine (cF _ q2.1).mono ?_; rintro e w3 ⟨rfl, hb3⟩; have q3 := q2.on hb3; obtain ⟨_, r0, r1, r2, r3, r4, r5, r6⟩ := q2.on hb3)
        | (go_at_call 53; refine (cR _ q3.1).mono ?_; rintro e w4 ⟨rfl, hb4⟩; have q4 := q3.on hb4; obtain ⟨_, p0, p1, p2, p3, p4, p5, p6⟩ := q3.on hb4)
              | (go_at_call 44; refine (cS _ q4.1).mono ?_; rintro e w6 ⟨rfl, hb6⟩; rw [dab]; have q6 := q4.on hb6; obtain ⟨_, n0, n1, n2, n3, n4, n5, n6⟩ := q4.on hb6)
              | (at_make; refine wpList_mk rfl _ _ 43 rfl 4 i0 _ 1 Tryd.underlying43 Hi.out Hz0.out Hz1.out Hz2.out rfl (fun b : Bool => Value.bool b) false rfl _ _ _ _ M rfl rfl (by have := HM.out; omega) (by have := HM.out; omega) (by omega) (by unfold maxLen; omega) ?_; intro w7 own7 hb7; have q7 := q6.on hb7; obtain ⟨A7, c7, e7, _, _, n7, ar7⟩ := own7.form (enc := encB) encB_len; simp only [Value.slice.injEq] at e7; obtain ⟨e7a, e7b, e7c⟩ := e7; clear e7b; subst e7a e7c)
              | (go_at_call 49; ((with_reducible refine (cW _ _ _ ar7 n7).mono ?_)); rintro e w8 ⟨x8, rfl, own8, hb8⟩; have q8 := q7.on hb8; obtain ⟨A8, c8, e8, _, _, _, _⟩ := own8.form enc64_len; subst e8)
              | (go_at_call 14; refine (cK _ q8.1).mono ?_; rintro e w9 ⟨rfl, hb9⟩))
            go_ret
            exact ⟨rfl, below_trans q8.1 hb9⟩)
    · obtain ⟨N, E, cF, cR, hE⟩ := p8
      clear p16
      rcases hE with hE | ⟨rfl, hS, hW, hN⟩
      · go_enter Tryd.func10, Tryd.ntmps10
        go_wp2_with (first
        | (go_at_call 50; refine (cT _ q0.1).mono ?_; rintro e w1 ⟨rfl, hb1⟩; have q1 := q0.on hb1; obtain ⟨_, t0, t1, t2, t3, t4, t5, t6⟩ := q0.on hb1)
        | (go_at_call 51; refine (cU _ q1.1).mono ?_; rintro e w2 ⟨rfl, hb2⟩; have q2 := q1.on hb2; obtain ⟨_, s0, s1, s2, s3, s4, s5, s6⟩ := q1.on hb2)
        | (go_at_call 52; refine (cF _ q2.1).mono ?_; rintro e w3 ⟨rfl, hb3⟩; have q3 := q2.on hb3; obtain ⟨_, r0, r1, r2, r3, r4, r5, r6⟩ := q2.on hb3)
        | (go_at_call 53; refine (cR _ q3.1).mono ?_; rintro e w4 ⟨rfl, hb4⟩; have q4 := q3.on hb4; obtain ⟨_, p0, p1, p2, p3, p4, p5, p6⟩ := q3.on hb4)
          | (go_at_call 14; refine (cK _ q4.1).mono ?_; rintro e w9 ⟨rfl, hb9⟩))
        go_ret
        exact ⟨rfl, below_trans q4.1 hb9⟩
      · have ways : (decide (a = b) = true ∧ ((tag : Int) == (fg : Int)) = true ∧ ((N : Int) == 256) = true) ∨ ((decide (a = b) = false ∨ (decide (a = b) = true ∧ ((tag : Int) == (fg : Int)) = false)) ∧ N ≤ max a.length b.length / 8 + 2) := by
          by_cases hab : a = b
          · by_cases htf : tag = fg
            · have hn2 := hS ⟨hab, htf⟩
              left; exact ⟨decide_eq_true hab, by simp; omega, by simp; omega⟩
            · right; exact ⟨.inr ⟨decide_eq_true hab, by simp; omega⟩, hW (fun h => htf h.2)⟩
          · right; exact ⟨.inl (decide_eq_false hab), hW (fun h => hab h.1)⟩
        clear hS hW
        rcases ways with ⟨dab, tf, tN⟩ | ⟨ways, hNle⟩
        · go_enter Tryd.func10, Tryd.ntmps10
          go_wp2_with (first
        | (go_at_call 50; refine (cT _ q0.1).mono ?_; rintro e w1 ⟨rfl, hb1⟩; have q1 := q0.on hb1; obtain ⟨_, t0, t1, t2, t3, t4, t5, t6⟩ := q0.on hb1)
        | (go_at_call 51; refine (cU _ q1.1).mono ?_; rintro e w2 ⟨rfl, hb2⟩; have q2 := q1.on hb2; obtain ⟨_, s0, s1, s2, s3, s4, s5, s6⟩ := q1.on hb2)
        | (go_at_call 52; refine (cF _ q2.1).mono ?_; rintro e w3 ⟨rfl, hb3⟩; have q3 := q2.on hb3; obtain ⟨_, r0, r1, r2, r3, r4, r5, r6⟩ := q2.on hb3)
        | (go_at_call 53; refine (cR _ q3.1).mono ?_; rintro e w4 ⟨rfl, hb4⟩; have q4 := q3.on hb4; obtain ⟨_, p0, p1, p2, p3, p4, p5, p6⟩ := q3.on hb4)
            | (go_at_call 44; refine (cS _ q4.1).mono ?_; rintro e w6 ⟨rfl, hb6⟩; rw [dab]; have q6 := q4.on hb6; obtain ⟨_, n0, n1, n2, n3, n4, n5, n6⟩ := q4.on hb6)
            | (go_at_call 14; refine (cK _ q6.1).mono ?_; rintro e w9 ⟨rfl, hb9⟩))
          go_ret
          exact ⟨rfl, below_trans q6.1 hb9⟩
        · obtain ⟨M, hM⟩ : ∃ M : Nat, max a.length b.length = M := ⟨_, rfl⟩
          have hM150 : M ≤ 150 := by omega
          have hws := wordsL_length (w := 8) (by decide) (List.replicate M false)
          rw [hM] at hNle
          rw [List.length_replicate] at hws
          have cW : ∀ (w' : World) (A' : Option Addr) (c' : Nat), Arr 1 encB w' w'.heap.size A' (List.replicate M false) → (A' = none → c' = 0) → Calls Tryd.prog 49 #[.int .i64 8, .slice A' M c'] w' fun e v' => ∃ x, e = .returned x ∧ Own v' w'.heap.size 45 1 enc64 x (wordsL 8 (List.replicate M false)) ∧ Below w'.heap.size w' v' := fun w' A' c' h hn => by
            have := Words_any 8 A' c' (List.replicate M false) w' (.inl rfl) h (by rw [List.length_replicate]; omega) hn
            rw [List.length_replicate] at this; exact this
          rw [← hws] at hNle
          generalize wordsL 8 (List.replicate M false) = ws at *
          have HM := Lib.hid hM
          have Hws := Lib.hid hws
          clear hM hws
          rcases ways with dab | ⟨dab, tf⟩
          all_goals (
            go_enter Tryd.func10, Tryd.ntmps10
            go_wp2_with (first
        | (go_at_call 50; refine (cT _ q0.1).mono ?_; rintro e w1 ⟨rfl, hb1⟩; have q1 := q0.on hb1; obtain ⟨_, t0, t1, t2, t3, t4, t5, t6⟩ := q0.on hb1)
        | (go_at_call 51; refine (cU _ q1.1).mono ?_; rintro e w2 ⟨rfl, hb2⟩; have q2 := q1.on hb2; obtain ⟨_, s0, s1, s2, s3, s4, s5, s6⟩ := q1.on hb2)
        | (go_at_call 52; refine (cF _ q2.1).mono ?_; rintro e w3 ⟨rfl, hb3⟩; have q3 := q2.on hb3; obtain ⟨_, r0, r1, r2, r3, r4, r5, r6⟩ := q2.on hb3)
        | (go_at_call 53; refine (cR _ q3.1).mono ?_; rintro e w4 ⟨rfl, hb4⟩; have q4 := q3.on hb4; obtain ⟨_, p0, p1, p2, p3, p4, p5, p6⟩ := q3.on hb4)
              | (go_at_call 44; refine (cS _ q4.1).mono ?_; rintro e w6 ⟨rfl, hb6⟩; rw [dab]; have q6 := q4.on hb6; obtain ⟨_, n0, n1, n2, n3, n4, n5, n6⟩ := q4.on hb6)
              | (at_make; refine wpList_mk rfl _ _ 43 rfl 4 i0 _ 1 Tryd.underlying43 Hi.out Hz0.out Hz1.out Hz2.out rfl (fun b : Bool => Value.bool b) false rfl _ _ _ _ M rfl rfl (by have := HM.out; omega) (by have := HM.out; omega) (by omega) (by unfold maxLen; omega) ?_; intro w7 own7 hb7; have q7 := q6.on hb7; obtain ⟨A7, c7, e7, _, _, n7, ar7⟩ := own7.form (enc := encB) encB_len; simp only [Value.slice.injEq] at e7; obtain ⟨e7a, e7b, e7c⟩ := e7; clear e7b; subst e7a e7c)
              | (go_at_call 49; ((with_reducible refine (cW _ _ _ ar7 n7).mono ?_)); rintro e w8 ⟨x8, rfl, own8, hb8⟩; have q8 := q7.on hb8; obtain ⟨A8, c8, e8, _, _, _, _⟩ := own8.form enc64_len; subst e8)
              | (go_at_call 14; refine (cK _ q8.1).mono ?_; rintro e w9 ⟨rfl, hb9⟩))
            go_ret
            exact ⟨rfl, below_trans q8.1 hb9⟩)
    · obtain ⟨N, E, cF, cR, hE⟩ := p16
      clear p8
      rcases hE with hE | ⟨rfl, hS, hW, hN⟩
      · go_enter Tryd.func10, Tryd.ntmps10
        go_wp2_with (first
        | (go_at_call 50; refine (cT _ q0.1).mono ?_; rintro e w1 ⟨rfl, hb1⟩; have q1 := q0.on hb1; obtain ⟨_, t0, t1, t2, t3, t4, t5, t6⟩ := q0.on hb1)
        | (go_at_call 51; refine (cU _ q1.1).mono ?_; rintro e w2 ⟨rfl, hb2⟩; have q2 := q1.on hb2; obtain ⟨_, s0, s1, s2, s3, s4, s5, s6⟩ := q1.on hb2)
        | (go_at_call 52; refine (cF _ q2.1).mono ?_; rintro e w3 ⟨rfl, hb3⟩; have q3 := q2.on hb3; obtain ⟨_, r0, r1, r2, r3, r4, r5, r6⟩ := q2.on hb3)
        | (go_at_call 53; refine (cR _ q3.1).mono ?_; rintro e w4 ⟨rfl, hb4⟩; have q4 := q3.on hb4; obtain ⟨_, p0, p1, p2, p3, p4, p5, p6⟩ := q3.on hb4)
          | (go_at_call 14; refine (cK _ q4.1).mono ?_; rintro e w9 ⟨rfl, hb9⟩))
        go_ret
        exact ⟨rfl, below_trans q4.1 hb9⟩
      · have ways : (decide (a = b) = true ∧ ((tag : Int) == (fg : Int)) = true ∧ ((N : Int) == 65536) = true) ∨ ((decide (a = b) = false ∨ (decide (a = b) = true ∧ ((tag : Int) == (fg : Int)) = false)) ∧ N ≤ max a.length b.length / 16 + 2) := by
          by_cases hab : a = b
          · by_cases htf : tag = fg
            · have hn2 := hS ⟨hab, htf⟩
              left; exact ⟨decide_eq_true hab, by simp; omega, by simp; omega⟩
            · right; exact ⟨.inr ⟨decide_eq_true hab, by simp; omega⟩, hW (fun h => htf h.2)⟩
          · right; exact ⟨.inl (decide_eq_false hab), hW (fun h => hab h.1)⟩
        clear hS hW
        rcases ways with ⟨dab, tf, tN⟩ | ⟨ways, hNle⟩
        · go_enter Tryd.func10, Tryd.ntmps10
          go_wp2_with (first
        | (go_at_call 50; refine (cT _ q0.1).mono ?_; rintro e w1 ⟨rfl, hb1⟩; have q1 := q0.on hb1; obtain ⟨_, t0, t1, t2, t3, t4, t5, t6⟩ := q0.on hb1)
        | (go_at_call 51; refine (cU _ q1.1).mono ?_; rintro e w2 ⟨rfl, hb2⟩; have q2 := q1.on hb2; obtain ⟨_, s0, s1, s2, s3, s4, s5, s6⟩ := q1.on hb2)
        | (go_at_call 52; refine (cF _ q2.1).mono ?_; rintro e w3 ⟨rfl, hb3⟩; have q3 := q2.on hb3; obtain ⟨_, r0, r1, r2, r3, r4, r5, r6⟩ := q2.on hb3)
        | (go_at_call 53; refine (cR _ q3.1).mono ?_; rintro e w4 ⟨rfl, hb4⟩; have q4 := q3.on hb4; obtain ⟨_, p0, p1, p2, p3, p4, p5, p6⟩ := q3.on hb4)
            | (go_at_call 44; refine (cS _ q4.1).mono ?_; rintro e w6 ⟨rfl, hb6⟩; rw [dab]; have q6 := q4.on hb6; obtain ⟨_, n0, n1, n2, n3, n4, n5, n6⟩ := q4.on hb6)
            | (go_at_call 14; refine (cK _ q6.1).mono ?_; rintro e w9 ⟨rfl, hb9⟩))
          go_ret
          exact ⟨rfl, below_trans q6.1 hb9⟩
        · obtain ⟨M, hM⟩ : ∃ M : Nat, max a.length b.length = M := ⟨_, rfl⟩
          have hM150 : M ≤ 150 := by omega
          have hws := wordsL_length (w := 16) (by decide) (List.replicate M false)
          rw [hM] at hNle
          rw [List.length_replicate] at hws
          have cW : ∀ (w' : World) (A' : Option Addr) (c' : Nat), Arr 1 encB w' w'.heap.size A' (List.replicate M false) → (A' = none → c' = 0) → Calls Tryd.prog 49 #[.int .i64 16, .slice A' M c'] w' fun e v' => ∃ x, e = .returned x ∧ Own v' w'.heap.size 45 1 enc64 x (wordsL 16 (List.replicate M false)) ∧ Below w'.heap.size w' v' := fun w' A' c' h hn => by
            have := Words_any 16 A' c' (List.replicate M false) w' (.inr (.inl rfl)) h (by rw [List.length_replicate]; omega) hn
            rw [List.length_replicate] at this; exact this
          rw [← hws] at hNle
          generalize wordsL 16 (List.replicate M false) = ws at *
          have HM := Lib.hid hM
          have Hws := Lib.hid hws
          clear hM hws
          rcases ways with dab | ⟨dab, tf⟩
          all_goals (
            go_enter Tryd.func10, Tryd.ntmps10
            go_wp2_with (first
        | (go_at_call 50; refine (cT _ q0.1).mono ?_; rintro e w1 ⟨rfl, hb1⟩; have q1 := q0.on hb1; obtain ⟨_, t0, t1, t2, t3, t4, t5, t6⟩ := q0.on hb1)
        | (go_at_call 51; refine (cU _ q1.1).mono ?_; rintro e w2 ⟨rfl, hb2⟩; have q2 := q1.on hb2; obtain ⟨_, s0, s1, s2, s3, s4, s5, s6⟩ := q1.on hb2)
        | (go_at_call 52; refine (cF _ q2.1).mono ?_; rintro e w3 ⟨rfl, hb3⟩; have q3 := q2.on hb3; obtain ⟨_, r0, r1, r2, r3, r4, r5, r6⟩ := q2.on hb3)
        | (go_at_call 53; refine (cR _ q3.1).mono ?_; rintro e w4 ⟨rfl, hb4⟩; have q4 := q3.on hb4; obtain ⟨_, p0, p1, p2, p3, p4, p5, p6⟩ := q3.on hb4)
              | (go_at_call 44; refine (cS _ q4.1).mono ?_; rintro e w6 ⟨rfl, hb6⟩; rw [dab]; have q6 := q4.on hb6; obtain ⟨_, n0, n1, n2, n3, n4, n5, n6⟩ := q4.on hb6)
              | (at_make; refine wpList_mk rfl _ _ 43 rfl 4 i0 _ 1 Tryd.underlying43 Hi.out Hz0.out Hz1.out Hz2.out rfl (fun b : Bool => Value.bool b) false rfl _ _ _ _ M rfl rfl (by have := HM.out; omega) (by have := HM.out; omega) (by omega) (by unfold maxLen; omega) ?_; intro w7 own7 hb7; have q7 := q6.on hb7; obtain ⟨A7, c7, e7, _, _, n7, ar7⟩ := own7.form (enc := encB) encB_len; simp only [Value.slice.injEq] at e7; obtain ⟨e7a, e7b, e7c⟩ := e7; clear e7b; subst e7a e7c)
              | (go_at_call 49; ((with_reducible refine (cW _ _ _ ar7 n7).mono ?_)); rintro e w8 ⟨x8, rfl, own8, hb8⟩; have q8 := q7.on hb8; obtain ⟨A8, c8, e8, _, _, _, _⟩ := own8.form enc64_len; subst e8)
              | (go_at_call 14; refine (cK _ q8.1).mono ?_; rintro e w9 ⟨rfl, hb9⟩))
            go_ret
            exact ⟨rfl, below_trans q8.1 hb9⟩)
  · have hE : Hid (frE w tag fg a b = 2 ∧ frN w tag fg a b = 0) := Lib.hid (fr_no hB2 tag fg a b)
    have cF := fun w' (hb : Below v.heap.size v w') => Forgeries_any w tag fg A cA a B cB b w' (hA.on hb) la ma (hB.on hb) lb mb
    have cR := fun w' (hb : Below v.heap.size v w') => rForgeries_any w tag fg A cA a B cB b w' (hA.on hb) na (hB.on hb) nb
    rw [hE.out.1, hE.out.2] at cF cR
    have h16' : (w == 16) = false := by simpa using h16
    clear hB2
    go_enter Tryd.func10, Tryd.ntmps10
    go_wp2_with (first
        | (go_at_call 50; refine (cT _ q0.1).mono ?_; rintro e w1 ⟨rfl, hb1⟩; have q1 := q0.on hb1; obtain ⟨_, t0, t1, t2, t3, t4, t5, t6⟩ := q0.on hb1)
        | (go_at_call 51; refine (cU _ q1.1).mono ?_; rintro e w2 ⟨rfl, hb2⟩; have q2 := q1.on hb2; obtain ⟨_, s0, s1, s2, s3, s4, s5, s6⟩ := q1.on hb2)
        | (go_at_call 52; refine (cF _ q2.1).mono ?_; rintro e w3 ⟨rfl, hb3⟩; have q3 := q2.on hb3; obtain ⟨_, r0, r1, r2, r3, r4, r5, r6⟩ := q2.on hb3)
        | (go_at_call 53; refine (cR _ q3.1).mono ?_; rintro e w4 ⟨rfl, hb4⟩; have q4 := q3.on hb4; obtain ⟨_, p0, p1, p2, p3, p4, p5, p6⟩ := q3.on hb4)
        | (go_at_call 14; refine (cK _ q4.1).mono ?_; rintro e w9 ⟨rfl, hb9⟩))
    go_ret
    exact ⟨rfl, below_trans q4.1 hb9⟩

theorem walk (A : Option Addr) (cA : Nat) (a : List Bool) (B : Option Addr) (cB : Nat) (b : List Bool) (tag fg w key pad : Int) (v : World) (ht : Tab v)
    (hA : Arr 1 encB v v.heap.size A a) (la : a.length ≤ cA) (ma : cA ≤ maxLen) (na : A = none → cA = 0) (_ : ∀ x ∈ a, True)
    (hB : Arr 1 encB v v.heap.size B b) (lb : b.length ≤ cB) (mb : cB ≤ maxLen) (nb : B = none → cB = 0) (_ : ∀ x ∈ b, True)
    (h1 : (Lit.int .u64 tag).wf = true) (h2 : (Lit.int .u64 fg).wf = true) (_ : (Lit.int .i64 w).wf = true) (h3 : (Lit.int .u64 key).wf = true) (h4 : (Lit.int .u64 pad).wf = true) :
    Calls Tryd.prog 10 #[.agg #[.slice A a.length cA, .slice B b.length cB, .int .u64 tag, .int .u64 fg, .int .i64 w, .int .u64 key, .int .u64 pad]] v fun e w' => e = .returned (.bool true) ∧ Below v.heap.size v w' := by
  have b1 := bounds_u64 h1
  have b2 := bounds_u64 h2
  have b3 := bounds_u64 h3
  have b4 := bounds_u64 h4
  obtain ⟨x1, rfl⟩ : ∃ k : Nat, tag = (k : Int) := ⟨tag.toNat, by omega⟩
  obtain ⟨x2, rfl⟩ : ∃ k : Nat, fg = (k : Int) := ⟨fg.toNat, by omega⟩
  obtain ⟨x3, rfl⟩ : ∃ k : Nat, key = (k : Int) := ⟨key.toNat, by omega⟩
  obtain ⟨x4, rfl⟩ : ∃ k : Nat, pad = (k : Int) := ⟨pad.toNat, by omega⟩
  by_cases h : ¬ (512 < a.length ∨ 512 < b.length) ∧ (150 < a.length ∨ 150 < b.length) ∨ 600 < a.length ∨ 600 < b.length
  · exact go_early A cA a B cB b x1 x2 w x3 x4 v ht h
  · by_cases hl : 512 < a.length ∨ 512 < b.length
    · exact go_long A cA a B cB b x1 x2 w x3 x4 v ht hA hB la ma na lb mb nb h hl
    · exact go_main A cA a B cB b x1 x2 w x3 x4 v ht hA hB la ma na lb mb nb (by omega) (by omega)

set_option maxRecDepth 100000 in
theorem lifted (os : Os) (started : os.Started) (H : Type) (enc : TypeId × Value → H) :
    ReturnsInHanded {} Tryd.checked os 10 .any (fun w args => (Rows.distilTagsSpec.pre enc Tryd.prog Tryd.f10 [] false w args ∧ laidMetH Tryd.prog laid3 w) ∧ sizedMet enc Tryd.prog Tryd.f10 (OpenSpec.ofChange Rows.distilTagsSpec) false w args) (Rows.distilTagsSpec.post enc Tryd.prog Tryd.f10 false true false false) := by
  refine returnsInHanded_of_change_and (C := Tryd.checked) (X := fun w _ => laidMetH Tryd.prog laid3 w) (fun _ _ _ hh h => h.of_heap hh) own started (by kernel_rfl) Tryd.func10
    (ChangeSpec.witness_shaped (enc := enc) (C := Tryd.checked) (os := os) (X := fun w _ => laidMetH Tryd.prog laid3 w) false (World.doorLaid Tryd.prog 400 os) #[.agg #[.slice none 0 0, .slice none 0 0, .int .u64 0, .int .u64 0, .int .i64 0, .int .u64 0, .int .u64 0]] 8 rfl (World.shaped_of_RefB (by kernel_rfl) (by kernel_rfl)) (by kernel_rfl) (by kernel_rfl) (by kernel_rfl) (door3 os _)) ?_
  intro W base args ds gs before hval0 hW _ hsz hL _
  have hval : ∀ (j : Nat) t v, Tryd.f10.params[j]? = some t → args[j]? = some v → Value.okWide Tryd.prog W .any base t v := hval0
  have hW' := hW
  obtain ⟨p, q, hA0, hV, rfl, hfz, hnd⟩ := hW
  have hA : DataW.TrodAll enc Tryd.prog W 0 (fun _ => true) true Tryd.f10.params.toList args.toList ds p := hA0
  rw [Tryd.params10] at hA hval
  obtain ⟨v0, vs0, d0, ds0, p0, q0, hargs, rfl, rfl, h0, r0⟩ := trodAll_cons hA
  obtain ⟨rfl, rfl, rfl⟩ := trodAll_nil r0
  obtain rfl : args = #[v0] := by cases args; simp_all
  obtain ⟨rfl, rfl⟩ := trodVars_none hV
  have lt0 : ∀ x ∈ p0, x.block < W.heap.size := by obtain ⟨m, hm⟩ := h0; exact DataW.trod_lt m _ _ _ hm
  have k0 := h0
  obtain ⟨cs0, rfl, hsz0⟩ := okWide_struct Tryd.underlying75 (hval 0 75 v0 rfl rfl)
  obtain ⟨c0_0, c0_1, c0_2, c0_3, c0_4, c0_5, c0_6, rfl⟩ := arr7 (hsz0.trans (show Tryd.prog.cellsOf 75 = 7 from by kernel_rfl))
  obtain ⟨fuel0, hf0⟩ := h0
  obtain ⟨_, n0', hd0⟩ := trod_fields Tryd.underlying75 (by kernel_rfl) (by kernel_rfl) hf0
  obtain ⟨_, hy0_0⟩ := hd0 0 _ c0_0 rfl rfl
  obtain ⟨A0_0, n0_0, l0_0, hcs0_0, hl0_0, hm0_0, hz0_0, ha0_0, ho0_0⟩ := open_arr (enc := encB) _ encB_len (by decide) Tryd.underlying43 (by kernel_rfl) (fun n cs y h => dec_bool h) hy0_0
  obtain rfl : c0_0 = .slice A0_0 l0_0.length n0_0 := by simpa using hcs0_0
  obtain ⟨_, hy0_1⟩ := hd0 1 _ c0_1 rfl rfl
  obtain ⟨A0_1, n0_1, l0_1, hcs0_1, hl0_1, hm0_1, hz0_1, ha0_1, ho0_1⟩ := open_arr (enc := encB) _ encB_len (by decide) Tryd.underlying43 (by kernel_rfl) (fun n cs y h => dec_bool h) hy0_1
  obtain rfl : c0_1 = .slice A0_1 l0_1.length n0_1 := by simpa using hcs0_1
  obtain ⟨_, hy0_2⟩ := hd0 2 _ c0_2 rfl rfl
  obtain ⟨x0_2, e0_2, _, w0_2⟩ := DataW.trod_int Tryd.underlying45 hy0_2
  obtain rfl : c0_2 = .int .u64 x0_2 := by simpa using e0_2
  obtain ⟨_, hy0_3⟩ := hd0 3 _ c0_3 rfl rfl
  obtain ⟨x0_3, e0_3, _, w0_3⟩ := DataW.trod_int Tryd.underlying45 hy0_3
  obtain rfl : c0_3 = .int .u64 x0_3 := by simpa using e0_3
  obtain ⟨_, hy0_4⟩ := hd0 4 _ c0_4 rfl rfl
  obtain ⟨x0_4, e0_4, _, w0_4⟩ := DataW.trod_int Tryd.underlying3 hy0_4
  obtain rfl : c0_4 = .int .i64 x0_4 := by simpa using e0_4
  obtain ⟨_, hy0_5⟩ := hd0 5 _ c0_5 rfl rfl
  obtain ⟨x0_5, e0_5, _, w0_5⟩ := DataW.trod_int Tryd.underlying45 hy0_5
  obtain rfl : c0_5 = .int .u64 x0_5 := by simpa using e0_5
  obtain ⟨_, hy0_6⟩ := hd0 6 _ c0_6 rfl rfl
  obtain ⟨x0_6, e0_6, _, w0_6⟩ := DataW.trod_int Tryd.underlying45 hy0_6
  obtain rfl : c0_6 = .int .u64 x0_6 := by simpa using e0_6
  clear hA0 hval0
  have ht := tab3 hL
  refine (walk A0_0 n0_0 l0_0 A0_1 n0_1 l0_1 x0_2 x0_3 x0_4 x0_5 x0_6 W ht ha0_0 hl0_0 hm0_0 hz0_0 ho0_0 ha0_1 hl0_1 hm0_1 hz0_1 ho0_1 w0_2 w0_3 w0_4 w0_5 w0_6).mono fun e W' ⟨he, bel⟩ => ?_
  subst he
  exact ⟨_, rfl, _, _, _, [], _, [], hW', trodAll_mk1 (shut_bool Tryd.underlying4 _), (trodAll_cons_mk (Below.trod laidOut (by kernel_rfl) (of_decide_eq_true (by kernel_rfl)) k0 bel lt0) trodAll_mk0), rfl, bel.frame _, fun h => by cases h⟩

theorem over : Rows.distilTagsRow.holds Tryd.pinned (OpenSpec.ofChange Rows.distilTagsSpec) :=
  OpenClaim.holds_of_wide 10 Tryd.f10 rfl rfl rfl rfl rfl rfl rfl ⟨rfl, rfl, rfl, rfl, rfl⟩ rfl rfl rfl rfl rfl (by kernel_rfl) Tryd.func10 (by kernel_rfl)
    (of_decide_eq_true (by kernel_rfl)) (by unfold Func.isWrapper; first | (rw [if_pos (by decide +kernel)]; kernel_rfl) | (rw [if_neg (by decide +kernel)]; exact ⟨rfl, rfl⟩))
    (fun os started H enc _ => lifted os started H enc)

theorem proved : Rows.DistilTagsCardSaid :=
  Claim7.holds_tied_plain_at .later [] [.data, .data, .data] true _ true over (fun _ h => by cases h) (by kernel_rfl) (fun _ h => by cases h) distilTags_row_tie rfl ⟨rfl, rfl⟩ (by kernel_rfl) rfl
    (fun f fn hf hfn => by
      obtain rfl : f = 10 := Option.some.inj ((show Tryd.prog.funcNamed "waveplate/waveplatelaw06.DistilTags" = some 10 by kernel_rfl).symm.trans hf) |>.symm
      obtain rfl : fn = Tryd.f10 := (Option.some.inj (Tryd.func10.symm.trans hfn)).symm
      exact ⟨by kernel_rfl, fun j t ht => by
        rw [Tryd.params10] at ht
        have hm : t ∈ [75] := by simpa using Array.mem_of_getElem? ht
        have hall : ([75].all fun u => !Tryd.prog.wantsStandIn u) = true := by kernel_rfl
        exact (show Tryd.prog.wantsStandIn t = false by simpa using List.all_eq_true.1 hall t hm)⟩)
    (by kernel_rfl)
#print axioms proved
end Go.Proofs.YtliekcfcdfakjaaDoor.distilTags
