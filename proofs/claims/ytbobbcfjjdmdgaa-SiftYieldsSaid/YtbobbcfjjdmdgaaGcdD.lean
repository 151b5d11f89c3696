/- Contracts of exact's fit and reduced. For numbers of at most 1000 limbs whose quotients have at most 64. -/
import Derived.Test.YtbobbcfjjdmdgaaGcdC
import Derived.Test.YtbobbcfjjdmdgaaNatL
namespace Go.Proofs.Ytbobbcfjjdmdgaa
open Go.RowKit
set_option linter.unusedVariables false
set_option linter.unusedSimpArgs false

set_option maxHeartbeats 1000000 in
theorem fit_any (A : Option Addr) (c n : Nat) (w : World) (h : Nt w A c (limbs n)) (hl : (limbs n).length ≤ 64) :
    Calls Try.prog 172 #[.slice A (limbs n).length c] w fun e w' => ∃ v, e = .returned (.tuple #[v, .int .i64 0]) ∧ Big w' w.heap.size v n ∧ Below w.heap.size w w' := by
  have cC := clone_any A c (limbs n) w h (by omega)
  rw [V_limbs] at cC
  go_enter Try.func172, Try.ntmps172
  go_wp2_with fail
  refine cC.mono ?_
  rintro e w1 ⟨v, rfl, b1, hb1⟩
  obtain ⟨A1, c1, hv, _⟩ := b1.nt
  subst hv
  go_wp2_with fail
  go_ret2
  exact ⟨_, rfl, b1, hb1⟩

set_option maxHeartbeats 1000000 in
theorem red1_any (p q : Nat) (A : Option Addr) (c n : Nat) (u : Value) (w : World) (h0 : w.cell? ⟨p, 0, none⟩ = some (.slice A (limbs n).length c)) (h : Nt w A c (limbs n)) (hl : (limbs n).length ≤ 64) (hq : w.cell? ⟨q, 0, none⟩ = some u) (hf : w.frozen? ⟨q, 0, none⟩ = false) :
    Calls Try.prog 171 #[.pointer (some ⟨p, 0, none⟩), .pointer (some ⟨q, 0, none⟩)] w fun e w' => e = .returned (.int .i64 0) ∧ ∃ v w1, Big w1 w.heap.size v n ∧ Below w.heap.size w w1 ∧ w' = w1.setCell ⟨q, 0, none⟩ v := by
  have cF := fit_any A c n w h hl
  go_enter Try.func171, Try.ntmps171
  go_wp2_with fail
  refine cF.mono ?_
  rintro e w1 ⟨v, rfl, b1, hb1⟩
  obtain ⟨A1, c1, hv, _⟩ := b1.nt
  subst hv
  have hq1 := bel_cell hb1 hq
  have hf1 := (hb1.frozen (p := ⟨q, 0, none⟩) (World.block_lt_of_cell? w _ hq)).trans hf
  go_wp2_with fail
  go_ret
  exact ⟨rfl, _, w1, b1, hb1, rfl⟩
set_option maxHeartbeats 1000000 in
theorem red2_any (p q : Nat) (A : Option Addr) (c n : Nat) (u : Value) (w : World) (h0 : w.cell? ⟨p, 0, none⟩ = some (.slice A (limbs n).length c)) (h : Nt w A c (limbs n)) (hl : (limbs n).length ≤ 64) (hq : w.cell? ⟨q, 1, none⟩ = some u) (hf : w.frozen? ⟨q, 1, none⟩ = false) :
    Calls Try.prog 173 #[.pointer (some ⟨p, 0, none⟩), .pointer (some ⟨q, 0, none⟩)] w fun e w' => e = .returned (.int .i64 0) ∧ ∃ v w1, Big w1 w.heap.size v n ∧ Below w.heap.size w w1 ∧ w' = w1.setCell ⟨q, 1, none⟩ v := by
  have cF := fit_any A c n w h hl
  go_enter Try.func173, Try.ntmps173
  go_wp2_with fail
  refine cF.mono ?_
  rintro e w1 ⟨v, rfl, b1, hb1⟩
  obtain ⟨A1, c1, hv, _⟩ := b1.nt
  subst hv
  have hq1 := bel_cell hb1 hq
  have hf1 := (hb1.frozen (p := ⟨q, 1, none⟩) (World.block_lt_of_cell? w _ hq)).trans hf
  go_wp2_with fail
  go_ret
  exact ⟨rfl, _, w1, b1, hb1, rfl⟩

/-- The three blocks of reduced: what is to be made to fit, the fraction, the two steps. -/
structure RS (w : World) (H : Nat) (u1 u2 v9 o0 o1 : Value) : Prop where
  f0 : w.cell? ⟨H + 1 + 1, 0, none⟩ = some u1
  f1 : w.cell? ⟨H + 1 + 1, 1, none⟩ = some u2
  c9 : w.cell? ⟨H, 0, none⟩ = some v9
  k0 : w.cell? ⟨H + 1, 0, none⟩ = some o0
  r0 : w.frozen? ⟨H + 1, 0, none⟩ = false
  k1 : w.cell? ⟨H + 1, 1, none⟩ = some o1
  r1 : w.frozen? ⟨H + 1, 1, none⟩ = false
theorem RS.on {w w' : World} {H : Nat} {u1 u2 v9 o0 o1 : Value} (h : RS w H u1 u2 v9 o0 o1) (hb : Below w.heap.size w w') : RS w' H u1 u2 v9 o0 o1 :=
  ⟨bel_cell hb h.f0, bel_cell hb h.f1, bel_cell hb h.c9, bel_cell hb h.k0, (hb.frozen (p := ⟨H + 1, 0, none⟩) (World.block_lt_of_cell? w _ h.k0)).trans h.r0, bel_cell hb h.k1, (hb.frozen (p := ⟨H + 1, 1, none⟩) (World.block_lt_of_cell? w _ h.k1)).trans h.r1⟩
theorem RS.set0 {w : World} {H : Nat} {u1 u2 v9 o0 o1 : Value} (h : RS w H u1 u2 v9 o0 o1) (v : Value) : RS (w.setCell ⟨H + 1, 0, none⟩ v) H u1 u2 v9 v o1 := by
  obtain ⟨f0, f1, c9, k0, r0, k1, r1⟩ := h
  refine ⟨?_, ?_, ?_, ?_, ?_, ?_, ?_⟩ <;> go_simp
theorem RS.set1 {w : World} {H : Nat} {u1 u2 v9 o0 o1 : Value} (h : RS w H u1 u2 v9 o0 o1) (v : Value) : RS (w.setCell ⟨H + 1, 1, none⟩ v) H u1 u2 v9 o0 v := by
  obtain ⟨f0, f1, c9, k0, r0, k1, r1⟩ := h
  refine ⟨?_, ?_, ?_, ?_, ?_, ?_, ?_⟩ <;> go_simp
theorem RS.new (w : World) (u1 u2 v9 o0 o1 : Value) (T1 T2 T3 : TypeId) : RS (((w.alloc (.cells #[v9] T1)).alloc (.cells #[o0, o1] T2)).alloc (.cells #[u1, u2] T3)) w.heap.size u1 u2 v9 o0 o1 := by
  refine ⟨?_, ?_, ?_, ?_, ?_, ?_, ?_⟩ <;> go_simp

set_option maxRecDepth 100000 in
set_option maxHeartbeats 4000000 in
theorem reduced_any (A : Option Addr) (c : Nat) (l : List Nat) (C : Option Addr) (d : Nat) (m : List Nat) (w : World) (hA : Nt w A c l) (hC : Nt w C d m) (hl : l.length ≤ 1000) (hm : m.length ≤ 1000) (h0 : 0 < V m) (hn : (limbs (rdN (V l) (V m))).length ≤ 64) (hd : (limbs (rdD (V l) (V m))).length ≤ 64) :
    Calls Try.prog 121 #[.slice A l.length c, .slice C m.length d] w fun e w' => ∃ v1 v2, e = .returned (.tuple #[.agg #[v1, v2], .int .i64 0]) ∧ Big w' w.heap.size v1 (rdN (V l) (V m)) ∧ Big w' w.heap.size v2 (rdD (V l) (V m)) ∧ Below w.heap.size w w' := by
  have b0 := below_alloc (Below.refl w.heap.size w) (.cells #[.slice none 0 0, .slice none 0 0] 39)
  have g0 : 0 < Nat.gcd (V l) (V m) := Nat.gcd_pos_of_pos_right _ h0
  have cC := common_any A c l C d m _ (hA.on b0) (hC.on b0) hl hm
  have lg : (limbs (Nat.gcd (V l) (V m))).length ≤ 1000 := by
    have := limbs_mono (Nat.le_of_dvd h0 (Nat.gcd_dvd_right (V l) (V m)))
    have := limbs_le hC.dig
    omega
  have cS1 := fun w' (hb : Below w.heap.size w w') B e (ng : Nt w' B e (limbs (Nat.gcd (V l) (V m)))) => split_any A c l B e (limbs (Nat.gcd (V l) (V m))) w' (hA.on hb) ng (by omega) (by omega) (by rw [V_limbs]; exact g0)
  have cS2 := fun w' (hb : Below w.heap.size w w') B e (ng : Nt w' B e (limbs (Nat.gcd (V l) (V m)))) => split_any C d m B e (limbs (Nat.gcd (V l) (V m))) w' (hC.on hb) ng (by omega) (by omega) (by rw [V_limbs]; exact g0)
  simp only [V_limbs] at cS1 cS2
  unfold rdN at hn ⊢
  unfold rdD at hd ⊢
  obtain ⟨X, hX⟩ : ∃ X, V l / Nat.gcd (V l) (V m) = X := ⟨_, rfl⟩
  obtain ⟨Y, hY⟩ : ∃ Y, V m / Nat.gcd (V l) (V m) = Y := ⟨_, rfl⟩
  rw [hX] at hn ⊢
  rw [hY] at hd ⊢
  simp only [hX] at cS1
  simp only [hY] at cS2
  clear hX hY g0
  go_enter Try.func121, Try.ntmps121
  go_wp2_with fail
  refine cC.mono ?_
  rintro e w1 ⟨v1, rfl, bg, hb1⟩
  obtain ⟨A1, c1, rfl, ng⟩ := bg.nt
  have q1 := below_trans b0 hb1
  go_wp2_with fail
  refine (cS1 w1 q1 A1 c1 ng).mono ?_
  rintro e w2 ⟨v2, v2', rfl, bn, _, hb2⟩
  have q2 := below_trans q1 hb2
  obtain ⟨A2, c2, rfl, nn⟩ := bn.nt
  go_wp2_with fail
  have q3 := below_alloc q2 (.cells #[.slice A2 (limbs X).length c2] 37)
  have al := below_alloc (Below.refl w2.heap.size w2) (.cells #[.slice A2 (limbs X).length c2] 37)
  have z0 : (w2.alloc (.cells #[.slice A2 (limbs X).length c2] 37)).cell? ⟨w2.heap.size, 0, none⟩ = some (.slice A2 (limbs X).length c2) := by go_simp
  have n3 := nn.on al
  refine (cS2 _ q3 A1 c1 ((ng.on hb2).on al)).mono ?_
  rintro e w4 ⟨v4, v4', rfl, bd, _, hb4⟩
  have q4 := below_trans q3 hb4
  obtain ⟨A4, c4, rfl, nd⟩ := bd.nt
  have z1 := bel_cell hb4 z0
  have n4 := n3.on hb4
  go_wp2_with fail
  have rs0 := RS.new w4 (.func (.func 171) #[] #[.pointer (some ⟨w2.heap.size, 0, none⟩), .pointer (some ⟨w4.heap.size + 1, 0, none⟩)]) (.func (.func 173) #[] #[.pointer (some ⟨w4.heap.size, 0, none⟩), .pointer (some ⟨w4.heap.size + 1, 0, none⟩)]) (.slice A4 (limbs Y).length c4) (.slice none 0 0) (.slice none 0 0) 37 39 275
  have al5 := below_alloc (below_alloc (below_alloc (Below.refl w4.heap.size w4) (.cells #[.slice A4 (limbs Y).length c4] 37)) (.cells #[.slice none 0 0, .slice none 0 0] 39)) (.cells #[.func (.func 171) #[] #[.pointer (some ⟨w2.heap.size, 0, none⟩), .pointer (some ⟨w4.heap.size + 1, 0, none⟩)], .func (.func 173) #[] #[.pointer (some ⟨w4.heap.size, 0, none⟩), .pointer (some ⟨w4.heap.size + 1, 0, none⟩)]] 275)
  have zb0 := (blk_new (below_trans hb1 (below_trans hb2 (below_trans al hb4))) (g := w.heap.size) rfl (j := 0) rfl)
  have zb1 := (blk_new (below_trans hb1 (below_trans hb2 (below_trans al hb4))) (g := w.heap.size) rfl (j := 1) rfl)
  have sw : w.heap.size < w4.heap.size := World.block_lt_of_cell? w4 _ zb0.1
  have Zb0 := Lib.hid zb0; have Zb1 := Lib.hid zb1
  clear zb0 zb1
  go_loopw [34] (fun iv wr => ∃ (k : Nat) (o0 o1 : Value), k ≤ 2 ∧ iv = .int .i64 k ∧ Below w4.heap.size w4 wr ∧ RS wr w4.heap.size (.func (.func 171) #[] #[.pointer (some ⟨w2.heap.size, 0, none⟩), .pointer (some ⟨w4.heap.size + 1, 0, none⟩)]) (.func (.func 173) #[] #[.pointer (some ⟨w4.heap.size, 0, none⟩), .pointer (some ⟨w4.heap.size + 1, 0, none⟩)]) (.slice A4 (limbs Y).length c4) o0 o1 ∧ w4.heap.size + 1 + 1 ≤ wr.heap.size ∧ (1 ≤ k → Big wr (w4.heap.size + 1 + 1) o0 X) ∧ (2 ≤ k → Big wr (w4.heap.size + 1 + 1) o1 Y)) (fun iv _ => 2 - (intOf iv).toNat)
  case atStart => exact ⟨0, _, _, by omega, rfl, al5, rs0, by simp, fun h => by omega, fun h => by omega⟩
  case round =>
    obtain ⟨k, o0, o1, hk, rfl, hbr, rs, szr, B0, B1⟩ := hrel
    have z7 := bel_cell hbr z1
    have m2 := n4.on hbr
    have m4 := nd.on hbr
    rcases (show k = 0 ∨ k = 1 ∨ k = 2 by omega) with rfl | rfl | rfl
    · have f0 := rs.f0
      have RSt := Lib.hid rs
      have cR := red1_any w2.heap.size (w4.heap.size + 1) A2 c2 X o0 wr z7 m2 hn rs.k0 rs.r0
      clear B0 B1 rs
      go_wp2_with fail
      refine cR.mono ?_
      rintro e w' ⟨rfl, v, w5, bv, hb5, rfl⟩
      have r5 := (RSt.out.on hb5).set0 v
      have b5 : Below w4.heap.size w4 (w5.setCell ⟨w4.heap.size + 1, 0, none⟩ v) := (below_trans hbr hb5).setCell (Nat.le_succ _) v
      have s5 : w4.heap.size + 1 + 1 ≤ (w5.setCell ⟨w4.heap.size + 1, 0, none⟩ v).heap.size := by have := hb5.size; simp; omega
      have bv' : Big (w5.setCell ⟨w4.heap.size + 1, 0, none⟩ v) (w4.heap.size + 1 + 1) v X := Big.down (Own.keep_lt bv (grown_set _ _ _ _) (by omega)) (by omega)
      go_wp2_with fail
      exact ⟨⟨1, v, o1, by omega, rfl, b5, r5, s5, fun _ => bv', fun h => by omega⟩, by simp [intOf]⟩
    · have f1 := rs.f1
      have RSt := Lib.hid rs
      have B0' := B0 (Nat.le_refl _)
      have cR := red2_any w4.heap.size (w4.heap.size + 1) A4 c4 Y o1 wr rs.c9 m4 hd rs.k1 rs.r1
      clear B0 B1 rs
      simp only [show ((1 : Nat) : Int) = 1 from rfl]
      go_wp2_with fail
      refine cR.mono ?_
      rintro e w' ⟨rfl, v, w5, bv, hb5, rfl⟩
      have r5 := (RSt.out.on hb5).set1 v
      have b5 : Below w4.heap.size w4 (w5.setCell ⟨w4.heap.size + 1, 1, none⟩ v) := (below_trans hbr hb5).setCell (Nat.le_succ _) v
      have s5 : w4.heap.size + 1 + 1 ≤ (w5.setCell ⟨w4.heap.size + 1, 1, none⟩ v).heap.size := by have := hb5.size; simp; omega
      have bv' : Big (w5.setCell ⟨w4.heap.size + 1, 1, none⟩ v) (w4.heap.size + 1 + 1) v Y := Big.down (Own.keep_lt bv (grown_set _ _ _ _) (by omega)) (by omega)
      have bo : Big (w5.setCell ⟨w4.heap.size + 1, 1, none⟩ v) (w4.heap.size + 1 + 1) o0 X := Own.keep_lt (B0'.below hb5) (grown_set _ _ _ _) (Nat.lt_succ_self _)
      go_wp2_with fail
      exact ⟨⟨2, o0, v, by omega, rfl, b5, r5, s5, fun _ => bo, fun _ => bv'⟩, by simp [intOf]⟩
    · have B0' := B0 (by omega)
      have B1' := B1 (by omega)
      obtain ⟨P0, e0, rfl, _⟩ := B0'.nt
      obtain ⟨P1, e1, rfl, _⟩ := B1'.nt
      have k0 := rs.k0
      have k1 := rs.k1
      have y0 := bel_cell hbr Zb0.out.1
      have y1 := bel_cell hbr Zb1.out.1
      have t0 := (hbr.frozen (p := ⟨w.heap.size, 0, none⟩) sw).trans Zb0.out.2
      have t1 := (hbr.frozen (p := ⟨w.heap.size, 1, none⟩) sw).trans Zb1.out.2
      have q5 := (below_trans q4 hbr)
      clear B0 B1 rs cS1 cS2
      simp only [show ((2 : Nat) : Int) = 2 from rfl]
      go_wp2_with fail
      (try simp only [Exit.inBlock, Exit.then])
      refine bodyPost_ret (v := .tuple #[.agg #[.slice P0 (limbs X).length e0, .slice P1 (limbs Y).length e1], .int .i64 0]) ?_ rfl ⟨_, _, rfl, ?_, ?_, ?_⟩
      · rw [results_cell_tmp rfl]
        go_simp
      · exact Big.down (Own.keep_lt (Own.keep_lt B0' (grown_set _ _ _ _) (by omega)) (grown_set _ _ _ _) (by omega)) (by omega)
      · exact Big.down (Own.keep_lt (Own.keep_lt B1' (grown_set _ _ _ _) (by omega)) (grown_set _ _ _ _) (by omega)) (by omega)
      · exact (q5.setCell (Nat.le_refl _) _).setCell (Nat.le_refl _) _

end Go.Proofs.Ytbobbcfjjdmdgaa
