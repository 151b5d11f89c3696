/- Contract of the reference's Test. For bit strings of at most 65536 bits, any numbers and any two fractions. -/
import Derived.Test.YtdngehgjbledfaaGreatTstC
import Derived.Test.YtdngehgjbledfaaGreatRefM
namespace Go.Proofs.YtdngehgjbledfaaGreat
open Go.RowKit
set_option linter.unusedVariables false
set_option linter.unusedSimpArgs false

set_option maxRecDepth 100000 in
set_option maxHeartbeats 4000000 in
theorem rTest_bad1 (A B : Option Addr) (cA cB n m : Nat) (a b : List Bool) (k : Int) (s : Nat) (f g : Frc) (w : World) (ha : a.length = n) (hb : b.length = m) (hne : n ≠ m) :
    Calls Tryz.prog 7 #[.slice A n cA, .slice B m cB, .int .i64 k, .int .u64 s, f.val, g.val] w fun e w' => TsR w w' a b k s f g e := by
  have hE : Hid (tstE a b k s f g = 22) := Lib.hid (by unfold tstE; rw [if_pos (by omega)])
  have hnm : ((n : Int) != (m : Int)) = true := by simp; omega
  have hb0 := below_alloc (below_alloc (below_alloc (Below.refl w.heap.size w) (.cells #[.slice f.A f.l.length f.c, .slice f.C f.m.length f.d] 29)) (.cells #[.slice g.A g.l.length g.c, .slice g.C g.m.length g.d] 29)) (.cells #[.int .i64 0, .int .i64 0, .int .i64 0, .int .i64 0, .int .i64 0] 33)
  unfold Frc.val
  clear hne ha hb
  go_enter Tryz.func7, Tryz.ntmps7
  go_wp2_with fail
  (try simp only [Exit.inBlock, Exit.then])
  refine bodyPost_ret (v := .tuple #[zero5, .slice none 0 0, .slice none 0 0, .int .i64 22]) ?_ rfl (tsR_bad hE.out (by decide) ?_)
  · rw [results_cell3 rfl]
    unfold zero5
    go_simp
  · exact hb0

set_option maxRecDepth 100000 in
set_option maxHeartbeats 4000000 in
theorem rTest_bad2 (A B : Option Addr) (cA cB n : Nat) (a b : List Bool) (k : Int) (s : Nat) (f g : Frc) (w : World) (ha : a.length = n) (hb : b.length = n) (h : smE n k ≠ 0) :
    Calls Tryz.prog 7 #[.slice A n cA, .slice B n cB, .int .i64 k, .int .u64 s, f.val, g.val] w fun e w' => TsR w w' a b k s f g e := by
  have h3 := (sm_bad (s := s) h).1
  have hE : Hid (tstE a b k s f g = 3) := Lib.hid (by unfold tstE; rw [if_neg (by omega), ha, if_pos h])
  have hb0 := below_alloc (below_alloc (below_alloc (Below.refl w.heap.size w) (.cells #[.slice f.A f.l.length f.c, .slice f.C f.m.length f.d] 29)) (.cells #[.slice g.A g.l.length g.c, .slice g.C g.m.length g.d] 29)) (.cells #[.int .i64 0, .int .i64 0, .int .i64 0, .int .i64 0, .int .i64 0] 33)
  have cS := fun w1 => rSampleS_any s n k w1
  unfold SmR at cS
  rw [h3] at cS
  unfold Frc.val
  clear h h3 ha hb
  go_enter Tryz.func7, Tryz.ntmps7
  go_wp2_with fail
  refine (cS _).mono ?_
  rintro e w2 ⟨v1, v2, rfl, own1, own2, hb2⟩
  have q2 := below_trans hb0 hb2
  obtain ⟨f0, f1, f2, f3, f4⟩ := five_new hb2 (g := w.heap.size + 1 + 1) (by simp)
  go_wp2_with fail
  (try simp only [Exit.inBlock, Exit.then])
  refine bodyPost_ret (v := .tuple #[zero5, .slice none 0 0, .slice none 0 0, .int .i64 3]) ?_ rfl (tsR_bad hE.out (by decide) ?_)
  · rw [results_cell3 rfl]
    unfold zero5
    go_simp
  · exact below_set5 q2 (by omega)

set_option maxRecDepth 100000 in
set_option maxHeartbeats 8000000 in
theorem rTest_main (A B : Option Addr) (cA cB n : Nat) (a b : List Bool) (k : Int) (s : Nat) (f g : Frc) (w : World) (ha : a.length = n) (hb : b.length = n) (hA : Arr 1 encB w w.heap.size A a) (hB : Arr 1 encB w w.heap.size B b) (hn : n ≤ 65536) (h : smE n k = 0) (hf : f.In w) (hg : g.In w) :
    Calls Tryz.prog 7 #[.slice A n cA, .slice B n cB, .int .i64 k, .int .u64 s, f.val, g.val] w fun e w' => TsR w w' a b k s f g e := by
  have hTE := Lib.hid (test_case a b k s n f g ha hb h)
  have hk := smE_ok h
  have hb0 := below_alloc (below_alloc (below_alloc (Below.refl w.heap.size w) (.cells #[.slice f.A f.l.length f.c, .slice f.C f.m.length f.d] 29)) (.cells #[.slice g.A g.l.length g.c, .slice g.C g.m.length g.d] 29)) (.cells #[.int .i64 0, .int .i64 0, .int .i64 0, .int .i64 0, .int .i64 0] 33)
  have cS := fun w1 => rSampleS_any s n k w1
  unfold SmR at cS
  rw [h] at cS
  have xl := xor_len (a := a) (b := b) (by omega)
  rw [ha] at xl
  have sl := sm_len (s := s) h
  obtain ⟨m, hm⟩ : ∃ m, k.toNat = m := ⟨_, rfl⟩
  rw [hm] at sl
  have hm5 : m ≤ 512 := by omega
  have rl := rs_len (s := s) h
  have sm := fun x => sm_mem (s := s) (n := n) (k := k) (x := x)
  have rm := fun x => rs_mem (s := s) (n := n) (k := k) (x := x)
  obtain ⟨L, hL⟩ : ∃ L, smL s n k = L := ⟨_, rfl⟩
  obtain ⟨R, hR⟩ : ∃ R, rsL s n k = R := ⟨_, rfl⟩
  obtain ⟨r, hr⟩ : ∃ r, R.length = r := ⟨_, rfl⟩
  rw [hL] at cS sl sm
  rw [hR] at cS rl rm
  have hSN : Hid (seenN a b k s = cntL (xorL (pickL a L) (pickL b L))) := Lib.hid (by
    unfold seenN
    rw [pick_xor (by omega) (fun x hx => by have := sm x hx; omega), ha, hL])
  have HL := Lib.hid hL; have HR := Lib.hid hR; have Hr := Lib.hid hr
  have Hsl := Lib.hid sl; have Hsm := Lib.hid sm; have Hrm := Lib.hid rm
  have Ha := Lib.hid ha; have Hb := Lib.hid hb
  have Hf := Lib.hid hf; have Hg := Lib.hid hg
  have Hk := Lib.hid hk; have Hm := Lib.hid hm
  rw [hr] at rl
  clear hL hR hr sl sm rm h ha hb hk hm xl
  have fv : f.val = .agg #[.slice f.A f.l.length f.c, .slice f.C f.m.length f.d] := rfl
  have gv : g.val = .agg #[.slice g.A g.l.length g.c, .slice g.C g.m.length g.d] := rfl
  rw [fv, gv]
  clear fv gv
  go_enter Tryz.func7, Tryz.ntmps7
  go_wp2_with fail
  refine (cS _).mono ?_
  rintro e w2 ⟨v1, v2, rfl, own1, own2, hb2⟩
  obtain ⟨LA, LC, hv1, arL⟩ := arr_cap own1 encI_len Hsl.out
  obtain ⟨RA, RC, hv2, arR⟩ := arr_cap own2 encI_len Hr.out
  rw [hv1, hv2]
  clear hv1 hv2 own1 own2 cS
  have q2 := below_trans hb0 hb2
  have five2 := five_new hb2 (g := w.heap.size + 1 + 1) (by simp)
  have e0 : w2.cell? ⟨w.heap.size, 0, none⟩ = some (.slice f.A f.l.length f.c) := bel_cell hb2 (by go_simp)
  have e1 : w2.cell? ⟨w.heap.size, 1, none⟩ = some (.slice f.C f.m.length f.d) := bel_cell hb2 (by go_simp)
  have g0 : w2.cell? ⟨w.heap.size + 1, 0, none⟩ = some (.slice g.A g.l.length g.c) := bel_cell hb2 (by go_simp)
  have g1 : w2.cell? ⟨w.heap.size + 1, 1, none⟩ = some (.slice g.C g.m.length g.d) := bel_cell hb2 (by go_simp)
  have sz2 : w.heap.size + 1 + 1 < w2.heap.size := by have := hb2.size; simp at *; omega
  have sz21 : w.heap.size + 1 < w2.heap.size := by omega
  have sz20 : w.heap.size < w2.heap.size := by omega
  have arA2 := hA.on q2
  have arB2 := hB.on q2
  go_wp2_with fail
  refine (rPick_any A LA cA n LC m a L w2 Ha.out Hsl.out arA2 arL hn (by omega) (fun x hx => Hsm.out x hx)).mono ?_
  rintro e y1 ⟨p1, rfl, op1, hy1⟩
  obtain ⟨P1, C1, hp1, ar1⟩ := arr_cap (n := m) op1 encB_len (by rw [pick_len, Hsl.out])
  rw [hp1]
  clear hp1
  go_wp2_with fail
  refine (rPick_any B LA cB n LC m b L y1 Hb.out Hsl.out (arB2.on hy1) (arL.on hy1) hn (by omega) (fun x hx => Hsm.out x hx)).mono ?_
  rintro e y2 ⟨p2, rfl, op2, hy2⟩
  obtain ⟨P2, C2, hp2, ar2⟩ := arr_cap (n := m) op2 encB_len (by rw [pick_len, Hsl.out])
  rw [hp2]
  clear hp2
  go_wp2_with fail
  have l1 : (pickL a L).length = m := by rw [pick_len, Hsl.out]
  have l2 : (pickL b L).length = m := by rw [pick_len, Hsl.out]
  have cX := refXor_any P1 P2 C1 C2 (pickL a L) (pickL b L) y2 (ar1.on hy2) ar2 (by omega) (by omega) (by omega)
  rw [l1, l2, show (pickL b L).take m = pickL b L from by rw [← l2, List.take_length]] at cX
  have xl : (xorL (pickL a L) (pickL b L)).length = m := by rw [xor_len (by omega), l1]
  have Xl := Lib.hid xl
  clear l1 l2 xl
  refine cX.mono ?_
  rintro e y3 ⟨p3, rfl, op3, hy3⟩
  obtain ⟨P3, C3, hp3, ar3⟩ := arr_cap (n := m) op3 encB_len Xl.out
  rw [hp3]
  clear hp3
  go_wp2_with fail
  have cC := refCount_any P3 C3 (xorL (pickL a L) (pickL b L)) y3 ar3 (by rw [Xl.out]; omega)
  rw [Xl.out] at cC
  refine cC.mono ?_
  rintro e w' ⟨rfl, rfl⟩
  have hb23 := below_trans (below_trans hy1 hy2) hy3
  have cl : cntL (xorL (pickL a L) (pickL b L)) ≤ m := Nat.le_trans (cntL_le _) (by rw [Xl.out]; exact Nat.le_refl _)
  have hs0 := hSN.out
  obtain ⟨c, hcn⟩ : ∃ c, cntL (xorL (pickL a L) (pickL b L)) = c := ⟨_, rfl⟩
  rw [hcn] at cl hs0 ⊢
  have q2' := below_trans q2 hb23
  have five2' := five2.on hb23
  have e0' := bel_cell hb23 e0
  have e1' := bel_cell hb23 e1
  have g0' := bel_cell hb23 g0
  have g1' := bel_cell hb23 g1
  have arR' := arR.on hb23
  have sz2' : w.heap.size + 1 + 1 < y3.heap.size := by have := hb23.size; omega
  have sz21' : w.heap.size + 1 < y3.heap.size := by omega
  have sz20' : w.heap.size < y3.heap.size := by omega
  clear hcn cC cX op1 op2 op3 ar1 ar2 ar3 hy1 hy2 hy3 hb23 q2 five2 e0 e1 g0 g1 arR arL arA2 arB2 sz2 sz21 sz20 hb2
  obtain ⟨w2, rfl⟩ : ∃ w2, w2 = y3 := ⟨_, rfl⟩
  have hTE2 := hTE.out
  rw [hs0] at hTE2
  have HTE := Lib.hid hTE2
  have Hs0 := Lib.hid hs0
  clear hTE2 hs0
  have cR := rRate_any n k c f w2 (Hf.out.on q2')
  rw [show f.val = .agg #[.slice f.A f.l.length f.c, .slice f.C f.m.length f.d] from rfl] at cR
  obtain ⟨ea, eb, ec, ed, ee, hE⟩ := rate_form n k c f
  have HE := Lib.hid hE
  rw [hE] at cR
  clear hE
  by_cases h1 : boundE n k c f = 0
  · rw [h1] at cR
    have HTJ : Hid (tstE a b k s f g = judgeE k c g) := Lib.hid (by rw [HTE.out, if_neg (by omega)])
    go_wp2_with fail
    refine cR.mono ?_
    rintro e w3 ⟨rfl, hb3⟩
    have q3 := below_alloc (below_trans q2' hb3) (.cells #[.int .i64 ea, .int .i64 eb, .int .i64 ec, .int .i64 ed, .int .i64 ee] 33)
    have five3 := five2'.on hb3
    have g0 := bel_cell hb3 g0'
    have g1 := bel_cell hb3 g1'
    have sz3 : w.heap.size + 1 + 1 < w3.heap.size := by have := hb3.size; omega
    have sz31 : w.heap.size + 1 < w3.heap.size := by omega
    clear cR e0' e1' g0' g1'
    go_wp2_with fail
    have cJ := rJudge_any k c g _ (Hg.out.on q3)
    rw [show g.val = .agg #[.slice g.A g.l.length g.c, .slice g.C g.m.length g.d] from rfl] at cJ
    refine cJ.mono ?_
    rintro e w4 ⟨rfl, hb4⟩
    have q4 := below_trans q3 hb4
    have al3 := fun {x : Addr} {v : Value} (h : w3.cell? x = some v) => bel_cell hb4 ((World.cell?_alloc_lt w3 (.cells #[.int .i64 ea, .int .i64 eb, .int .i64 ec, .int .i64 ed, .int .i64 ee] 33) x (World.block_lt_of_cell? w3 x h)).trans h)
    have five4 := (five3.on (below_alloc (Below.refl _ _) (.cells #[.int .i64 ea, .int .i64 eb, .int .i64 ec, .int .i64 ed, .int .i64 ee] 33))).on hb4
    have x0 := (blk_new hb4 (g := w3.heap.size) rfl (j := 0) rfl).1
    have x1 := (blk_new hb4 (g := w3.heap.size) rfl (j := 1) rfl).1
    have x2 := (blk_new hb4 (g := w3.heap.size) rfl (j := 2) rfl).1
    have x3 := (blk_new hb4 (g := w3.heap.size) rfl (j := 3) rfl).1
    have x4 := (blk_new hb4 (g := w3.heap.size) rfl (j := 4) rfl).1
    have sz4 : w.heap.size + 1 + 1 < w4.heap.size := by have := hb4.size; simp at this; omega
    have sz41 : w.heap.size + 1 < w4.heap.size := by omega
    have sz43 : w3.heap.size < w4.heap.size := by have := hb4.size; simp at this; omega
    by_cases h2 : judgeE k c g = 0
    · have hT : Hid (tstE a b k s f g = 0) := Lib.hid (by rw [HTJ.out, h2])
      rw [h2]
      clear h2 cJ
      have arA4 := hA.on q4
      have arB4 := hB.on q4
      have arR4 := (arR'.on hb3).on (below_trans (below_alloc (Below.refl _ _) (.cells #[.int .i64 ea, .int .i64 eb, .int .i64 ec, .int .i64 ed, .int .i64 ee] 33)) hb4)
      go_wp2_with fail
      have cP := rPick_any A RA cA n RC r a R
      have cP2 := rPick_any B RA cB n RC r b R
      clear al3 five3 five2' hTE hSN HTE
      have dA : Arr 1 encB w4.drew w4.drew.heap.size A a := arA4
      have dB : Arr 1 encB w4.drew w4.drew.heap.size B b := arB4
      have dR : Arr 1 encI w4.drew w4.drew.heap.size RA R := arR4
      have d0 : w4.drew.cell? ⟨w3.heap.size, 0, none⟩ = some (.int .i64 ea) := x0
      have d1 : w4.drew.cell? ⟨w3.heap.size, 1, none⟩ = some (.int .i64 eb) := x1
      have d2 : w4.drew.cell? ⟨w3.heap.size, 2, none⟩ = some (.int .i64 ec) := x2
      have d3 : w4.drew.cell? ⟨w3.heap.size, 3, none⟩ = some (.int .i64 ed) := x3
      have d4 : w4.drew.cell? ⟨w3.heap.size, 4, none⟩ = some (.int .i64 ee) := x4
      have dF : Five w4.drew (w.heap.size + 1 + 1) := five4
      have ds : w.heap.size + 1 + 1 < w4.drew.heap.size := sz4
      go_region_with (first
        | (go_at_call 19; refine Calls.on (args' := #[.slice A n cA, .slice RA r RC]) rfl ?_; refine (cP _ Ha.out Hr.out dA dR hn ?h1 ?h2).mono ?_; (case h1 => omega); (case h2 => exact fun x hx => Hrm.out x hx); rintro e w5 ⟨v5, rfl, own5, hb5⟩; have y0 := bel_cell hb5 d0; have y1 := bel_cell hb5 d1; have y2 := bel_cell hb5 d2; have y3 := bel_cell hb5 d3; have y4 := bel_cell hb5 d4)
        | (go_at_call 19; refine Calls.on (args' := #[.slice B n cB, .slice RA r RC]) rfl ?_; refine (cP2 _ Hb.out Hr.out (dB.on hb5) (dR.on hb5) hn ?h1 ?h2).mono ?_; (case h1 => omega); (case h2 => exact fun x hx => Hrm.out x hx); rintro e w6 ⟨v6, rfl, own6, hb6⟩; have z0 := bel_cell (below_trans hb5 hb6) d0; have z1 := bel_cell (below_trans hb5 hb6) d1; have z2 := bel_cell (below_trans hb5 hb6) d2; have z3 := bel_cell (below_trans hb5 hb6) d3; have z4 := bel_cell (below_trans hb5 hb6) d4; obtain ⟨m0, m1, m2, m3, m4⟩ := (dF.on (below_trans hb5 hb6)); have s46 := (below_trans hb5 hb6).size; have sz6 : w.heap.size + 1 + 1 < w6.heap.size := Nat.lt_of_lt_of_le ds s46))
      all_goals (
        have q6 := below_trans q4 (below_trans (below_trans (Below.refl _ _).drew hb5) hb6)
        have s4 := q4.size
        have s5 : w4.heap.size ≤ w5.heap.size := hb5.size
        have o5 := own_base (own_set5 (own5.below hb6) (g := w.heap.size + 1 + 1) ds (a0 := .int .i64 ea) (a1 := .int .i64 eb) (a2 := .int .i64 ec) (a3 := .int .i64 ed) (a4 := .int .i64 ee)) (show w.heap.size ≤ w4.drew.heap.size from s4)
        have o6 := own_base (own_set5 own6 (g := w.heap.size + 1 + 1) (Nat.lt_of_lt_of_le ds hb5.size) (a0 := .int .i64 ea) (a1 := .int .i64 eb) (a2 := .int .i64 ec) (a3 := .int .i64 ed) (a4 := .int .i64 ee)) (show w.heap.size ≤ w5.heap.size from Nat.le_trans s4 s5)
        have fin := tsR_good (w := w) hT.out (by rw [Ha.out, HR.out]; exact o5) (by rw [Ha.out, HR.out]; exact o6) (below_set5 q6 (g := w.heap.size + 1 + 1) (Nat.le_succ_of_le (Nat.le_succ _)) (a0 := .int .i64 ea) (a1 := .int .i64 eb) (a2 := .int .i64 ec) (a3 := .int .i64 ed) (a4 := .int .i64 ee))
        rw [Ha.out, Hs0.out, HE.out] at fin
        have Fin := Lib.hid fin
        clear fin o5 o6 own5 own6
        go_wp2_with fail
        (try simp only [Exit.inBlock, Exit.then])
        refine bodyPost_ret (v := .tuple #[.agg #[.int .i64 ea, .int .i64 eb, .int .i64 ec, .int .i64 ed, .int .i64 ee], v5, v6, .int .i64 0]) ?_ rfl Fin.out
        rw [results_cell3 rfl]
        go_simp)
    · have hT : Hid (tstE a b k s f g = judgeE k c g) := HTJ
      have h2' : (judgeE k c g != 0) = true := by simpa using h2
      have cJ2 := rJudge_any k c g w4 (Hg.out.on q4)
      rw [show g.val = .agg #[.slice g.A g.l.length g.c, .slice g.C g.m.length g.d] from rfl] at cJ2
      generalize judgeE k c g = E2 at *
      have H2 := Lib.hid h2
      have g02 := al3 g0
      have g12 := al3 g1
      obtain ⟨f0, f1, f2, f3, f4⟩ := five4
      clear h2 cJ
      go_wp2_with fail
      refine cJ2.mono ?_
      rintro e w5 ⟨rfl, hb5⟩
      have q5 := below_trans q4 hb5
      have sz5 : w.heap.size + 1 + 1 < w5.heap.size := by have := hb5.size; omega
      obtain ⟨m0, m1, m2, m3, m4⟩ := (Five.on ⟨f0, f1, f2, f3, f4⟩ hb5 : Five w5 (w.heap.size + 1 + 1))
      clear cJ2
      go_wp2_with fail
      (try simp only [Exit.inBlock, Exit.then])
      refine bodyPost_ret (v := .tuple #[zero5, .slice none 0 0, .slice none 0 0, .int .i64 E2]) ?_ rfl (tsR_bad hT.out H2.out ?_)
      · rw [results_cell3 rfl]
        unfold zero5
        go_simp
      · exact below_set5 q5 (by omega)
  · have hT : Hid (tstE a b k s f g = boundE n k c f) := Lib.hid (by rw [HTE.out, if_pos h1])
    have h1' : (boundE n k c f != 0) = true := by simpa using h1
    generalize boundE n k c f = E1 at *
    have H1 := Lib.hid h1
    clear h1
    go_wp2_with fail
    refine cR.mono ?_
    rintro e w3 ⟨rfl, hb3⟩
    have q3 := below_trans q2' hb3
    obtain ⟨f0, f1, f2, f3, f4⟩ := five2'.on hb3
    have sz3 : w.heap.size + 1 + 1 < w3.heap.size := by have := hb3.size; omega
    go_wp2_with fail
    (try simp only [Exit.inBlock, Exit.then])
    refine bodyPost_ret (v := .tuple #[zero5, .slice none 0 0, .slice none 0 0, .int .i64 E1]) ?_ rfl (tsR_bad hT.out H1.out ?_)
    · rw [results_cell3 rfl]
      unfold zero5
      go_simp
    · exact below_alloc (below_set5 q3 (by omega)) _

theorem rTest_any (A B : Option Addr) (cA cB n m : Nat) (a b : List Bool) (k : Int) (s : Nat) (f g : Frc) (w : World) (ha : a.length = n) (hb : b.length = m) (hA : Arr 1 encB w w.heap.size A a) (hB : Arr 1 encB w w.heap.size B b) (hn : n ≤ 65536) (hf : f.In w) (hg : g.In w) :
    Calls Tryz.prog 7 #[.slice A n cA, .slice B m cB, .int .i64 k, .int .u64 s, f.val, g.val] w fun e w' => TsR w w' a b k s f g e := by
  by_cases h : n = m
  · subst h
    by_cases h2 : smE n k = 0
    · exact rTest_main A B cA cB n a b k s f g w ha hb hA hB hn h2 hf hg
    · exact rTest_bad2 A B cA cB n a b k s f g w ha hb h2
  · exact rTest_bad1 A B cA cB n m a b k s f g w ha hb h

end Go.Proofs.YtdngehgjbledfaaGreat
