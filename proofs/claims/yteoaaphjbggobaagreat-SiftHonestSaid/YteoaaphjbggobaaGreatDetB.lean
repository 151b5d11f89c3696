/- The detection of one slot. For at most three photons. -/
import Derived.Test.YteoaaphjbggobaaGreatDetA
namespace Go.Proofs.YteoaaphjbggobaaGreat
open Go.RowKit
set_option linter.unusedVariables false
set_option linter.unusedSimpArgs false

theorem clk_size : (Tryz.prog.info? 141).map (·.size) = some 2 := by kernel_rfl
/-- The clicks of two detectors behind the dark counts. -/
def drkX (dark : Int) (z : Bool × Bool × Nat) : Nat → Bool × Bool × Nat
  | 0 => z
  | 1 => (z.1 || chB z.2.2 dark, z.2.1, nxS z.2.2)
  | _ => (z.1 || chB z.2.2 dark, z.2.1 || chB (nxS z.2.2) dark, nxS (nxS z.2.2))
set_option maxRecDepth 100000 in
set_option maxHeartbeats 16000000 in
theorem click_any (b s : Nat) (o : Opt) (x : Lgt) (w : World) (h : DrwAt w b s) (hp : x.br = false → x.ph ≤ 3) : Calls Tryz.prog 102 #[o.val, .agg #[.int .i64 x.ph, .int .i64 x.basis, .bool x.bit, .bool x.br], .pointer (some ⟨b, 0, none⟩)] w fun e w' =>
    e = .returned (.agg #[.int .i64 (clkX o.eta o.dark x s).1.basis, .int .i64 (clkX o.eta o.dark x s).1.kind]) ∧ DrwAt w' b (clkX o.eta o.dark x s).2 ∧ w.grownBy w' (some b) := by
  obtain ⟨V, hV⟩ : ∃ V, clkX o.eta o.dark x s = V := ⟨_, rfl⟩
  rw [hV]
  have HV := Lib.hid hV
  clear hV
  unfold Opt.val Opt.cs
  have D3 : DrwAt (((w.alloc (.cells o.cs 68)).alloc (.cells #[.int .i64 x.ph, .int .i64 x.basis, .bool x.bit, .bool x.br] 196)).alloc (.cells #[.int .i64 0, .int .i64 0] 141)) b s :=
    ((h.keep (row := none) (World.grownBy_alloc _ _ none) (by simp)).keep (row := none) (World.grownBy_alloc _ _ none) (by simp)).keep (row := none) (World.grownBy_alloc _ _ none) (by simp)
  have cB := obel_any b s 2 _ D3 (by decide) (by decide)
  unfold Opt.cs at cB
  go_enter Tryz.func102, Tryz.ntmps102
  go_wp2_with fail
  refine cB.mono ?_
  rintro e w2 ⟨rfl, D2, g2⟩
  have J0 := KJ.new w b s (nxS s) o x ((nxY s % 2 : Nat) : Int) h D2 g2
  clear cB D3 D2 g2
  obtain ⟨q, hq⟩ : ∃ q, nxY s % 2 = q := ⟨_, rfl⟩
  obtain ⟨s1, hs1⟩ : ∃ q, nxS s = q := ⟨_, rfl⟩
  rw [hq]
  rw [hq, hs1] at J0
  have Hq := Lib.hid hq; have Hs1 := Lib.hid hs1
  clear hq hs1
  go_upto_region 3 with fail
  obtain ⟨W, hW⟩ : ∃ W, (w2.alloc (.cells #[.int .i64 q, .int .i64 0] 141)).alloc (.cells #[.bool false, .bool false] 241) = W := ⟨_, rfl⟩
  rw [hW] at J0 ⊢
  clear hW
  obtain ⟨O, hO⟩ : ∃ O, w.heap.size = O := ⟨_, rfl⟩
  obtain ⟨L, hL⟩ : ∃ O, w.heap.size + 1 = O := ⟨_, rfl⟩
  obtain ⟨R, hR⟩ : ∃ O, w.heap.size + 1 + 1 = O := ⟨_, rfl⟩
  obtain ⟨C, hC⟩ : ∃ O, w2.heap.size = O := ⟨_, rfl⟩
  obtain ⟨F, hF⟩ : ∃ O, w2.heap.size + 1 = O := ⟨_, rfl⟩
  rw [hR, hL, hO, hF, hC] at J0 ⊢
  clear hO hL hR hC hF h
  obtain ⟨PV, hPV⟩ : ∃ PV, Value.agg #[.int .i64 x.ph, .int .i64 x.basis, .bool x.bit, .bool x.br] = PV := ⟨_, rfl⟩
  rw [hPV]
  clear hPV
  have yb := J0.l3
  go_upto_if 16 with fail
  go_cut [] (fun wx => ∃ (f0 f1 : Bool) (s9 : Nat), Hid (clkX o.eta o.dark x s = (⟨(q : Int), kindX f0 f1⟩, s9)) ∧ KJ w wx b s9 O L R C F o x q 0 f0 f1)
  case first =>
    rcases (Bool.eq_false_or_eq_true x.br).symm with hbr | hbr
    · rw [hbr] at yb ⊢
      have hp3 := hp hbr
      have y0 := J0.l0
      obtain ⟨xb, hxb⟩ : ∃ t, x.basis = t := ⟨_, rfl⟩
      obtain ⟨xt, hxt⟩ : ∃ t, x.bit = t := ⟨_, rfl⟩
      have Hxb := Lib.hid hxb; have Hxt := Lib.hid hxt
      have Hbr := Lib.hid hbr
      clear hxb hxt hbr hp
      obtain ⟨sm, hsm⟩ : ∃ t, decide ((q : Int) = x.basis) = t := ⟨_, rfl⟩
      have Hsm := Lib.hid hsm
      have hqb : Hid (((q : Int) != xb) = !sm) := Lib.hid (by rw [← hsm, Hxb.out]; by_cases h9 : (q : Int) = xb <;> simp [h9])
      clear hsm
      go_wp2_with fail
      go_loopw [9, 28] (fun at_ i wr => ∃ (u9 : Value) (j s9 : Nat) (z0 z1 : Bool), j ≤ x.ph ∧ at_ = u9 ∧ i = .int .i64 j ∧ Hid (firX o.eta sm x.bit s1 j = (z0, z1, s9)) ∧ KJ w wr b s9 O L R C F o x q 0 z0 z1) (fun _ i _ => x.ph - (intOf i).toNat)
      case atStart => exact ⟨_, 0, s1, false, false, Nat.zero_le _, rfl, rfl, Lib.hid rfl, J0⟩
      case round =>
        clear J0 y0 yb
        obtain ⟨u9, j, s9, z0, z1, hj, rfl, rfl, hz, J⟩ := hrel
        obtain ⟨wi, rfl⟩ : ∃ wi, wi = wr := ⟨_, rfl⟩
        rcases Nat.lt_or_ge j x.ph with hjl | hge
        · have cC := chance_any b s9 o.eta wi J.d
          have yx := J.o_.x16
          have hst : Hid (firX o.eta sm x.bit s1 (j + 1) = if chB s9 o.eta = true then (if sm = true then (z0 || !x.bit, z1 || x.bit, nxS s9) else (z0 || decide (nxY (nxS s9) % 2 = 0), z1 || decide (nxY (nxS s9) % 2 = 1), nxS (nxS s9))) else (z0, z1, nxS s9)) := Lib.hid (by rw [firX, hz.out])
          obtain ⟨u, hu⟩ : ∃ u, chB s9 o.eta = u := ⟨_, rfl⟩
          rw [hu] at cC hst
          clear hu
          go_wp2_with fail
          refine cC.mono ?_
          rintro e w5 ⟨rfl, D5, g5⟩
          have J5 := J.step D5 g5
          clear J cC yx D5 g5
          cases u
          · have hs2 : Hid (firX o.eta sm x.bit s1 (j + 1) = (z0, z1, nxS s9)) := Lib.hid (by rw [hst.out, if_neg (by simp)])
            go_wp2_with fail
            exact ⟨⟨_, j + 1, nxS s9, z0, z1, by omega, rfl, by go_num, hs2, J5⟩, by simp [intOf]; omega⟩
          · have y2 := J5.l2
            have y1 := J5.l1
            have c0 := J5.c0
            have g0 := J5.ff 0; have g1 := J5.ff 1
            have h0 := J5.d0; have h1 := J5.d1
            rw [Hxt.out] at y2
            rw [Hxb.out] at y1
            cases sm
            · have d1 : ((q : Int) != xb) = true := hqb.out
              have cS := side_any xt w5
              obtain ⟨at0, hat0⟩ : ∃ n : Int, (if xt = true then 1 else 0) = n := ⟨_, rfl⟩
              rw [hat0] at cS
              clear hat0
              have cB := obel_any b (nxS s9) 2 w5 J5.d (by decide) (by decide)
              obtain ⟨r, hr⟩ : ∃ r, nxY (nxS s9) % 2 = r := ⟨_, rfl⟩
              have hr2 : r < 2 := by rw [← hr]; exact Nat.mod_lt _ (by decide)
              rw [hr] at cB hst
              have hs2 : Hid (firX o.eta false x.bit s1 (j + 1) = (z0 || decide (r = 0), z1 || decide (r = 1), nxS (nxS s9))) := Lib.hid (by rw [hst.out, if_pos rfl, if_neg (by simp)])
              clear hr hst
              go_upto_region 10 with (go_at_call 150; refine cS.mono ?_; rintro e w' ⟨rfl, rfl⟩)
              go_wp2_with fail
              refine cB.mono ?_
              rintro e w6 ⟨rfl, D6, g6⟩
              have J6 := J5.step D6 g6
              clear cB cS J5 D6 g6 y1 y2 c0 g0 g1 h0 h1 d1
              have g0 := J6.ff 0; have g1 := J6.ff 1
              have h0 := J6.d0; have h1 := J6.d1
              rcases (show r = 0 ∨ r = 1 by omega) with rfl | rfl
              · have J7 := J6.setF 0 (.bool true) (e0 := true) (e1 := z1) rfl
                have hs3 : Hid (firX o.eta false x.bit s1 (j + 1) = (true, z1, nxS (nxS s9))) := Lib.hid (by rw [hs2.out]; simp)
                clear hs2 J6 hr2
                go_wp2_with fail
                exact ⟨⟨_, j + 1, _, true, z1, by omega, rfl, by go_num, hs3, J7⟩, by simp [intOf]; omega⟩
              · have J7 := J6.setF 1 (.bool true) (e0 := z0) (e1 := true) rfl
                have hs3 : Hid (firX o.eta false x.bit s1 (j + 1) = (z0, true, nxS (nxS s9))) := Lib.hid (by rw [hs2.out]; simp)
                clear hs2 J6 hr2
                go_wp2_with fail
                exact ⟨⟨_, j + 1, _, z0, true, by omega, rfl, by go_num, hs3, J7⟩, by simp [intOf]; omega⟩
            · have d1 : ((q : Int) != xb) = false := hqb.out
              have cS := side_any xt w5
              have hs2 : Hid (firX o.eta true x.bit s1 (j + 1) = (z0 || !xt, z1 || xt, nxS s9)) := Lib.hid (by rw [hst.out, if_pos rfl, if_pos rfl, Hxt.out])
              clear hst
              cases xt
              · have J6 := J5.setF 0 (.bool true) (e0 := true) (e1 := z1) rfl
                have hs3 : Hid (firX o.eta true x.bit s1 (j + 1) = (true, z1, nxS s9)) := Lib.hid (by rw [hs2.out]; simp)
                clear hs2 J5
                go_wp2_with (go_at_call 150; refine cS.mono ?_; rintro e w' ⟨rfl, rfl⟩)
                exact ⟨⟨_, j + 1, _, true, z1, by omega, rfl, by go_num, hs3, J6⟩, by simp [intOf]; omega⟩
              · have J6 := J5.setF 1 (.bool true) (e0 := z0) (e1 := true) rfl
                have hs3 : Hid (firX o.eta true x.bit s1 (j + 1) = (z0, true, nxS s9)) := Lib.hid (by rw [hs2.out]; simp)
                clear hs2 J5
                go_wp2_with (go_at_call 150; refine cS.mono ?_; rintro e w' ⟨rfl, rfl⟩)
                exact ⟨⟨_, j + 1, _, z0, true, by omega, rfl, by go_num, hs3, J6⟩, by simp [intOf]; omega⟩
        · obtain rfl : j = x.ph := by omega
          go_wp2_with fail
          go_loopw [10, 11, 48] (fun a_ d_ i wr => ∃ (ua ud : Value) (j s8 : Nat) (e0 e1 : Bool), j ≤ 2 ∧ a_ = ua ∧ d_ = ud ∧ i = .int .i64 j ∧ Hid (drkX o.dark (z0, z1, s9) j = (e0, e1, s8)) ∧ KJ w wr b s8 O L R C F o x q 0 e0 e1) (fun _ _ i _ => 2 - (intOf i).toNat)
          case atStart => exact ⟨_, _, 0, s9, z0, z1, by omega, rfl, rfl, rfl, Lib.hid rfl, J⟩
          case round =>
            clear J
            obtain ⟨ua, ud, j, s8, e0, e1, hj2, rfl, rfl, rfl, hd, J⟩ := hrel
            obtain ⟨wk, rfl⟩ : ∃ wk, wk = wr := ⟨_, rfl⟩
            rcases (show j = 0 ∨ j = 1 ∨ j = 2 by omega) with rfl | rfl | rfl
            · have cC := chance_any b s8 o.dark wk J.d
              have yx := J.o_.x17
              have hst : Hid (drkX o.dark (z0, z1, s9) 1 = (e0 || chB s8 o.dark, e1, nxS s8)) := Lib.hid (by have := hd.out; simp only [drkX] at this ⊢; cases this; rfl)
              obtain ⟨u, hu⟩ : ∃ u, chB s8 o.dark = u := ⟨_, rfl⟩
              rw [hu] at cC hst
              clear hu
              go_wp2_with fail
              refine cC.mono ?_
              rintro e w6 ⟨rfl, D6, g6⟩
              have J6 := J.step D6 g6
              clear J cC yx D6 g6
              have g0 := J6.ff 0
              have h0 := J6.d0
              have J7 := J6.setF 0 (.bool (e0 || u)) (e0 := e0 || u) (e1 := e1) rfl
              clear J6
              cases e0 <;> cases u
              all_goals (
                go_wp2_with fail
                exact ⟨⟨_, _, 1, _, _, _, by omega, rfl, rfl, by go_num, hst, J7⟩, by simp [intOf]⟩)
            · have cC := chance_any b s8 o.dark wk J.d
              have yx := J.o_.x17
              have hst : Hid (drkX o.dark (z0, z1, s9) 2 = (e0, e1 || chB s8 o.dark, nxS s8)) := Lib.hid (by have := hd.out; simp only [drkX] at this ⊢; cases this; rfl)
              obtain ⟨u, hu⟩ : ∃ u, chB s8 o.dark = u := ⟨_, rfl⟩
              rw [hu] at cC hst
              clear hu
              go_wp2_with fail
              refine cC.mono ?_
              rintro e w6 ⟨rfl, D6, g6⟩
              have J6 := J.step D6 g6
              clear J cC yx D6 g6
              have g0 := J6.ff 1
              have h0 := J6.d1
              have J7 := J6.setF 1 (.bool (e1 || u)) (e0 := e0) (e1 := e1 || u) rfl
              clear J6
              cases e1 <;> cases u
              all_goals (
                go_wp2_with fail
                exact ⟨⟨_, _, 2, _, _, _, by omega, rfl, rfl, by go_num, hst, J7⟩, by simp [intOf]⟩)
            · have hv : Hid (clkX o.eta o.dark x s = (⟨(q : Int), kindX e0 e1⟩, s8)) := Lib.hid (by
                have h1 := hd.out
                simp only [drkX] at h1
                unfold clkX
                rw [if_neg (by rw [Hbr.out]; simp), Hq.out, Hs1.out, Hsm.out, hz.out]
                cases h1
                rfl)
              go_wp2_with fail
              go_meet
              case rel => exact ⟨e0, e1, s8, hv, J⟩
    · rw [hbr] at yb ⊢
      have y1 := J0.l1
      have y2 := J0.l2
      have z0 := J0.c0
      have g0 := J0.ff 0; have g1 := J0.ff 1
      have h0 := J0.d0; have h1 := J0.d1
      obtain ⟨eqb, he⟩ : ∃ t, ((q : Int) == x.basis) = t := ⟨_, rfl⟩
      obtain ⟨xb, hxb⟩ : ∃ t, x.basis = t := ⟨_, rfl⟩
      cases hbt : x.bit
      · have hv : Hid (clkX o.eta o.dark x s = (⟨(q : Int), kindX eqb false⟩, s1)) := Lib.hid (by
          unfold clkX
          rw [if_pos hbr, Hq.out, Hs1.out, hbt, ← he]
          by_cases h9 : (q : Int) = x.basis <;> simp [h9, kindX])
        rw [hbt] at y2
        have he2 : ((q : Int) == xb) = eqb := by rw [← hxb]; exact he
        rw [hxb] at y1
        have cS := side_any false W.drew
        have J1 := (J0.drew).setF 0 (.bool eqb) (e0 := eqb) (e1 := false) rfl
        clear hp J0 he hxb
        go_wp2_with fail
        go_region_with (go_at_call 150; refine cS.mono ?_; rintro e w' ⟨rfl, rfl⟩)
        all_goals (
          go_wp2_with fail
          go_meet
          case rel => exact ⟨eqb, false, s1, hv, J1⟩)
      · have hv : Hid (clkX o.eta o.dark x s = (⟨(q : Int), kindX false eqb⟩, s1)) := Lib.hid (by
          unfold clkX
          rw [if_pos hbr, Hq.out, Hs1.out, hbt, ← he]
          by_cases h9 : (q : Int) = x.basis <;> simp [h9, kindX])
        rw [hbt] at y2
        have he2 : ((q : Int) == xb) = eqb := by rw [← hxb]; exact he
        rw [hxb] at y1
        have cS := side_any true W.drew
        have J1 := (J0.drew).setF 1 (.bool eqb) (e0 := false) (e1 := eqb) rfl
        clear hp J0 he hxb
        go_wp2_with fail
        go_region_with (go_at_call 150; refine cS.mono ?_; rintro e w' ⟨rfl, rfl⟩)
        all_goals (
          go_wp2_with fail
          go_meet
          case rel => exact ⟨false, eqb, s1, hv, J1⟩)
  case rest =>
    clear yb J0 hp
    obtain ⟨f0, f1, s9, hv, J⟩ := hcut
    cases f0 <;> cases f1
    · have y0 : wc.cell? ⟨F, 0, none⟩ = some (.bool false) := J.d0
      have y1 : wc.cell? ⟨F, 1, none⟩ = some (.bool false) := J.d1
      have c1 : wc.cell? ⟨C, 1, none⟩ = some (.int .i64 0) := J.c1
      have cf := J.cf 1
      go_upto_region 23 with fail
      clear y1 c1 cf
      have c0 := J.c0
      have c1 : wc.cell? ⟨C, 1, none⟩ = some (.int .i64 0) := J.c1
      have r0 := J.r0; have r1 := J.r1; have rf0 := J.rf 0; have rf1 := J.rf 1
      have JF := J.fin (.int .i64 q) (.int .i64 0)
      have hW := HV.out.symm.trans hv.out
      go_wp2_with fail
      (try simp only [Exit.inBlock, Exit.then])
      subst hW
      refine bodyPost_ret (v := .agg #[.int .i64 q, .int .i64 0]) ?_ rfl ⟨rfl, JF.1, JF.2.1⟩
      exact results_cell_row rfl _ _ R _ _ _ _ rfl JF.2.2 Tryz.underlying141 rfl clk_size
    · have y0 : wc.cell? ⟨F, 0, none⟩ = some (.bool false) := J.d0
      have y1 : wc.cell? ⟨F, 1, none⟩ = some (.bool true) := J.d1
      have c1 : wc.cell? ⟨C, 1, none⟩ = some (.int .i64 0) := J.c1
      have cf := J.cf 1
      have J2 := J.setC 2
      go_upto_region 23 with fail
      obtain ⟨u2, hu2⟩ : ∃ u, wc.setCell ⟨C, 1, none⟩ (.int .i64 2) = u := ⟨_, rfl⟩
      rw [hu2] at J2 ⊢
      clear hu2 y1 c1 cf
      have c0 := J2.c0
      have c1 : u2.cell? ⟨C, 1, none⟩ = some (.int .i64 2) := J2.c1
      have r0 := J2.r0; have r1 := J2.r1; have rf0 := J2.rf 0; have rf1 := J2.rf 1
      have JF := J2.fin (.int .i64 q) (.int .i64 2)
      have hW := HV.out.symm.trans hv.out
      go_wp2_with fail
      (try simp only [Exit.inBlock, Exit.then])
      subst hW
      refine bodyPost_ret (v := .agg #[.int .i64 q, .int .i64 2]) ?_ rfl ⟨rfl, JF.1, JF.2.1⟩
      exact results_cell_row rfl _ _ R _ _ _ _ rfl JF.2.2 Tryz.underlying141 rfl clk_size
    · have y0 : wc.cell? ⟨F, 0, none⟩ = some (.bool true) := J.d0
      have y1 : wc.cell? ⟨F, 1, none⟩ = some (.bool false) := J.d1
      have c1 : wc.cell? ⟨C, 1, none⟩ = some (.int .i64 0) := J.c1
      have cf := J.cf 1
      have J1 := J.setC 1
      go_upto_region 21 with fail
      obtain ⟨u1, hu1⟩ : ∃ u, wc.setCell ⟨C, 1, none⟩ (.int .i64 1) = u := ⟨_, rfl⟩
      rw [hu1] at J1 ⊢
      clear hu1 y0 y1 c1 cf
      have y1 : u1.cell? ⟨F, 1, none⟩ = some (.bool false) := J1.d1
      have c1 : u1.cell? ⟨C, 1, none⟩ = some (.int .i64 1) := J1.c1
      have cf := J1.cf 1
      go_upto_region 23 with fail
      clear y1 c1 cf
      have c0 := J1.c0
      have c1 : u1.cell? ⟨C, 1, none⟩ = some (.int .i64 1) := J1.c1
      have r0 := J1.r0; have r1 := J1.r1; have rf0 := J1.rf 0; have rf1 := J1.rf 1
      have JF := J1.fin (.int .i64 q) (.int .i64 1)
      have hW := HV.out.symm.trans hv.out
      go_wp2_with fail
      (try simp only [Exit.inBlock, Exit.then])
      subst hW
      refine bodyPost_ret (v := .agg #[.int .i64 q, .int .i64 1]) ?_ rfl ⟨rfl, JF.1, JF.2.1⟩
      exact results_cell_row rfl _ _ R _ _ _ _ rfl JF.2.2 Tryz.underlying141 rfl clk_size
    · have y0 : wc.cell? ⟨F, 0, none⟩ = some (.bool true) := J.d0
      have y1 : wc.cell? ⟨F, 1, none⟩ = some (.bool true) := J.d1
      have c1 : wc.cell? ⟨C, 1, none⟩ = some (.int .i64 0) := J.c1
      have cf := J.cf 1
      have J1 := J.setC 1
      go_upto_region 21 with fail
      obtain ⟨u1, hu1⟩ : ∃ u, wc.setCell ⟨C, 1, none⟩ (.int .i64 1) = u := ⟨_, rfl⟩
      rw [hu1] at J1 ⊢
      clear hu1 y0 y1 c1 cf
      have y1 : u1.cell? ⟨F, 1, none⟩ = some (.bool true) := J1.d1
      have c1 : u1.cell? ⟨C, 1, none⟩ = some (.int .i64 1) := J1.c1
      have cf := J1.cf 1
      have J2 := J1.setC 3
      go_upto_region 23 with fail
      obtain ⟨u2, hu2⟩ : ∃ u, u1.setCell ⟨C, 1, none⟩ (.int .i64 3) = u := ⟨_, rfl⟩
      rw [hu2] at J2 ⊢
      clear hu2 y1 c1 cf
      have c0 := J2.c0
      have c1 : u2.cell? ⟨C, 1, none⟩ = some (.int .i64 3) := J2.c1
      have r0 := J2.r0; have r1 := J2.r1; have rf0 := J2.rf 0; have rf1 := J2.rf 1
      have JF := J2.fin (.int .i64 q) (.int .i64 3)
      have hW := HV.out.symm.trans hv.out
      go_wp2_with fail
      (try simp only [Exit.inBlock, Exit.then])
      subst hW
      refine bodyPost_ret (v := .agg #[.int .i64 q, .int .i64 3]) ?_ rfl ⟨rfl, JF.1, JF.2.1⟩
      exact results_cell_row rfl _ _ R _ _ _ _ rfl JF.2.2 Tryz.underlying141 rfl clk_size

end Go.Proofs.YteoaaphjbggobaaGreat
