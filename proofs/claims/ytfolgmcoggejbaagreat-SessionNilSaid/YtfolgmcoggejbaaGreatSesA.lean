/- Contracts of both sides' Check of a setup. For any setup whose fractions have at most 900000 limbs. -/
import Derived.Test.YtfolgmcoggejbaaGreatSesP
import Derived.Test.YtfolgmcoggejbaaGreatRefAll
import Derived.Test.YtfolgmcoggejbaaGreatStpA
import Derived.Great.Walk
import Derived.Deep.WholeRow
namespace Go.Proofs.YtfolgmcoggejbaaGreat
open Go.RowKit
set_option linter.unusedVariables false
set_option linter.unusedSimpArgs false

theorem cmpI_ge {n m : Nat} : cmpI n m ≥ 0 ↔ ¬ n < m := by
  unfold cmpI
  constructor
  · intro h hlt; rw [if_pos hlt] at h; omega
  · intro h; rw [if_neg h]; split <;> omega
theorem valid_len {f : Frc} (h : validE [f] = 0) : f.l.length ≤ 64 ∧ f.m.length ≤ 64 := by
  have hg : f.lng = false := by
    cases h1 : f.lng with
    | false => rfl
    | true => unfold validE at h; simp [h1] at h
  have := long2E_zero.1 (lng_iff.1 hg)
  exact this

set_option maxRecDepth 100000 in
set_option maxHeartbeats 8000000 in
theorem oStp_any (s : Stp) (w : World) (h : s.In w) : Calls Tryz.prog 145 #[s.val] w fun e w' => e = .returned (.int .i64 (stpE s)) ∧ Below w.heap.size w w' := by
  have cO := fun w' => oCheck_any s.o w'
  have cS := fun w' => oSuits_any s.o w'
  have cL := fun w' (hb : Below w.heap.size w w') => CheckFrac_any s.lim w' (h.l.on hb)
  have cE := fun w' (hb : Below w.heap.size w w') => CheckFrac_any s.eps w' (h.e.on hb)
  have cC := fun w' (hb : Below w.heap.size w w') hl hm => Compare_any s.eps.A s.eps.c s.eps.l s.eps.C s.eps.d s.eps.m w' (h.e.on hb).n (h.e.on hb).d hl hm
  have hE : Hid (stpE s = if (lightB s && (countB s && (restB s && fracB s))) = true then 0 else 2) := Lib.hid rfl
  have q0 := below_alloc (Below.refl w.heap.size w) (.cells s.cs 69)
  have At0 := StpAt.new w s
  unfold Stp.val
  unfold Opt.val at cO cS
  unfold Frc.val at cL cE
  obtain ⟨E1, hE1⟩ : ∃ E, optE s.o = E := ⟨_, rfl⟩
  obtain ⟨E2, hE2⟩ : ∃ E, suitE s.o = E := ⟨_, rfl⟩
  obtain ⟨E3, hE3⟩ : ∃ E, validE [s.lim] = E := ⟨_, rfl⟩
  obtain ⟨E4, hE4⟩ : ∃ E, validE [s.eps] = E := ⟨_, rfl⟩
  have hl : Hid (lightB s = ((E1 == 0) && (s.o.k != 1 || (E2 == 0)))) := Lib.hid (by unfold lightB; rw [hE1, hE2])
  have hf : Hid (fracB s = ((E3 == 0) && ((E4 == 0) && decide (V s.eps.l < V s.eps.m)))) := Lib.hid (by unfold fracB; rw [hE3, hE4])
  have hlen : E4 = 0 → s.eps.l.length ≤ 64 ∧ s.eps.m.length ≤ 64 := fun h0 => valid_len (hE4.trans h0)
  simp only [hE1] at cO
  simp only [hE2] at cS
  simp only [hE3] at cL
  simp only [hE4] at cE
  have Hlen := Lib.hid hlen
  clear hE1 hE2 hE3 hE4 hlen
  go_enter Tryz.func145, Tryz.ntmps145
  go_upto_region 1 with fail
  obtain ⟨W, hW⟩ : ∃ W, w.alloc (.cells s.cs 69) = W := ⟨_, rfl⟩
  rw [hW] at q0 At0 ⊢
  clear hW
  go_cut [3] (fun v wx => v = .bool (lightB s) ∧ Below W.heap.size W wx)
  case first =>
    go_wp2_with (refine wpList_load_at 67 _ rfl w.heap.size 0 rfl s.o.cs _ At0.opt Tryz.underlying67 rfl (by kernel_rfl) (by rfl) ?_)
    refine (cO _).mono ?_
    rintro e w1 ⟨rfl, hb1⟩
    have At1 := At0.on hb1
    have x0 : w1.cell? ⟨w.heap.size, 0, none⟩ = some (.int .i64 s.o.k) := At1.c 0
    cases b1 : (E1 == 0)
    · go_wp2_with fail
      go_meet
      case rel => exact ⟨congrArg Value.bool (by rw [hl.out, b1]; rfl), hb1⟩
    · cases b2 : (s.o.k != 1)
      · go_wp2_with (refine wpList_load_at 67 _ rfl w.heap.size 0 rfl s.o.cs _ At1.opt Tryz.underlying67 rfl (by kernel_rfl) (by rfl) ?_)
        refine (cS _).mono ?_
        rintro e w2 ⟨rfl, hb2⟩
        cases b3 : (E2 == 0)
        all_goals (
          go_wp2_with fail
          go_meet
          case rel => exact ⟨congrArg Value.bool (by rw [hl.out, b1, b2, b3]; rfl), below_trans hb1 hb2⟩)
      · go_wp2_with fail
        go_meet
        case rel => exact ⟨congrArg Value.bool (by rw [hl.out, b1, b2]; rfl), hb1⟩
  obtain ⟨rfl, hbc⟩ := hcut
  obtain ⟨w3, rfl⟩ : ∃ w3, w3 = wc := ⟨_, rfl⟩
  have At3 := At0.on hbc
  have x18 : w3.cell? ⟨w.heap.size, 18, none⟩ = some (.int .i64 s.slots) := At3.c 18
  have x19 : w3.cell? ⟨w.heap.size, 19, none⟩ = some (.int .i64 s.head) := At3.c 19
  have x20 : w3.cell? ⟨w.heap.size, 20, none⟩ = some (.int .i64 s.need) := At3.c 20
  have x21 : w3.cell? ⟨w.heap.size, 21, none⟩ = some (.int .i64 s.block) := At3.c 21
  have x22 : w3.cell? ⟨w.heap.size, 22, none⟩ = some (.int .i64 s.sample) := At3.c 22
  go_upto_region 2 with fail
  go_cut [4] (fun v wx => v = .bool (countB s) ∧ wx = w3)
  case first =>
    have hC : Hid (countB s = (betwB s.slots 1 4000 && (betwB s.head 0 s.slots && (betwB s.need 0 4096 && (betwB s.block 1 512 && betwB s.sample 0 (s.block - 1)))))) := Lib.hid rfl
    cases c1 : betwB s.slots 1 4000
    · go_wp2_with (go_at_call 61; refine (ssane_any _ _ _ _).mono ?_; rintro e w' ⟨rfl, rfl⟩; (first | rw [c1] | rw [c2] | rw [c3] | rw [c4] | rw [c5]))
      go_meet
      case rel => exact ⟨congrArg Value.bool (by rw [hC.out, c1]; rfl), rfl⟩
    ·
      cases c2 : betwB s.head 0 s.slots
      · go_wp2_with (go_at_call 61; refine (ssane_any _ _ _ _).mono ?_; rintro e w' ⟨rfl, rfl⟩; (first | rw [c1] | rw [c2] | rw [c3] | rw [c4] | rw [c5]))
        go_meet
        case rel => exact ⟨congrArg Value.bool (by rw [hC.out, c1, c2]; rfl), rfl⟩
      ·
        cases c3 : betwB s.need 0 4096
        · go_wp2_with (go_at_call 61; refine (ssane_any _ _ _ _).mono ?_; rintro e w' ⟨rfl, rfl⟩; (first | rw [c1] | rw [c2] | rw [c3] | rw [c4] | rw [c5]))
          go_meet
          case rel => exact ⟨congrArg Value.bool (by rw [hC.out, c1, c2, c3]; rfl), rfl⟩
        ·
          cases c4 : betwB s.block 1 512
          · go_wp2_with (go_at_call 61; refine (ssane_any _ _ _ _).mono ?_; rintro e w' ⟨rfl, rfl⟩; (first | rw [c1] | rw [c2] | rw [c3] | rw [c4] | rw [c5]))
            go_meet
            case rel => exact ⟨congrArg Value.bool (by rw [hC.out, c1, c2, c3, c4]; rfl), rfl⟩
          ·
            have hbk : 1 ≤ s.block ∧ s.block ≤ 512 := by simpa [betwB] using c4
            cases c5 : betwB s.sample 0 (s.block - 1)
            · go_wp2_with (go_at_call 61; refine (ssane_any _ _ _ _).mono ?_; rintro e w' ⟨rfl, rfl⟩; (first | rw [c1] | rw [c2] | rw [c3] | rw [c4] | rw [c5]))
              go_meet
              case rel => exact ⟨congrArg Value.bool (by rw [hC.out, c1, c2, c3, c4, c5]; rfl), rfl⟩
            ·
              go_wp2_with (go_at_call 61; refine (ssane_any _ _ _ _).mono ?_; rintro e w' ⟨rfl, rfl⟩; (first | rw [c1] | rw [c2] | rw [c3] | rw [c4] | rw [c5]))
              go_meet
              case rel => exact ⟨congrArg Value.bool (by rw [hC.out, c1, c2, c3, c4, c5]; rfl), rfl⟩
  obtain ⟨rfl, rfl⟩ := hcut
  clear x18 x19 x20 x21 x22
  have x27 : wc.cell? ⟨w.heap.size, 27, none⟩ = some (.int .i64 s.passes) := At3.c 27
  have x28 : wc.cell? ⟨w.heap.size, 28, none⟩ = some (.int .i64 s.pblk) := At3.c 28
  have x29 : wc.cell? ⟨w.heap.size, 29, none⟩ = some (.int .u64 s.pseed) := At3.c 29
  go_upto_region 3 with fail
  go_cut [5] (fun v wx => v = .bool (restB s) ∧ Below wc.heap.size wc wx)
  case first =>
    have hR : Hid (restB s = (planB s.passes s.pblk && (wideB s.width && (betwB s.margin 0 512 && betwB s.tries 1 100)))) := Lib.hid rfl
    have cP := plan_any s.passes s.pblk s.pseed wc
    go_wp2_with fail
    refine cP.mono ?_
    rintro e w4 ⟨rfl, hb4⟩
    have At4 := At3.on hb4
    have x30 : w4.cell? ⟨w.heap.size, 30, none⟩ = some (.int .i64 s.width) := At4.c 30
    have x31 : w4.cell? ⟨w.heap.size, 31, none⟩ = some (.int .i64 s.margin) := At4.c 31
    have x32 : w4.cell? ⟨w.heap.size, 32, none⟩ = some (.int .i64 s.tries) := At4.c 32
    clear x27 x28 x29 cP
    cases r1 : planB s.passes s.pblk
    · have p1 : planE s.passes s.pblk = 2 := by unfold planE; rw [r1]; rfl
      rw [p1]
      go_wp2_with fail
      go_meet
      case rel => exact ⟨congrArg Value.bool (by rw [hR.out, r1]; rfl), hb4⟩
    · have p1 : planE s.passes s.pblk = 0 := by unfold planE; rw [r1]; rfl
      rw [p1]
      cases r2 : wideB s.width
      · go_wp2_with (first | (go_at_call 61; refine (ssane_any _ _ _ _).mono ?_; rintro e w' ⟨rfl, rfl⟩; (first | rw [r3] | rw [r4])) | (go_at_call 199; refine (wide_any _ _).mono ?_; rintro e w' ⟨rfl, rfl⟩; rw [r2]))
        go_meet
        case rel => exact ⟨congrArg Value.bool (by rw [hR.out, r1, r2]; rfl), hb4⟩
      ·
        cases r3 : betwB s.margin 0 512
        · go_wp2_with (first | (go_at_call 61; refine (ssane_any _ _ _ _).mono ?_; rintro e w' ⟨rfl, rfl⟩; (first | rw [r3] | rw [r4])) | (go_at_call 199; refine (wide_any _ _).mono ?_; rintro e w' ⟨rfl, rfl⟩; rw [r2]))
          go_meet
          case rel => exact ⟨congrArg Value.bool (by rw [hR.out, r1, r2, r3]; rfl), hb4⟩
        ·
          cases r4 : betwB s.tries 1 100
          · go_wp2_with (first | (go_at_call 61; refine (ssane_any _ _ _ _).mono ?_; rintro e w' ⟨rfl, rfl⟩; (first | rw [r3] | rw [r4])) | (go_at_call 199; refine (wide_any _ _).mono ?_; rintro e w' ⟨rfl, rfl⟩; rw [r2]))
            go_meet
            case rel => exact ⟨congrArg Value.bool (by rw [hR.out, r1, r2, r3, r4]; rfl), hb4⟩
          ·
            go_wp2_with (first | (go_at_call 61; refine (ssane_any _ _ _ _).mono ?_; rintro e w' ⟨rfl, rfl⟩; (first | rw [r3] | rw [r4])) | (go_at_call 199; refine (wide_any _ _).mono ?_; rintro e w' ⟨rfl, rfl⟩; rw [r2]))
            go_meet
            case rel => exact ⟨congrArg Value.bool (by rw [hR.out, r1, r2, r3, r4]; rfl), hb4⟩
  obtain ⟨rfl, hb5⟩ := hcut
  obtain ⟨w5, rfl⟩ : ∃ w5, w5 = wc := ⟨_, rfl⟩
  have At5 := At3.on hb5
  have q5 := below_trans q0 (below_trans hbc hb5)
  clear x27 x28 x29 hl
  have x23 : w5.cell? ⟨w.heap.size, 23, none⟩ = some (.slice s.eps.A s.eps.l.length s.eps.c) := At5.c 23
  have x24 : w5.cell? ⟨w.heap.size, 24, none⟩ = some (.slice s.eps.C s.eps.m.length s.eps.d) := At5.c 24
  have x25 : w5.cell? ⟨w.heap.size, 25, none⟩ = some (.slice s.lim.A s.lim.l.length s.lim.c) := At5.c 25
  have x26 : w5.cell? ⟨w.heap.size, 26, none⟩ = some (.slice s.lim.C s.lim.m.length s.lim.d) := At5.c 26
  go_upto_region 4 with fail
  cases l1 : lightB s
  · go_wp2_with fail
    go_ret
    exact ⟨ret_int (by rw [hE.out, l1]; rfl), q5⟩
  cases l2 : countB s
  · go_wp2_with fail
    go_ret
    exact ⟨ret_int (by rw [hE.out, l1, l2]; rfl), q5⟩
  cases l3 : restB s
  · go_wp2_with fail
    go_ret
    exact ⟨ret_int (by rw [hE.out, l1, l2, l3]; rfl), q5⟩
  go_wp2_with fail
  refine (cL _ q5).mono ?_
  rintro e w6 ⟨rfl, hb6⟩
  have At6 := At5.on hb6
  have q6 := below_trans q5 hb6
  clear x23 x24 x25 x26
  have x23 : w6.cell? ⟨w.heap.size, 23, none⟩ = some (.slice s.eps.A s.eps.l.length s.eps.c) := At6.c 23
  have x24 : w6.cell? ⟨w.heap.size, 24, none⟩ = some (.slice s.eps.C s.eps.m.length s.eps.d) := At6.c 24
  by_cases f1 : E3 = 0
  case neg =>
    have g1 : (E3 != 0) = true := by simpa using f1
    have g2 := Lib.hid (show (E3 == 0) = false by simpa using f1)
    clear f1
    go_wp2_with fail
    go_ret
    exact ⟨ret_int (by rw [hE.out, l1, l2, l3, hf.out, g2.out]; rfl), q6⟩
  subst f1
  go_wp2_with fail
  refine (cE _ q6).mono ?_
  rintro e w7 ⟨rfl, hb7⟩
  have At7 := At6.on hb7
  have q7 := below_trans q6 hb7
  clear x23 x24
  have x23 : w7.cell? ⟨w.heap.size, 23, none⟩ = some (.slice s.eps.A s.eps.l.length s.eps.c) := At7.c 23
  have x24 : w7.cell? ⟨w.heap.size, 24, none⟩ = some (.slice s.eps.C s.eps.m.length s.eps.d) := At7.c 24
  by_cases f2 : E4 = 0
  case neg =>
    have g1 : (E4 != 0) = true := by simpa using f2
    have g2 := Lib.hid (show (E4 == 0) = false by simpa using f2)
    clear f2
    go_wp2_with fail
    go_ret
    exact ⟨ret_int (by rw [hE.out, l1, l2, l3, hf.out, g2.out]; rfl), q7⟩
  have hln := Lib.hid (Hlen.out f2)
  subst f2
  go_wp2_with fail
  refine (cC _ q7 hln.out.1 hln.out.2).mono ?_
  rintro e w8 ⟨rfl, hb8⟩
  have q8 := below_trans q7 hb8
  clear x23 x24
  obtain ⟨Z, hZ⟩ : ∃ Z, cmpI (V s.eps.l) (V s.eps.m) = Z := ⟨_, rfl⟩
  rw [hZ]
  by_cases f3 : V s.eps.l < V s.eps.m
  case neg =>
    have g1 : decide (Z ≥ 0) = true := by rw [← hZ]; exact decide_eq_true (cmpI_ge.2 f3)
    have g2 := Lib.hid (decide_eq_false f3)
    clear f3 hZ
    go_wp2_with fail
    go_ret
    exact ⟨ret_int (by rw [hE.out, l1, l2, l3, hf.out, g2.out]; rfl), q8⟩
  have g1 : decide (Z ≥ 0) = false := by rw [← hZ]; exact decide_eq_false (fun h => cmpI_ge.1 h f3)
  have g2 := Lib.hid (decide_eq_true f3)
  clear f3 hZ
  go_wp2_with fail
  go_ret
  exact ⟨ret_int (by rw [hE.out, l1, l2, l3, hf.out, g2.out]; rfl), q8⟩

end Go.Proofs.YtfolgmcoggejbaaGreat
