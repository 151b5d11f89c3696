/- The reference's 'score' computes 'scoreTo'. For at most 4096 pulses and clicks, and a shift from -16 to 16. -/
import Derived.Test.YtfodlpiidlajeaaScore
namespace Go.Proofs.Ytfodlpiidlajeaa
open Go.RowKit
set_option linter.unusedVariables false
set_option linter.unusedSimpArgs false

set_option maxHeartbeats 2000000 in
theorem score_any (A : Option Addr) (n : Nat) (h : List Pls) (C : Option Addr) (m : Nat) (c : List Clk) (s : Int) (w : World) (hA : Arr 5 Pls.enc w w.heap.size A h) (hC : Arr 2 Clk.enc w w.heap.size C c)
    (hl : h.length ≤ 4096) (hm : c.length ≤ 4096) (hs1 : -16 ≤ s) (hs2 : s ≤ 16) :
    Calls Try.prog 71 #[.slice A h.length n, .slice C c.length m, .int .i64 s] w fun e w' => e = .returned (.int .i64 (scoreTo h c s h.length)) ∧ Below w.heap.size w w' := by
  go_enter Try.func71, Try.ntmps71
  go_wp2
  go_loopw [7, 8] (fun t i wr => ∃ k : Nat, k ≤ h.length ∧ i = .int .i64 k ∧ t = .int .i64 (scoreTo h c s k) ∧ Below w.heap.size w wr) (fun _ i _ => h.length - (intOf i).toNat)
  case atStart => exact ⟨0, Nat.zero_le _, rfl, rfl, Below.refl _ _⟩
  case round =>
    obtain ⟨k, hk, rfl, rfl, hb⟩ := hrel
    have hbd := scoreTo_bd h c s k
    by_cases hlt : k < h.length
    · obtain ⟨b, off, pb, pbit, pc, pph, ps, rfl, hbb, hp, c0, c1, c2, c3, c4⟩ := hA.pls hlt hb
      by_cases hj0 : (k : Int) + s < 0
      · have hj0' : decide ((k : Int) + s < 0) = true := by simpa using hj0
        go_wp2
        refine wp_region_later (by kernel_rfl) (by kernel_rfl) ?_
        repeat (go_big_quiet_step (fail))
        refine wpQuiet_nil ?_
        rintro w1 ⟨⟨_, hb1⟩, rfl⟩
        go_wp2
        go_roundw
        case rel => exact ⟨k + 1, by omega, by go_num, by rw [sc_none (.inl hj0)], below_trans hb hb1⟩
        case measure => simp [intOf]; omega
      · by_cases hj1 : (c.length : Int) ≤ (k : Int) + s
        · have hj0' : decide ((k : Int) + s < 0) = false := by simpa using hj0
          have hj1' : decide ((c.length : Int) ≤ (k : Int) + s) = true := by simpa using hj1
          go_wp2
          refine wp_region_later (by kernel_rfl) (by kernel_rfl) ?_
          repeat (go_big_quiet_step (fail))
          refine wpQuiet_nil ?_
          rintro w1 ⟨⟨_, hb1⟩, rfl⟩
          go_wp2
          go_roundw
          case rel => exact ⟨k + 1, by omega, by go_num, by rw [sc_none (.inr hj1)], below_trans hb hb1⟩
          case measure => simp [intOf]; omega
        · obtain ⟨j, hj⟩ : ∃ j : Nat, (k : Int) + s = j := ⟨((k : Int) + s).toNat, by omega⟩
          have hjc : j < c.length := by omega
          obtain ⟨b2, off2, qb, qk, rfl, hbb2, hq, q0, q1⟩ := hC.clk hjc hb
          have Hsc := Lib.hid (sc_at hp.out hq.out hj)
          have Hj := Lib.hid hj
          clear hj hj0 hj1
          have g0 : decide ((j : Int) < 0) = false := by simp
          have g1 : decide (c.length ≤ j) = false := by simp; omega
          have r0 := later_cell q0
          have r1 := later_cell q1
          have n0 := later_cell c0
          have n1 := later_cell c1
          have n4 := later_cell c4
          cases ps
          · go_wp2
            rw [Hj.out]
            refine wp_region_later (by kernel_rfl) (by kernel_rfl) ?_
            repeat (go_big_quiet_step (fail))
            refine wpQuiet_nil ?_
            rintro w1 ⟨⟨_, hb1⟩, rfl⟩
            go_wp2
            go_roundw
            case rel => exact ⟨k + 1, by omega, by go_num, by rw [Hsc.out, ptAt_zero (.inl rfl)]; simp, below_trans hb hb1⟩
            case measure => simp [intOf]; omega
          · by_cases hbs : pb = qb
            · subst hbs
              have kk : qk = 1 ∨ qk = 2 ∨ (qk ≠ 1 ∧ qk ≠ 2) := by omega
              rcases kk with rfl | rfl | ⟨k1, k2⟩
              rotate_left 2
              · have Hs : Hid (singleB qk = false) := Lib.hid (by simp [singleB, k1, k2])
                have k1' : (qk != 1) = true := by simpa using k1
                have k2' : (qk != 2) = true := by simpa using k2
                go_wp2
                rw [Hj.out]
                refine wp_region_later (by kernel_rfl) (by kernel_rfl) ?_
                repeat (go_big_quiet_step (fail))
                refine wpQuiet_nil ?_
                rintro w1 ⟨⟨_, hb1⟩, rfl⟩
                go_wp2
                go_roundw
                case rel => exact ⟨k + 1, by omega, by go_num, by rw [Hsc.out, ptAt_zero (.inr (.inl Hs.out))]; simp, below_trans hb hb1⟩
                case measure => simp [intOf]; omega
              all_goals
                go_wp2
                rw [Hj.out]
                refine wp_region_later (by kernel_rfl) (by kernel_rfl) ?_
                repeat (go_big_quiet_step (fail))
                refine wpQuiet_nil ?_
                rintro w1 ⟨⟨_, hb1⟩, rfl⟩
                have e1 := later_cell (w := w1) (n1 ⟨w1, hb1⟩)
                have e2 := later_cell (w := w1) (r1 ⟨w1, hb1⟩)
                clear n0 n1 n4 r0 r1
                go_wp2
                refine wp_region_later (by kernel_rfl) (by kernel_rfl) ?_
                repeat (go_big_quiet_step (fail))
                refine wpQuiet_nil ?_
                rintro w2 ⟨⟨_, hb2⟩, rfl⟩
                cases pbit
                all_goals
                  go_wp2
                  go_roundw
                  case rel => exact ⟨k + 1, by omega, by go_num, by rw [Hsc.out]; first | rw [ptAt_yes (by decide) (by decide)] | (rw [ptAt_no (by decide) (by decide)]; rfl), below_trans (below_trans hb hb1) hb2⟩
                  case measure => simp [intOf]; omega
            · have hbs' : (pb != qb) = true := by simpa using hbs
              go_wp2
              rw [Hj.out]
              refine wp_region_later (by kernel_rfl) (by kernel_rfl) ?_
              repeat (go_big_quiet_step (fail))
              refine wpQuiet_nil ?_
              rintro w1 ⟨⟨_, hb1⟩, rfl⟩
              go_wp2
              go_roundw
              case rel => exact ⟨k + 1, by omega, by go_num, by rw [Hsc.out, ptAt_zero (.inr (.inr hbs))]; simp, below_trans hb hb1⟩
              case measure => simp [intOf]; omega
    · go_wp2
      go_ret
      obtain rfl : k = h.length := by omega
      exact ⟨rfl, hb⟩

end Go.Proofs.Ytfodlpiidlajeaa
