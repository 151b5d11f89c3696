/- Contracts of the tests of sameness of two slices that read alike: they return true. No condition but that a length is an int's. -/
import Derived.Test.YtfodlpiidlajeaaChk
namespace Go.Proofs.Ytfodlpiidlajeaa
open Go.RowKit
set_option linter.unusedVariables false
set_option linter.unusedSimpArgs false

set_option maxHeartbeats 1000000 in
theorem SamePulses_same (A B : Option Addr) (n m : Nat) (l : List Pls) (w : World) (hA : Arr 5 Pls.enc w w.heap.size A l) (hB : Arr 5 Pls.enc w w.heap.size B l) (hl : l.length ≤ 4611686018427387904) :
    Calls Try.prog 23 #[.slice A l.length n, .slice B l.length m] w fun e w' => e = .returned (.bool true) ∧ Below w.heap.size w w' := by
  go_enter Try.func23, Try.ntmps23
  go_wp2
  go_loopw [5] (fun i wr => ∃ k : Nat, k ≤ l.length ∧ i = .int .i64 k ∧ Below w.heap.size w wr) (fun i _ => l.length - (intOf i).toNat)
  case atStart => exact ⟨0, Nat.zero_le _, rfl, Below.refl _ _⟩
  case round =>
    obtain ⟨k, hk, rfl, hb⟩ := hrel
    by_cases hlt : k < l.length
    · obtain ⟨b, off, pb, pbit, pc, pph, ps, rfl, hbb, hq, c0, c1, c2, c3, c4⟩ := hA.pls hlt hb
      obtain ⟨b', off', pb', pbit', pc', pph', ps', rfl, hbb', hq', c0', c1', c2', c3', c4'⟩ := hB.pls hlt hb
      obtain ⟨rfl, rfl, rfl, rfl, rfl⟩ : pb = pb' ∧ pbit = pbit' ∧ pc = pc' ∧ pph = pph' ∧ ps = ps' := by have := hq.out.symm.trans hq'.out; simpa using this
      have d0 := later_cell c0; have d1 := later_cell c1; have d2 := later_cell c2; have d3 := later_cell c3; have d4 := later_cell c4
      have d0' := later_cell c0'; have d1' := later_cell c1'; have d2' := later_cell c2'; have d3' := later_cell c3'; have d4' := later_cell c4'
      go_wp2
      refine wp_region_later (by kernel_rfl) (by kernel_rfl) ?_
      repeat (go_big_quiet_step (fail))
      refine wpQuiet_nil ?_
      rintro w1 ⟨⟨_, hb1⟩, rfl⟩
      go_wp2
      go_roundw
      case rel => exact ⟨k + 1, by omega, by go_num, below_trans hb hb1⟩
      case measure => simp [intOf]; omega
    · go_wp2
      go_ret
      exact ⟨rfl, hb⟩

set_option maxHeartbeats 1000000 in
theorem SameClicks_same (A B : Option Addr) (n m : Nat) (l : List Clk) (w : World) (hA : Arr 2 Clk.enc w w.heap.size A l) (hB : Arr 2 Clk.enc w w.heap.size B l) (hl : l.length ≤ 4611686018427387904) :
    Calls Try.prog 24 #[.slice A l.length n, .slice B l.length m] w fun e w' => e = .returned (.bool true) ∧ Below w.heap.size w w' := by
  go_enter Try.func24, Try.ntmps24
  go_wp2
  go_loopw [5] (fun i wr => ∃ k : Nat, k ≤ l.length ∧ i = .int .i64 k ∧ Below w.heap.size w wr) (fun i _ => l.length - (intOf i).toNat)
  case atStart => exact ⟨0, Nat.zero_le _, rfl, Below.refl _ _⟩
  case round =>
    obtain ⟨k, hk, rfl, hb⟩ := hrel
    by_cases hlt : k < l.length
    · obtain ⟨b, off, qb, qk, rfl, hbb, hq, c0, c1⟩ := hA.clk hlt hb
      obtain ⟨b', off', qb', qk', rfl, hbb', hq', c0', c1'⟩ := hB.clk hlt hb
      obtain ⟨rfl, rfl⟩ : qb = qb' ∧ qk = qk' := by have := hq.out.symm.trans hq'.out; simpa using this
      have d0 := later_cell c0; have d1 := later_cell c1; have d0' := later_cell c0'; have d1' := later_cell c1'
      go_wp2
      refine wp_region_later (by kernel_rfl) (by kernel_rfl) ?_
      repeat (go_big_quiet_step (fail))
      refine wpQuiet_nil ?_
      rintro w1 ⟨⟨_, hb1⟩, rfl⟩
      go_wp2
      go_roundw
      case rel => exact ⟨k + 1, by omega, by go_num, below_trans hb hb1⟩
      case measure => simp [intOf]; omega
    · go_wp2
      go_ret
      exact ⟨rfl, hb⟩

end Go.Proofs.Ytfodlpiidlajeaa
