/- Contract of the statement's sameItems at two slices with the same items. No condition but a bound on their length. -/
import Derived.Test.YtoccbcjkjcgdlaaDoorTxtA
namespace Go.Proofs.YtoccbcjkjcgdlaaDoor
open Go.RowKit
set_option linter.unusedVariables false
set_option linter.unusedSimpArgs false

set_option maxHeartbeats 1000000 in
theorem sameItems_same (A B : Option Addr) (n m : Nat) (l : List Itm) (w : World) (hA : Arr 2 Itm.enc w w.heap.size A l) (hB : Arr 2 Itm.enc w w.heap.size B l) (hl : l.length ≤ 4611686018427387904) :
    Calls Tryd.prog 19 #[.slice A l.length n, .slice B l.length m] w fun e w' => e = .returned (.bool true) ∧ Below w.heap.size w w' := by
  go_enter Tryd.func19, Tryd.ntmps19
  go_wp2
  go_loopw [5] (fun i wr => ∃ k : Nat, k ≤ l.length ∧ i = .int .i64 k ∧ Below w.heap.size w wr) (fun i _ => l.length - (intOf i).toNat)
  case atStart => exact ⟨0, Nat.zero_le _, rfl, Below.refl _ _⟩
  case round =>
    obtain ⟨k, hk, rfl, hb⟩ := hrel
    by_cases hlt : k < l.length
    · obtain ⟨b, off, qs, qb, rfl, hbb, hq, c0, c1⟩ := hA.itm hlt hb
      obtain ⟨b', off', qs', qb', rfl, hbb', hq', c0', c1'⟩ := hB.itm hlt hb
      obtain ⟨rfl, rfl⟩ : qs = qs' ∧ qb = qb' := by have := hq.out.symm.trans hq'.out; simpa using this
      have d0 := later_cell c0; have d1 := later_cell c1; have d0' := later_cell c0'; have d1' := later_cell c1'
      go_wp2
      refine wp_region_later (by kernel_rfl) (by kernel_rfl) ?_
      repeat (go_big_quiet_step (fail))
      refine wpQuiet_nil ?_
      rintro w1 ⟨⟨_, hb1⟩, rfl⟩
      go_wp2
      go_roundw
      case rel => exact ⟨k + 1, by omega, by go_num, below_trans hb hb1⟩
      case measure => simp [intOf]; omega
    · go_wp2
      go_ret
      exact ⟨rfl, hb⟩

end Go.Proofs.YtoccbcjkjcgdlaaDoor
