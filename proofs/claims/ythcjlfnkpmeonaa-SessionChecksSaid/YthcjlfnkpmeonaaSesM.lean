/- Contracts of great and of the reference's Bools. No condition. -/
import Derived.Test.YthcjlfnkpmeonaaSesL
import Derived.Test.YthcjlfnkpmeonaaSesD
import Derived.Test.YthcjlfnkpmeonaaSesG
namespace Go.Proofs.Ythcjlfnkpmeonaa
open Go.RowKit
set_option linter.unusedVariables false
set_option linter.unusedSimpArgs false

set_option maxRecDepth 100000 in
set_option maxHeartbeats 4000000 in
theorem great_any (s : Stp) (w : World) : Calls Try.prog 4 #[s.val] w fun e w' => ∃ g, e = .returned (.bool g) ∧ Below w.heap.size w w' ∧ (g = false → s.eps.l.length ≤ 80 ∧ s.eps.m.length ≤ 80 ∧ s.lim.l.length ≤ 80 ∧ s.lim.m.length ≤ 80) := by
  have q0 := below_alloc (Below.refl w.heap.size w) (.cells s.cs 35)
  have At0 := StpAt.new w s
  unfold Stp.val
  go_enter Try.func4, Try.ntmps4
  go_upto_region 1 with fail
  obtain ⟨w1, hw1⟩ : ∃ w1, w.alloc (.cells s.cs 35) = w1 := ⟨_, rfl⟩
  rw [hw1] at q0 At0 ⊢
  clear hw1
  have y0 : w1.cell? ⟨w.heap.size, 18, none⟩ = some (.int .i64 s.slots) := At0.c 18
  have y1 : w1.cell? ⟨w.heap.size, 21, none⟩ = some (.int .i64 s.block) := At0.c 21
  have y2 : w1.cell? ⟨w.heap.size, 23, none⟩ = some (.slice s.eps.A s.eps.l.length s.eps.c) := At0.c 23
  have y3 : w1.cell? ⟨w.heap.size, 24, none⟩ = some (.slice s.eps.C s.eps.m.length s.eps.d) := At0.c 24
  have y4 : w1.cell? ⟨w.heap.size, 25, none⟩ = some (.slice s.lim.A s.lim.l.length s.lim.c) := At0.c 25
  have y5 : w1.cell? ⟨w.heap.size, 26, none⟩ = some (.slice s.lim.C s.lim.m.length s.lim.d) := At0.c 26
  have yes : ∀ w', Below w.heap.size w w' → ∃ g, Ending.returned (.bool true) = .returned (.bool g) ∧ Below w.heap.size w w' ∧ (g = false → s.eps.l.length ≤ 80 ∧ s.eps.m.length ≤ 80 ∧ s.lim.l.length ≤ 80 ∧ s.lim.m.length ≤ 80) := fun w' h => ⟨true, rfl, h, fun h => by cases h⟩
  have Yes := Lib.hid yes
  clear yes At0
  have h12 : (decide (s.slots > 400) = true ∧ decide (s.slots ≤ 4000) = true) ∨ (decide (s.slots > 400) = true ∧ decide (s.slots ≤ 4000) = false) ∨ decide (s.slots > 400) = false := by
    cases decide (s.slots > 400) <;> cases decide (s.slots ≤ 4000) <;> simp
  have h34 : (decide (s.block > 64) = true ∧ decide (s.block ≤ 512) = true) ∨ (decide (s.block > 64) = true ∧ decide (s.block ≤ 512) = false) ∨ decide (s.block > 64) = false := by
    cases decide (s.block > 64) <;> cases decide (s.block ≤ 512) <;> simp
  have H34 := Lib.hid h34
  clear h34
  rcases h12 with ⟨c1, c2⟩ | ⟨c1, c2⟩ | c1
  · go_wp2_with fail
    go_ret
    exact Yes.out _ q0
  all_goals (
    rcases H34.out with ⟨c3, c4⟩ | ⟨c3, c4⟩ | c3
    · go_wp2_with fail
      go_ret
      exact Yes.out _ q0
    all_goals (
      cases c5 : decide ((s.eps.l.length : Int) > 80)
      case true =>
        go_wp2_with fail
        go_ret
        exact Yes.out _ q0
      cases c6 : decide ((s.eps.m.length : Int) > 80)
      case true =>
        go_wp2_with fail
        go_ret
        exact Yes.out _ q0
      cases c7 : decide ((s.lim.l.length : Int) > 80)
      case true =>
        go_wp2_with fail
        go_ret
        exact Yes.out _ q0
      cases c8 : decide ((s.lim.m.length : Int) > 80)
      case true =>
        go_wp2_with fail
        go_ret
        exact Yes.out _ q0
      go_wp2_with fail
      go_ret
      have := of_decide_eq_false c5; have := of_decide_eq_false c6; have := of_decide_eq_false c7; have := of_decide_eq_false c8
      exact ⟨false, rfl, q0, fun _ => ⟨by omega, by omega, by omega, by omega⟩⟩))

theorem take_next {α : Type} {l m : List α} {k : Nat} (hl : k < l.length) (hm : k < m.length) (h : l.take k = m.take k) (hx : l[k] = m[k]) : l.take (k + 1) = m.take (k + 1) := by
  rw [List.take_succ_eq_append_getElem hl, List.take_succ_eq_append_getElem hm, h, hx]
/-- Whether two lists of bits are equal. -/
theorem Bools5_any (A B : Option Addr) (n c : Nat) (l m : List Bool) (w : World) (hA : Arr 1 encB w w.heap.size A l) (hB : Arr 1 encB w w.heap.size B m) (hl : l.length ≤ 4611686018427387904) (hm : m.length ≤ 4611686018427387904) :
    Calls Try.prog 10 #[.slice A l.length n, .slice B m.length c] w fun e w' => e = .returned (.bool (decide (l = m))) ∧ Below w.heap.size w w' := by
  have hEq : Hid (∀ b, decide (l = m) = b ↔ decide (l = m) = b) := Lib.hid (fun _ => Iff.rfl)
  obtain ⟨D, hD⟩ : ∃ D, decide (l = m) = D := ⟨_, rfl⟩
  have HD := Lib.hid hD
  clear hEq
  rw [hD]
  clear hD
  go_enter Try.func10, Try.ntmps10
  by_cases hlen : l.length = m.length
  · rw [← hlen]
    have Hlen := Lib.hid hlen
    have hm2 : ∀ k, k < l.length → k < m.length := fun k h => by omega
    have Hm2 := Lib.hid hm2
    clear hlen hm hm2
    go_wp2_with fail
    go_loopw [5] (fun i wr => ∃ k : Nat, k ≤ l.length ∧ i = .int .i64 k ∧ Hid (l.take k = m.take k) ∧ Below w.heap.size w wr) (fun i _ => l.length - (intOf i).toNat)
    case atStart => exact ⟨0, by omega, rfl, Lib.hid (by simp), Below.refl _ _⟩
    case round =>
      obtain ⟨k, hk, rfl, ht, hb⟩ := hrel
      by_cases hlt : k < l.length
      · obtain ⟨b1, o1, x, rfl, _, hx, c1⟩ := hA.bool hlt hb
        obtain ⟨b2, o2, y, rfl, _, hy, c2⟩ := hB.bool (Hm2.out k hlt) hb
        have hno : Hid (x ≠ y → D = false) := Lib.hid (fun h => by
          rw [← HD.out, decide_eq_false_iff_not]
          rintro rfl
          exact h (Option.some.inj (hx.out.symm.trans hy.out)))
        have hst : Hid (x = y → l.take (k + 1) = m.take (k + 1)) := Lib.hid (fun h => take_next hlt (Hm2.out k hlt) ht.out (by
          obtain ⟨_, h1⟩ := List.getElem?_eq_some_iff.1 hx.out
          obtain ⟨_, h2⟩ := List.getElem?_eq_some_iff.1 hy.out
          rw [h1, h2, h]))
        cases x <;> cases y
        · go_wp2_with fail
          go_region
          go_wp2_with fail
          go_roundw
          case rel => exact ⟨k + 1, by omega, by go_num, Lib.hid (by first | exact hst.out rfl | exact hst.out trivial | exact hst.out), hb.drew⟩
          case measure => simp [intOf]; omega
        · go_wp2_with fail
          go_region
          go_wp2_with fail
          go_ret
          exact ⟨ret_bool (hno.out (by decide)).symm, hb.drew⟩
        · go_wp2_with fail
          go_region
          go_wp2_with fail
          go_ret
          exact ⟨ret_bool (hno.out (by decide)).symm, hb.drew⟩
        · go_wp2_with fail
          go_region
          go_wp2_with fail
          go_roundw
          case rel => exact ⟨k + 1, by omega, by go_num, Lib.hid (by first | exact hst.out rfl | exact hst.out trivial | exact hst.out), hb.drew⟩
          case measure => simp [intOf]; omega
      · have e1 : Hid (D = true) := Lib.hid (by
          have h1 : l.take k = l := List.take_of_length_le (by omega)
          have h2 : m.take k = m := List.take_of_length_le (by have := Hlen.out; omega)
          rw [← HD.out, decide_eq_true_iff, ← h1, ht.out, h2])
        go_wp2_with fail
        go_ret
        exact ⟨ret_bool e1.out.symm, hb⟩
  · have e1 : Hid (D = false) := Lib.hid (by
      rw [← HD.out, decide_eq_false_iff_not]
      rintro rfl; exact hlen rfl)
    have g1 : ((l.length : Int) != (m.length : Int)) = true := by simpa using (by omega : ¬ ((l.length : Int) = (m.length : Int)))
    clear hlen
    go_wp2_with fail
    go_ret
    exact ⟨ret_bool e1.out.symm, Below.refl _ _⟩

end Go.Proofs.Ythcjlfnkpmeonaa
