/- Contracts of the reference's checks of lists, and of the two checks of both lists. No condition but that a list's length is an int's. -/
import Derived.Test.YtfodlpiidlajeaaChk
namespace Go.Proofs.Ytfodlpiidlajeaa
open Go.RowKit
set_option linter.unusedVariables false
set_option linter.unusedSimpArgs false

set_option maxHeartbeats 1000000 in
theorem refClicks_any (A : Option Addr) (c : Nat) (l : List Clk) (w : World) (h : Arr 2 Clk.enc w w.heap.size A l) (hl : l.length ≤ 4611686018427387904) :
    Calls Try.prog 26 #[.slice A l.length c] w fun e w' => e = .returned (.int .i64 (allE Clk.ok l)) ∧ w = w' := by
  by_cases h4 : 4096 < l.length
  · go_enter Try.func26, Try.ntmps26
    go_wp2
    go_ret
    exact ⟨ret_int (allE_many h4).symm, rfl⟩
  · have h4' : decide (4096 < (l.length : Int)) = false := by simp; omega
    go_enter Try.func26, Try.ntmps26
    go_wp2
    go_loop [3] (fun i => ∃ k : Nat, k ≤ l.length ∧ i = .int .i64 k ∧ (l.take k).all Clk.ok = true) (fun i => l.length - (intOf i).toNat)
    case atStart => exact ⟨0, Nat.zero_le _, rfl, by simp⟩
    case round =>
      obtain ⟨k, hk, rfl, hall⟩ := hrel
      have Hall := Lib.hid hall; clear hall
      by_cases hlt : k < l.length
      · obtain ⟨b, off, qb, qk, rfl, hbb, hq, c0, c1⟩ := h.clk hlt (Below.refl _ _)
        by_cases hok : Clk.ok ⟨qb, qk⟩ = true
        · have Hok := Lib.hid hok
          simp only [Clk.ok, betwB, Bool.and_eq_true, decide_eq_true_eq] at hok
          obtain ⟨⟨a0, a1⟩, a2, a3⟩ := hok
          go_wp2
          go_round
          case rel => exact ⟨k+1, by omega, by go_num, all_take hq.out Hall.out Hok.out⟩
          case measure => simp [intOf]; omega
        · have Hok : Hid (Clk.ok ⟨qb, qk⟩ = false) := Lib.hid (by simpa using hok)
          simp only [Clk.ok, betwB, Bool.and_eq_true, decide_eq_true_eq] at hok
          by_cases a0 : qb < 0
          · go_wp2
            go_ret
            exact ⟨ret_int (allE_no h4 hq.out Hok.out).symm, rfl⟩
          · by_cases a1 : 1 < qb
            · go_wp2
              go_ret
              exact ⟨ret_int (allE_no h4 hq.out Hok.out).symm, rfl⟩
            · by_cases a2 : qk < 0
              · go_wp2
                go_ret
                exact ⟨ret_int (allE_no h4 hq.out Hok.out).symm, rfl⟩
              · have a3 : 3 < qk := by omega
                go_wp2
                go_ret
                exact ⟨ret_int (allE_no h4 hq.out Hok.out).symm, rfl⟩
      · go_wp2
        go_ret
        exact ⟨ret_int (allE_yes h4 (k := k) (by omega) Hall.out).symm, rfl⟩

set_option maxHeartbeats 1000000 in
theorem refPulses_any (A : Option Addr) (c : Nat) (l : List Pls) (w : World) (h : Arr 5 Pls.enc w w.heap.size A l) (hl : l.length ≤ 4611686018427387904) :
    Calls Try.prog 25 #[.slice A l.length c] w fun e w' => e = .returned (.int .i64 (allE Pls.ok l)) ∧ w = w' := by
  by_cases h4 : 4096 < l.length
  · go_enter Try.func25, Try.ntmps25
    go_wp2
    go_ret
    exact ⟨ret_int (allE_many h4).symm, rfl⟩
  · have h4' : decide (4096 < (l.length : Int)) = false := by simp; omega
    go_enter Try.func25, Try.ntmps25
    go_wp2
    go_loop [3] (fun i => ∃ k : Nat, k ≤ l.length ∧ i = .int .i64 k ∧ (l.take k).all Pls.ok = true) (fun i => l.length - (intOf i).toNat)
    case atStart => exact ⟨0, Nat.zero_le _, rfl, by simp⟩
    case round =>
      obtain ⟨k, hk, rfl, hall⟩ := hrel
      have Hall := Lib.hid hall; clear hall
      by_cases hlt : k < l.length
      · obtain ⟨b, off, pb, pbit, pc, pph, ps, rfl, hbb, hq, c0, c1, c2, c3, c4⟩ := h.pls hlt (Below.refl _ _)
        by_cases hok : Pls.ok ⟨pb, pbit, pc, pph, ps⟩ = true
        · have Hok := Lib.hid hok
          simp only [Pls.ok, betwB, Bool.and_eq_true, decide_eq_true_eq] at hok
          obtain ⟨⟨⟨a0, a1⟩, a2, a3⟩, a4, a5⟩ := hok
          go_wp2
          go_round
          case rel => exact ⟨k+1, by omega, by go_num, all_take hq.out Hall.out Hok.out⟩
          case measure => simp [intOf]; omega
        · have Hok : Hid (Pls.ok ⟨pb, pbit, pc, pph, ps⟩ = false) := Lib.hid (by simpa using hok)
          simp only [Pls.ok, betwB, Bool.and_eq_true, decide_eq_true_eq] at hok
          have hcase : pb < 0 ∨ (¬ pb < 0 ∧ 1 < pb) ∨ (¬ pb < 0 ∧ ¬ 1 < pb ∧ pc < 0) ∨ (¬ pb < 0 ∧ ¬ 1 < pb ∧ ¬ pc < 0 ∧ 2 < pc) ∨ (¬ pb < 0 ∧ ¬ 1 < pb ∧ ¬ pc < 0 ∧ ¬ 2 < pc ∧ pph < 0) ∨ (¬ pb < 0 ∧ ¬ 1 < pb ∧ ¬ pc < 0 ∧ ¬ 2 < pc ∧ ¬ pph < 0 ∧ 3 < pph) := by omega
          clear hok
          rcases hcase with a | ⟨a, b⟩ | ⟨a, b, d⟩ | ⟨a, b, d, e⟩ | ⟨a, b, d, e, f⟩ | ⟨a, b, d, e, f, g⟩
          all_goals
            go_wp2
            go_ret
            exact ⟨ret_int (allE_no h4 hq.out Hok.out).symm, rfl⟩
      · go_wp2
        go_ret
        exact ⟨ret_int (allE_yes h4 (k := k) (by omega) Hall.out).symm, rfl⟩

set_option maxHeartbeats 400000 in
theorem checkBoth_any (A : Option Addr) (n : Nat) (p : List Pls) (C : Option Addr) (m : Nat) (c : List Clk) (w : World) (hA : Arr 5 Pls.enc w w.heap.size A p) (hC : Arr 2 Clk.enc w w.heap.size C c)
    (hl : p.length ≤ 4611686018427387904) (hm : c.length ≤ 4611686018427387904) :
    Calls Try.prog 68 #[.slice A p.length n, .slice C c.length m] w fun e w' => e = .returned (.int .i64 (bothE p c)) ∧ Below w.heap.size w w' := by
  by_cases hp : allE Pls.ok p = 0
  · have Hp := Lib.hid hp
    go_enter Try.func68, Try.ntmps68
    go_wp2_with (first | (go_at_call 73; refine (checkPulses_any A n p _ hA hl).mono ?_; rintro e w2 ⟨rfl, hb2⟩; rw [Hp.out]) | (go_at_call 62; refine (checkClicks_any C m c _ (hC.on hb2) hm).mono ?_; rintro e w3 ⟨rfl, hb3⟩))
    go_ret
    exact ⟨ret_int (by simp [bothE, Hp.out]), below_trans hb2 hb3⟩
  · have Hp := Lib.hid hp
    have hp' : (allE Pls.ok p != 0) = true := by simpa using hp
    go_enter Try.func68, Try.ntmps68
    go_wp2_with (go_at_call 73; refine (checkPulses_any A n p _ hA hl).mono ?_; rintro e w2 ⟨rfl, hb2⟩)
    go_ret
    exact ⟨ret_int (by simp [bothE, Hp.out]), hb2⟩

set_option maxHeartbeats 400000 in
theorem refBoth_any (A : Option Addr) (n : Nat) (p : List Pls) (C : Option Addr) (m : Nat) (c : List Clk) (w : World) (hA : Arr 5 Pls.enc w w.heap.size A p) (hC : Arr 2 Clk.enc w w.heap.size C c)
    (hl : p.length ≤ 4611686018427387904) (hm : c.length ≤ 4611686018427387904) :
    Calls Try.prog 70 #[.slice A p.length n, .slice C c.length m] w fun e w' => e = .returned (.int .i64 (bothE p c)) ∧ w = w' := by
  by_cases hp : allE Pls.ok p = 0
  · have Hp := Lib.hid hp
    go_enter Try.func70, Try.ntmps70
    go_wp2_with (first | (go_at_call 25; refine (refPulses_any A n p _ hA hl).mono ?_; rintro e w2 ⟨rfl, rfl⟩; rw [Hp.out]) | (go_at_call 26; refine (refClicks_any C m c _ hC hm).mono ?_; rintro e w3 ⟨rfl, rfl⟩))
    go_ret
    exact ⟨ret_int (by simp [bothE, Hp.out]), rfl⟩
  · have Hp := Lib.hid hp
    have hp' : (allE Pls.ok p != 0) = true := by simpa using hp
    go_enter Try.func70, Try.ntmps70
    go_wp2_with (go_at_call 25; refine (refPulses_any A n p _ hA hl).mono ?_; rintro e w2 ⟨rfl, rfl⟩)
    go_ret
    exact ⟨ret_int (by simp [bothE, Hp.out]), rfl⟩

end Go.Proofs.Ytfodlpiidlajeaa
