/- Contracts of the checks of pulses of optics and of its reference: 'allE Pls.ok'. No condition but that a list's length is an int's. -/
import Derived.Test.YtfodlpiidlajeaaRefChk
namespace Go.Proofs.Ytfodlpiidlajeaa
open Go.RowKit
set_option linter.unusedVariables false
set_option linter.unusedSimpArgs false

def truthB (n : Int) : Bool := decide (n = 0 ∨ n = 1)
theorem truthB_betw (n : Int) : truthB n = betwB n 0 1 := by unfold truthB betwB; congr 1; apply propext; omega

set_option maxHeartbeats 400000 in
theorem truth_any (n : Int) (w : World) : Calls Try.prog 82 #[.int .i64 n] w fun e w' => e = .returned (.bool (betwB n 0 1)) ∧ w = w' := by
  go_enter Try.func82, Try.ntmps82
  go_wp2
  all_goals (go_ret; exact ⟨ret_bool (by rw [← truthB_betw, Bool.eq_iff_iff]; simp [truthB, *]), rfl⟩)

set_option maxHeartbeats 1000000 in
theorem pulse_any (pb : Int) (pbit : Bool) (pc pph : Int) (ps : Bool) (w : World) :
    Calls Try.prog 125 #[.agg #[.int .i64 pb, .bool pbit, .int .i64 pc, .int .i64 pph, .bool ps]] w fun e w' => e = .returned (.bool (Pls.ok ⟨pb, pbit, pc, pph, ps⟩)) ∧ Below w.heap.size w w' := by
  cases h1 : betwB pb 0 1
  · have H1 := Lib.hid h1; clear h1
    go_enter Try.func125, Try.ntmps125
    go_wp2_with (go_at_call 82; refine (truth_any _ _).mono ?_; rintro e w' ⟨rfl, rfl⟩; rw [H1.out])
    go_ret
    exact ⟨ret_bool (by simp [Pls.ok, H1.out]), (Below.refl _ _).alloc (Nat.le_refl _) _⟩
  · have H1 := Lib.hid h1; clear h1
    go_enter Try.func125, Try.ntmps125
    go_wp2_with (go_at_call 82; refine (truth_any _ _).mono ?_; rintro e w' ⟨rfl, rfl⟩; rw [H1.out])
    all_goals (go_ret; exact ⟨ret_bool (by have hh := H1.out; simp only [betwB, decide_eq_true_eq] at hh; rw [Bool.eq_iff_iff]; simp only [Pls.ok, betwB, Bool.and_eq_true, decide_eq_true_eq, true_and]; (try simp); try omega), (Below.refl _ _).alloc (Nat.le_refl _) _⟩)

set_option maxHeartbeats 1000000 in
theorem pulses3_any (A : Option Addr) (c : Nat) (l : List Pls) (w : World) (h : Arr 5 Pls.enc w w.heap.size A l) (hl : l.length ≤ 4611686018427387904) :
    Calls Try.prog 81 #[.slice A l.length c] w fun e w' => e = .returned (.int .i64 (allE Pls.ok l)) ∧ Below w.heap.size w w' := by
  by_cases h4 : 4096 < l.length
  · go_enter Try.func81, Try.ntmps81
    go_wp2
    go_ret
    exact ⟨ret_int (allE_many h4).symm, Below.refl _ _⟩
  · have h4' : decide (4096 < (l.length : Int)) = false := by simp; omega
    go_enter Try.func81, Try.ntmps81
    go_wp2
    go_loopw [3] (fun i wr => ∃ k : Nat, k ≤ l.length ∧ i = .int .i64 k ∧ (l.take k).all Pls.ok = true ∧ Below w.heap.size w wr) (fun i _ => l.length - (intOf i).toNat)
    case atStart => exact ⟨0, Nat.zero_le _, rfl, by simp, Below.refl _ _⟩
    case round =>
      obtain ⟨k, hk, rfl, hall, hb⟩ := hrel
      have Hall := Lib.hid hall; clear hall
      by_cases hlt : k < l.length
      · obtain ⟨b, off, pb, pbit, pc, pph, ps, rfl, hbb, hq, c0, c1, c2, c3, c4⟩ := h.pls hlt hb
        cases hok : Pls.ok ⟨pb, pbit, pc, pph, ps⟩
        · have Hok := Lib.hid hok; clear hok
          go_wp2_with (go_at_call 125; refine (pulse_any pb pbit pc pph ps _).mono ?_; rintro e w2 ⟨rfl, hb2⟩; rw [Hok.out])
          go_ret
          exact ⟨ret_int (allE_no h4 hq.out Hok.out).symm, below_trans hb hb2⟩
        · have Hok := Lib.hid hok; clear hok
          go_wp2_with (go_at_call 125; refine (pulse_any pb pbit pc pph ps _).mono ?_; rintro e w2 ⟨rfl, hb2⟩; rw [Hok.out])
          go_roundw
          case rel => exact ⟨k+1, by omega, by go_num, all_take hq.out Hall.out Hok.out, below_trans hb hb2⟩
          case measure => simp [intOf]; omega
      · go_wp2
        go_ret
        exact ⟨ret_int (allE_yes h4 (k := k) (by omega) Hall.out).symm, hb⟩

set_option maxHeartbeats 2000000 in
theorem valid_any (A : Option Addr) (c : Nat) (l : List Pls) (w : World) (h : Arr 5 Pls.enc w w.heap.size A l) (hl : l.length ≤ 4611686018427387904) :
    Calls Try.prog 124 #[.slice A l.length c] w fun e w' => e = .returned (.int .i64 (allE Pls.ok l)) ∧ Below w.heap.size w w' := by
  by_cases h4 : 4096 < l.length
  · go_enter Try.func124, Try.ntmps124
    go_wp2
    go_ret
    exact ⟨ret_int (allE_many h4).symm, Below.refl _ _⟩
  · have h4' : decide (4096 < (l.length : Int)) = false := by simp; omega
    go_enter Try.func124, Try.ntmps124
    go_wp2
    go_loopw [10] (fun i wr => ∃ k : Nat, k ≤ l.length ∧ i = .int .i64 k ∧ (l.take k).all Pls.ok = true ∧ Below w.heap.size w wr) (fun i _ => l.length - (intOf i).toNat)
    case atStart => exact ⟨0, Nat.zero_le _, rfl, by simp, Below.refl _ _⟩
    case round =>
      obtain ⟨k, hk, rfl, hall, hb⟩ := hrel
      have Hall := Lib.hid hall; clear hall
      by_cases hlt : k < l.length
      · obtain ⟨b, off, pb, pbit, pc, pph, ps, rfl, hbb, hq, c0, c1, c2, c3, c4⟩ := h.pls hlt hb
        by_cases hok : Pls.ok ⟨pb, pbit, pc, pph, ps⟩ = true
        · have Hok := Lib.hid hok
          simp only [Pls.ok, betwB, Bool.and_eq_true, decide_eq_true_eq] at hok
          obtain ⟨⟨⟨a0, a1⟩, a2, a3⟩, a4, a5⟩ := hok
          go_wp2
          go_roundw
          case rel => exact ⟨k+1, by omega, by go_num, all_take hq.out Hall.out Hok.out, below_alloc hb _⟩
          case measure => simp [intOf]; omega
        · have Hok : Hid (Pls.ok ⟨pb, pbit, pc, pph, ps⟩ = false) := Lib.hid (by simpa using hok)
          simp only [Pls.ok, betwB, Bool.and_eq_true, decide_eq_true_eq] at hok
          have hcase : pb < 0 ∨ (¬ pb < 0 ∧ 1 < pb) ∨ (¬ pb < 0 ∧ ¬ 1 < pb ∧ pc < 0) ∨ (¬ pb < 0 ∧ ¬ 1 < pb ∧ ¬ pc < 0 ∧ 2 < pc) ∨ (¬ pb < 0 ∧ ¬ 1 < pb ∧ ¬ pc < 0 ∧ ¬ 2 < pc ∧ pph < 0) ∨ (¬ pb < 0 ∧ ¬ 1 < pb ∧ ¬ pc < 0 ∧ ¬ 2 < pc ∧ ¬ pph < 0 ∧ 3 < pph) := by omega
          clear hok
          rcases hcase with a | ⟨a, b⟩ | ⟨a, b, d⟩ | ⟨a, b, d, e⟩ | ⟨a, b, d, e, f⟩ | ⟨a, b, d, e, f, g⟩
          all_goals
            go_wp2
            go_ret
            exact ⟨ret_int (allE_no h4 hq.out Hok.out).symm, below_alloc hb _⟩
      · go_wp2
        go_ret
        exact ⟨ret_int (allE_yes h4 (k := k) (by omega) Hall.out).symm, hb⟩

end Go.Proofs.Ytfodlpiidlajeaa
