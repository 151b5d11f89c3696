/- Contracts of the small tests and of the checks of lists: what each returns, and that nothing that lay has turned. No condition but that a list's length is an int's. -/
import Derived.Test.YtfolgmcoggejbaaGreatProg
import Derived.Test.YtfolgmcoggejbaaGreatData
namespace Go.Proofs.YtfolgmcoggejbaaGreat
open Go.RowKit
set_option linter.unusedVariables false
set_option linter.unusedSimpArgs false

set_option maxHeartbeats 400000 in
theorem between_any (n a b : Int) (w : World) :
    Calls Tryz.prog 97 #[.int .i64 n, .int .i64 a, .int .i64 b] w fun e w' => e = .returned (.bool (betwB n a b)) ∧ w = w' := by
  go_enter Tryz.func97, Tryz.ntmps97
  go_wp2
  all_goals (go_ret; exact ⟨ret_bool (by simp [betwB]; try omega), rfl⟩)

theorem shiftable_any (n : Int) (w : World) :
    Calls Tryz.prog 256 #[.int .i64 n] w fun e w' => e = .returned (.bool (betwB n (-16) 16)) ∧ w = w' := by
  go_enter Tryz.func256, Tryz.ntmps256
  go_wp2_with (go_at_call 97; refine (between_any _ _ _ _).mono ?_; rintro e w' ⟨rfl, rfl⟩)
  go_ret
  exact ⟨rfl, rfl⟩

set_option maxHeartbeats 400000 in
theorem single_any (bs k : Int) (w : World) :
    Calls Tryz.prog 257 #[.agg #[.int .i64 bs, .int .i64 k]] w fun e w' => e = .returned (.bool (singleB k)) ∧ Below w.heap.size w w' := by
  go_enter Tryz.func257, Tryz.ntmps257
  go_wp2
  all_goals (go_ret; exact ⟨ret_bool (by rw [Bool.eq_iff_iff]; simp [singleB, *]), (Below.refl _ _).alloc (Nat.le_refl _) _⟩)

set_option maxHeartbeats 400000 in
theorem checkClicks1_any (qb qk : Int) (w : World) :
    Calls Tryz.prog 292 #[.agg #[.int .i64 qb, .int .i64 qk]] w fun e w' => e = .returned (.bool (Clk.ok ⟨qb, qk⟩)) ∧ Below w.heap.size w w' := by
  go_enter Tryz.func292, Tryz.ntmps292
  go_wp2_with (go_at_call 97; refine (between_any _ _ _ _).mono ?_; rintro e w' ⟨rfl, rfl⟩)
  all_goals (go_ret; exact ⟨ret_bool (by simp [Clk.ok, *]), (Below.refl _ _).alloc (Nat.le_refl _) _⟩)

set_option maxHeartbeats 400000 in
theorem checkPulses1_any (pb : Int) (pbit : Bool) (pc pph : Int) (ps : Bool) (w : World) :
    Calls Tryz.prog 294 #[.agg #[.int .i64 pb, .bool pbit, .int .i64 pc, .int .i64 pph, .bool ps]] w fun e w' => e = .returned (.bool (Pls.ok ⟨pb, pbit, pc, pph, ps⟩)) ∧ Below w.heap.size w w' := by
  go_enter Tryz.func294, Tryz.ntmps294
  go_wp2_with (go_at_call 97; refine (between_any _ _ _ _).mono ?_; rintro e w' ⟨rfl, rfl⟩)
  all_goals (go_ret; exact ⟨ret_bool (by simp [Pls.ok, *]), (Below.refl _ _).alloc (Nat.le_refl _) _⟩)

set_option maxHeartbeats 400000 in
theorem allClick_any (A : Option Addr) (c : Nat) (l : List Clk) (w : World) (h : Arr 2 Clk.enc w w.heap.size A l) (hl : l.length ≤ 4611686018427387904) :
    Calls Tryz.prog 291 #[.slice A l.length c, .func (.func 292) #[] #[]] w fun e w' => e = .returned (.int .i64 (allE Clk.ok l)) ∧ Below w.heap.size w w' := by
  by_cases h4 : 4096 < l.length
  · go_enter Tryz.func291, Tryz.ntmps291
    go_wp2
    go_ret
    exact ⟨ret_int (allE_many h4).symm, Below.refl _ _⟩
  · have h4' : decide (4096 < (l.length : Int)) = false := by simp; omega
    go_enter Tryz.func291, Tryz.ntmps291
    go_wp2
    go_loopw [12] (fun i wr => ∃ k : Nat, k ≤ l.length ∧ i = .int .i64 k ∧ (l.take k).all Clk.ok = true ∧ Below w.heap.size w wr) (fun i _ => l.length - (intOf i).toNat)
    case atStart => exact ⟨0, Nat.zero_le _, rfl, by simp, Below.refl _ _⟩
    case round =>
      obtain ⟨k, hk, rfl, hall, hb⟩ := hrel
      have Hall := Lib.hid hall; clear hall
      by_cases hlt : k < l.length
      · obtain ⟨b, off, qb, qk, rfl, hbb, hq, c0, c1⟩ := h.clk hlt hb
        go_wp2_with (go_at_call 292; refine (checkClicks1_any qb qk _).mono ?_; rintro e w2 ⟨rfl, hb2⟩)
        · go_ret
          rename_i hx
          exact ⟨ret_int (allE_no h4 hq.out (by simpa using hx)).symm, (hb.alloc hb.size _).trans (hb2.mono (by have := hb.size; simp; omega))⟩
        · rename_i hx
          go_roundw
          case rel => exact ⟨k+1, by omega, by go_num, all_take hq.out Hall.out (by simpa using hx), (hb.alloc hb.size _).trans (hb2.mono (by have := hb.size; simp; omega))⟩
          case measure => simp [intOf]; omega
      · go_wp2
        go_ret
        exact ⟨ret_int (allE_yes h4 (k := k) (by omega) Hall.out).symm, hb⟩

set_option maxHeartbeats 400000 in
theorem allPulse_any (A : Option Addr) (c : Nat) (l : List Pls) (w : World) (h : Arr 5 Pls.enc w w.heap.size A l) (hl : l.length ≤ 4611686018427387904) :
    Calls Tryz.prog 293 #[.slice A l.length c, .func (.func 294) #[] #[]] w fun e w' => e = .returned (.int .i64 (allE Pls.ok l)) ∧ Below w.heap.size w w' := by
  by_cases h4 : 4096 < l.length
  · go_enter Tryz.func293, Tryz.ntmps293
    go_wp2
    go_ret
    exact ⟨ret_int (allE_many h4).symm, Below.refl _ _⟩
  · have h4' : decide (4096 < (l.length : Int)) = false := by simp; omega
    go_enter Tryz.func293, Tryz.ntmps293
    go_wp2
    go_loopw [12] (fun i wr => ∃ k : Nat, k ≤ l.length ∧ i = .int .i64 k ∧ (l.take k).all Pls.ok = true ∧ Below w.heap.size w wr) (fun i _ => l.length - (intOf i).toNat)
    case atStart => exact ⟨0, Nat.zero_le _, rfl, by simp, Below.refl _ _⟩
    case round =>
      obtain ⟨k, hk, rfl, hall, hb⟩ := hrel
      have Hall := Lib.hid hall; clear hall
      by_cases hlt : k < l.length
      · obtain ⟨b, off, pb, pbit, pc, pph, ps, rfl, hbb, hq, c0, c1, c2, c3, c4⟩ := h.pls hlt hb
        go_wp2_with (go_at_call 294; refine (checkPulses1_any pb pbit pc pph ps _).mono ?_; rintro e w2 ⟨rfl, hb2⟩)
        · go_ret
          rename_i hx
          exact ⟨ret_int (allE_no h4 hq.out (by simpa using hx)).symm, (hb.alloc hb.size _).trans (hb2.mono (by have := hb.size; simp; omega))⟩
        · rename_i hx
          go_roundw
          case rel => exact ⟨k+1, by omega, by go_num, all_take hq.out Hall.out (by simpa using hx), (hb.alloc hb.size _).trans (hb2.mono (by have := hb.size; simp; omega))⟩
          case measure => simp [intOf]; omega
      · go_wp2
        go_ret
        exact ⟨ret_int (allE_yes h4 (k := k) (by omega) Hall.out).symm, hb⟩

theorem checkClicks_any (A : Option Addr) (c : Nat) (l : List Clk) (w : World) (h : Arr 2 Clk.enc w w.heap.size A l) (hl : l.length ≤ 4611686018427387904) :
    Calls Tryz.prog 255 #[.slice A l.length c] w fun e w' => e = .returned (.int .i64 (allE Clk.ok l)) ∧ Below w.heap.size w w' := by
  go_enter Tryz.func255, Tryz.ntmps255
  go_wp2_with (go_at_call 291; refine (allClick_any A c l _ h hl).mono ?_; rintro e w2 ⟨rfl, hb2⟩)
  go_ret
  exact ⟨rfl, hb2⟩

theorem checkPulses_any (A : Option Addr) (c : Nat) (l : List Pls) (w : World) (h : Arr 5 Pls.enc w w.heap.size A l) (hl : l.length ≤ 4611686018427387904) :
    Calls Tryz.prog 258 #[.slice A l.length c] w fun e w' => e = .returned (.int .i64 (allE Pls.ok l)) ∧ Below w.heap.size w w' := by
  go_enter Tryz.func258, Tryz.ntmps258
  go_wp2_with (go_at_call 293; refine (allPulse_any A c l _ h hl).mono ?_; rintro e w2 ⟨rfl, hb2⟩)
  go_ret
  exact ⟨rfl, hb2⟩

end Go.Proofs.YtfolgmcoggejbaaGreat
