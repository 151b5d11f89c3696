/- Contracts of the reference's Check, both, CheckFrac, pair, Of of numbers. For at most 900000 limbs. -/
import Derived.Test.YtbobbcfjjdmdgaaRefI
import Derived.Test.YtbobbcfjjdmdgaaNatM
namespace Go.Proofs.Ytbobbcfjjdmdgaa
open Go.RowKit
set_option linter.unusedVariables false
set_option linter.unusedSimpArgs false

set_option maxHeartbeats 400000 in
theorem rboth_any (A : Option Addr) (c : Nat) (l : List Nat) (C : Option Addr) (d : Nat) (m : List Nat) (w : World) :
    Calls Try.prog 124 #[.slice A l.length c, .slice C m.length d] w fun e w' => e = .returned (.int .i64 (long2E l m)) ∧ w = w' := by
  by_cases h1 : 64 < l.length <;> by_cases h2 : 64 < m.length
  all_goals (
    go_enter Try.func124, Try.ntmps124
    go_wp2
    go_ret
    exact ⟨ret_int (by unfold long2E; split <;> omega), rfl⟩)

theorem dg_nil_len {n : Nat} : (dg n).length = 0 ↔ n = 0 := by rw [List.length_eq_zero_iff]; exact digB_nil b8

set_option maxRecDepth 100000 in
set_option maxHeartbeats 1000000 in
theorem rCheckFrac_any (f : Frc) (w : World) (h : f.In w) :
    Calls Try.prog 92 #[f.val] w fun e w' => e = .returned (.int .i64 (validE [f])) ∧ Below w.heap.size w w' := by
  unfold Frc.val
  have hb0 := below_alloc (Below.refl w.heap.size w) (.cells #[.slice f.A f.l.length f.c, .slice f.C f.m.length f.d] 39)
  have cB := fun w' => rboth_any f.A f.c f.l f.C f.d f.m w'
  cases hlg : f.lng
  · have h0 := lng_iff.1 hlg
    rw [h0] at cB
    have a2 := (long2E_zero.1 h0).2
    have cD := digits_any f.C f.d f.m _ (h.on hb0).d (by omega)
    by_cases hz : V f.m = 0
    · have hv : Hid (validE [f] = 7) := Lib.hid (by unfold validE; simp [hlg, Frc.zro, hz])
      rw [hz] at cD
      rw [hv.out]
      have e0 : (dg 0).length = 0 := dg_nil_len.2 rfl
      clear hlg h0 hz
      go_enter Try.func92, Try.ntmps92
      go_wp2_with fail
      refine (cB _).mono ?_
      rintro e w' ⟨rfl, rfl⟩
      go_wp2_with fail
      refine cD.mono ?_
      rintro e w2 ⟨v, rfl, b, hb2⟩
      obtain ⟨A1, c1, hv1, n1⟩ := b.dn
      rw [hv1, e0]
      go_wp2_with fail
      go_ret
      exact ⟨rfl, below_trans hb0 hb2⟩
    · have hv : Hid (validE [f] = 0) := Lib.hid (by unfold validE; simp [hlg, Frc.zro, hz])
      rw [hv.out]
      have e0 : (((dg (V f.m)).length : Int) == 0) = false := by
        have : (dg (V f.m)).length ≠ 0 := fun h' => hz (dg_nil_len.1 h')
        simp; exact fun h' => this (by rw [h']; rfl)
      clear hlg h0 hz
      go_enter Try.func92, Try.ntmps92
      go_wp2_with fail
      refine (cB _).mono ?_
      rintro e w' ⟨rfl, rfl⟩
      go_wp2_with fail
      refine cD.mono ?_
      rintro e w2 ⟨v, rfl, b, hb2⟩
      obtain ⟨A1, c1, hv1, n1⟩ := b.dn
      rw [hv1]
      go_wp2_with fail
      go_ret
      exact ⟨rfl, below_trans hb0 hb2⟩
  · have h0 : long2E f.l f.m = 4 := by
      unfold Frc.lng at hlg
      unfold long2E; rw [if_pos (by simpa using hlg)]
    rw [h0] at cB
    have hv : Hid (validE [f] = 4) := Lib.hid (by unfold validE; simp [hlg])
    rw [hv.out]
    clear hlg h0
    go_enter Try.func92, Try.ntmps92
    go_wp2_with fail
    refine (cB _).mono ?_
    rintro e w' ⟨rfl, rfl⟩
    go_wp2_with fail
    go_ret
    exact ⟨rfl, hb0⟩

set_option maxRecDepth 100000 in
set_option maxHeartbeats 1000000 in
theorem rOf_any (n : Nat) (w : World) (hn : n < 18446744073709551616) :
    Calls Try.prog 66 #[.int .u64 (n : Int)] w fun e w' => ∃ v, e = .returned v ∧ Big w' w.heap.size v n ∧ Below w.heap.size w w' := by
  obtain ⟨q, r, hq, hr, hqr⟩ := limbs2 n
  have q1 : q < 4294967296 := by have := hqr.out.1; change q = n / 4294967296 at this; omega
  have r1 : r < 4294967296 := by have := hqr.out.2; change r = n % 4294967296 at this; omega
  have q2 : (q : Int) % 4294967296 = (q : Int) := by omega
  have r2 : (r : Int) % 4294967296 = (r : Int) := by omega
  have ev : V [r, q] = n := by rw [V_two]; have := hqr.out; simp only [B32] at this; omega
  have nt := nt_lit w [r, q] #[.int .u32 (r : Int), .int .u32 (q : Int)] 127 rfl (Dig.cons r1 (Dig.cons q1 Dig.nil)) (by unfold maxLen; simp)
  have cC := digits_any _ _ _ _ nt (by simp)
  rw [ev] at cC
  have ld : (dg n).length ≤ 8 := dg_len (m := 64) hn (by decide)
  clear nt ev
  go_enter Try.func66, Try.ntmps66
  go_wp2_with fail
  refine cC.mono ?_
  rintro e w5 ⟨v, rfl, b5, hb5⟩
  obtain ⟨A1, c1, hv1, n1⟩ := b5.dn
  rw [hv1] at b5 ⊢
  have cT := rtrim_dn n1
  rw [dg_val] at cT
  go_wp2_with fail
  refine cT.mono ?_
  rintro e w' ⟨rfl, rfl⟩
  go_wp2_with fail
  refine (nat_any A1 c1 n _ n1 (by omega)).mono ?_
  rintro e w6 ⟨v6, rfl, b6, hb6⟩
  go_wp2_with fail
  go_ret
  have q5 := below_trans (below_alloc (Below.refl w.heap.size w) _) hb5
  exact ⟨_, rfl, b6.down q5.size, below_trans q5 hb6⟩

end Go.Proofs.Ytbobbcfjjdmdgaa
