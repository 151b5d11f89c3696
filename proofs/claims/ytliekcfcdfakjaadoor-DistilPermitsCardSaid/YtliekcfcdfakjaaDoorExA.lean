/- Contracts of exact's fit, Add, Mul, Compare. For numbers of at most 64 limbs whose result has no more. -/
import Derived.Test.YtliekcfcdfakjaaDoorNatH
namespace Go.Proofs.YtliekcfcdfakjaaDoor
open Go.RowKit
set_option linter.unusedVariables false
set_option linter.unusedSimpArgs false

set_option maxHeartbeats 1000000 in
theorem fit_any (A : Option Addr) (c : Nat) (l : List Nat) (w : World) (h : Nt w A c l) (hl : l.length ≤ 3000000) (hf : (limbs (V l)).length ≤ 64) :
    Calls Tryd.prog 75 #[.slice A l.length c] w fun e w' => ∃ v, e = .returned (.tuple #[v, .int .i64 0]) ∧ Big w' w.heap.size v (V l) ∧ Below w.heap.size w w' := by
  go_enter Tryd.func75, Tryd.ntmps75
  go_wp2_with (go_at_call 73; refine (clone_any A c l _ h hl).mono ?_; rintro e w1 ⟨v, rfl, b1, hb1⟩; obtain ⟨A1, c1, hv, n1⟩ := b1.nt; subst hv)
  go_ret2
  exact ⟨_, rfl, b1, hb1⟩

set_option maxHeartbeats 1000000 in
theorem Add_any (A : Option Addr) (c : Nat) (l : List Nat) (C : Option Addr) (d : Nat) (m : List Nat) (w : World) (hA : Nt w A c l) (hC : Nt w C d m) (hl : l.length ≤ 64) (hm : m.length ≤ 64) (hf : (limbs (V l + V m)).length ≤ 64) :
    Calls Tryd.prog 79 #[.slice A l.length c, .slice C m.length d] w fun e w' => ∃ v, e = .returned (.tuple #[v, .int .i64 0]) ∧ Big w' w.heap.size v (V l + V m) ∧ Below w.heap.size w w' := by
  have hz : long2E l m = 0 := long2E_zero.2 ⟨hl, hm⟩
  have cC := check_any A c l C d m w
  rw [hz] at cC
  clear hz
  go_enter Tryd.func79, Tryd.ntmps79
  go_wp2_with (first
    | (go_at_call 74; refine (cC).mono ?_; rintro e w' ⟨rfl, rfl⟩)
    | (go_at_call 71; refine (plus_any A c l C d m _ hA hC (by omega) (by omega)).mono ?_; rintro e w1 ⟨v, rfl, b1, hb1⟩; obtain ⟨A1, c1, hv, n1⟩ := b1.nt; subst hv; have cF := fit_any A1 c1 _ w1 n1 (by omega) (by rw [V_limbs]; exact hf); rw [V_limbs] at cF)
    | (go_at_call 75; refine cF.mono ?_; rintro e w2 ⟨v2, rfl, b2, hb2⟩))
  go_ret2
  exact ⟨_, rfl, b2.down hb1.size, below_trans hb1 hb2⟩

set_option maxHeartbeats 1000000 in
theorem Mul_any (A : Option Addr) (c : Nat) (l : List Nat) (C : Option Addr) (d : Nat) (m : List Nat) (w : World) (hA : Nt w A c l) (hC : Nt w C d m) (hl : l.length ≤ 64) (hm : m.length ≤ 64) (hf : (limbs (V l * V m)).length ≤ 64) :
    Calls Tryd.prog 33 #[.slice A l.length c, .slice C m.length d] w fun e w' => ∃ v, e = .returned (.tuple #[v, .int .i64 0]) ∧ Big w' w.heap.size v (V l * V m) ∧ Below w.heap.size w w' := by
  have hz : long2E l m = 0 := long2E_zero.2 ⟨hl, hm⟩
  have cC := check_any A c l C d m w
  rw [hz] at cC
  have cT1 := trim_nt hA
  have cT2 := trim_nt hC
  have e1 := limbs_le hA.dig
  have e2 := limbs_le hC.dig
  have cM := times_any A c _ C d _ w hA.trim hC.trim (by omega) (by omega)
  rw [V_limbs, V_limbs] at cM
  clear hz
  go_enter Tryd.func33, Tryd.ntmps33
  go_wp2_with (first
    | (go_at_call 74; refine (cC).mono ?_; rintro e w' ⟨rfl, rfl⟩)
    | (go_at_call 77; refine Calls.on (args' := #[.slice A l.length c]) rfl ?_; refine cT1.mono ?_; rintro e w' ⟨rfl, rfl⟩)
    | (go_at_call 77; refine Calls.on (args' := #[.slice C m.length d]) rfl ?_; refine cT2.mono ?_; rintro e w' ⟨rfl, rfl⟩)
    | (go_at_call 76; refine cM.mono ?_; rintro e w1 ⟨v, rfl, b1, hb1⟩; obtain ⟨A1, c1, hv, n1⟩ := b1.nt; subst hv; have cF := fit_any A1 c1 _ w1 n1 (by omega) (by rw [V_limbs]; exact hf); rw [V_limbs] at cF)
    | (go_at_call 75; refine cF.mono ?_; rintro e w2 ⟨v2, rfl, b2, hb2⟩))
  go_ret2
  exact ⟨_, rfl, b2.down hb1.size, below_trans hb1 hb2⟩

set_option maxHeartbeats 1000000 in
theorem Compare_any (A : Option Addr) (c : Nat) (l : List Nat) (C : Option Addr) (d : Nat) (m : List Nat) (w : World) (hA : Nt w A c l) (hC : Nt w C d m) (hl : l.length ≤ 64) (hm : m.length ≤ 64) :
    Calls Tryd.prog 35 #[.slice A l.length c, .slice C m.length d] w fun e w' => e = .returned (.tuple #[.int .i64 (cmpI (V l) (V m)), .int .i64 0]) ∧ Below w.heap.size w w' := by
  have hz : long2E l m = 0 := long2E_zero.2 ⟨hl, hm⟩
  have cC := check_any A c l C d m w
  rw [hz] at cC
  have cO := order_any A c l C d m w hA.arr hC.arr hA.len hA.cap hC.len hC.cap hA.dig hC.dig
  clear hz
  go_enter Tryd.func35, Tryd.ntmps35
  go_wp2_with (first
    | (go_at_call 74; refine (cC).mono ?_; rintro e w' ⟨rfl, rfl⟩)
    | (go_at_call 80; refine cO.mono ?_; rintro e w1 ⟨rfl, hb1⟩))
  go_ret2
  exact ⟨rfl, hb1⟩

end Go.Proofs.YtliekcfcdfakjaaDoor
