/- Contracts of exact's Divide and Small. For numbers of at most 64 limbs; Small for a number below 2^32. -/
import Derived.Test.YtbobbcfjjdmdgaaGcdE
import Derived.Test.YtbobbcfjjdmdgaaNatM
namespace Go.Proofs.Ytbobbcfjjdmdgaa
open Go.RowKit
set_option linter.unusedVariables false
set_option linter.unusedSimpArgs false

set_option maxRecDepth 100000 in
set_option maxHeartbeats 2000000 in
theorem Divide_any (A : Option Addr) (c : Nat) (l : List Nat) (C : Option Addr) (d : Nat) (m : List Nat) (w : World) (hA : Nt w A c l) (hC : Nt w C d m) (hl : l.length ≤ 64) (hm : m.length ≤ 64) (h0 : 0 < V m) :
    Calls Try.prog 62 #[.slice A l.length c, .slice C m.length d] w fun e w' => ∃ v1 v2, e = .returned (.tuple #[v1, v2, .int .i64 0]) ∧ Big w' w.heap.size v1 (V l / V m) ∧ Below w.heap.size w w' := by
  have cK := check_any A c l C d m w
  have e0 : long2E l m = 0 := long2E_zero.2 ⟨hl, hm⟩
  rw [e0] at cK
  have cZ := size_any C d m w hC (by omega)
  have z0 : ((bitLen (V m) : Int) == 0) = false := by
    have := bitLen_pos h0
    simp; omega
  have cS := split_any A c l C d m w hA hC (by omega) (by omega) h0
  clear e0
  go_enter Try.func62, Try.ntmps62
  go_wp2_with (first | (go_at_call 116; refine (cK).mono ?_; rintro e w' ⟨rfl, rfl⟩) | (go_at_call 117; refine (cZ).mono ?_; rintro e w' ⟨rfl, rfl⟩))
  refine cS.mono ?_
  rintro e w1 ⟨v1, v2, rfl, b1, b2, hb1⟩
  obtain ⟨A1, a1, rfl, _⟩ := b1.nt
  obtain ⟨A2, a2, rfl, _⟩ := b2.nt
  go_wp2_with fail
  refine bodyPost_ret (v := .tuple #[.slice A1 (limbs (V l / V m)).length a1, .slice A2 (limbs (V l % V m)).length a2, .int .i64 0]) ?_ rfl ⟨_, _, rfl, b1, hb1⟩
  unfold results
  go_simp

theorem or_zero64 {u : Nat} (h : u < 4294967296) : bits .or .u64 0 (u : Int) = (u : Int) := by
  have := u64_or_nat 0 u (by decide) (by omega)
  simpa using this

set_option maxRecDepth 100000 in
set_option maxHeartbeats 2000000 in
theorem Small_any (A : Option Addr) (c n : Nat) (w : World) (hA : Nt w A c (limbs n)) (hn : n < 4294967296) :
    Calls Try.prog 63 #[.slice A (limbs n).length c] w fun e w' => e = .returned (.tuple #[.int .u64 (n : Int), .int .i64 0]) ∧ w = w' := by
  have cT := trim_nt hA
  rw [V_limbs] at cT
  have l1 := limbs_small (n := n) hn
  have cK := Check_any A c (limbs n) w
  have k0 : longE (limbs n) = 0 := by unfold longE; rw [if_neg (by omega)]
  rw [k0] at cK
  clear k0
  rcases Nat.eq_zero_or_pos n with rfl | hp
  · have e0 : (limbs 0).length = 0 := by rw [limbs_zero]; rfl
    rw [e0] at cT cK ⊢
    clear hA l1 e0
    go_enter Try.func63, Try.ntmps63
    go_wp2_with (first | (go_at_call 123; refine (cK).mono ?_; rintro e w' ⟨rfl, rfl⟩) | (go_at_call 119; refine (cT).mono ?_; rintro e w' ⟨rfl, rfl⟩))
    go_loop [5, 19] (fun x i => x = .int .u64 0 ∧ i = .int .i64 0) (fun _ _ => 0)
    case atStart => exact ⟨rfl, rfl⟩
    case round =>
      obtain ⟨rfl, rfl⟩ := hrel
      go_wp2_with fail
      go_ret2
      exact ⟨rfl, rfl⟩
  · have e1 : (limbs n).length = 1 := by
      have : (limbs n).length ≠ 0 := fun e => by have := limbs_none e; omega
      omega
    obtain ⟨u, hu⟩ : ∃ u, limbs n = [u] := List.length_eq_one_iff.1 e1
    have hun : u = n := by
      have := V_limbs n
      rw [hu, V_one] at this
      exact this
    subst hun
    obtain ⟨b, off, rfl, _, hc⟩ := hA.arr (by rw [hu]; simp)
    have c0 : w.cell? ⟨b, off, none⟩ = some (.int .u32 (u : Int)) := by
      have := hc 0 u (by rw [hu]; rfl) 0 _ rfl
      simpa using this
    rw [e1] at cT cK ⊢
    clear hA l1 e1 hu hc
    go_enter Try.func63, Try.ntmps63
    go_wp2_with (first | (go_at_call 123; refine (cK).mono ?_; rintro e w' ⟨rfl, rfl⟩) | (go_at_call 119; refine (cT).mono ?_; rintro e w' ⟨rfl, rfl⟩))
    go_loop [5, 19] (fun x i => (x = .int .u64 0 ∧ i = .int .i64 0) ∨ (x = .int .u64 (u : Int) ∧ i = .int .i64 1)) (fun _ i => 1 - (intOf i).toNat)
    case atStart => exact .inl ⟨rfl, rfl⟩
    case round =>
      rcases hrel with ⟨rfl, rfl⟩ | ⟨rfl, rfl⟩
      · go_wp2_with fail
        exact ⟨.inr ⟨congrArg (Value.int .u64) (or_zero64 hn), rfl⟩, by simp [intOf]⟩
      · go_wp2_with fail
        go_ret2
        exact ⟨rfl, rfl⟩

end Go.Proofs.Ytbobbcfjjdmdgaa
