/- Contract of exact's choose. For binomials of at most 512 things. -/
import Derived.Test.YtbobbcfjjdmdgaaNumAll
namespace Go.Proofs.Ytbobbcfjjdmdgaa
open Go.RowKit
set_option linter.unusedVariables false
set_option linter.unusedSimpArgs false

set_option maxRecDepth 100000 in
set_option maxHeartbeats 2000000 in
theorem choose_any (n k : Nat) (w : World) (hn : n ≤ 512) (hk : k ≤ 1000000) :
    Calls Try.prog 203 #[.int .i64 n, .int .i64 k] w fun e w' => ∃ v, e = .returned v ∧ Big w' w.heap.size v (ch n k) ∧ Below w.heap.size w w' := by
  by_cases hkn : n < k
  · have h0 : ch n k = 0 := ch_gt hkn
    rw [h0]
    go_enter Try.func203, Try.ntmps203
    go_wp2
    go_ret
    exact ⟨_, rfl, by unfold Big limbs; rw [digB_zero]; exact Own.nil, Below.refl _ _⟩
  obtain ⟨M, hM, hMs, hMc⟩ : ∃ M : Nat, M ≤ n ∧ ch n M = ch n k ∧ (k ≤ n - k ∧ M = k ∨ n - k < k ∧ M = n - k) := by
    rcases Nat.lt_or_ge (n - k) k with h | h
    · exact ⟨n - k, by omega, ch_symm (by omega), .inr ⟨h, rfl⟩⟩
    · exact ⟨k, by omega, rfl, .inl ⟨h, rfl⟩⟩
  rw [← hMs]
  clear hMs
  obtain ⟨d, hd⟩ : ∃ d : Nat, (n : Int) - (k : Int) = (d : Int) := ⟨n - k, by omega⟩
  have hMc' : k ≤ d ∧ M = k ∨ d < k ∧ M = d := by omega
  have g1 : decide (n < k) = false := by simp; omega
  have g2 : decide ((k : Int) < 0) = false := by simp
  clear hMc
  rcases hMc' with ⟨h1, h2⟩ | ⟨h1, h2⟩ <;> subst h2
  all_goals (
    go_enter Try.func203, Try.ntmps203
    go_wp2
    have hMi : M ≤ 512 := by omega
    go_loopw [5, 20] (fun v i wr => ∃ j : Nat, j ≤ M ∧ i = .int .i64 j ∧ Big wr w.heap.size v (ch n j) ∧ Below w.heap.size w wr) (fun _ i _ => M - (intOf i).toNat)
    case atStart => exact ⟨0, Nat.zero_le _, rfl, by rw [ch_zero]; exact big_lit w w.heap.size 1 (by decide) (by decide) (Nat.le_refl _), below_alloc (Below.refl _ _) _⟩
    case round =>
      obtain ⟨j, hj, rfl, big, hb⟩ := hrel
      by_cases hlt : j < M
      · obtain ⟨A1, c1, rfl, nt1⟩ := big.nt
        have cN := next_any A1 c1 _ n j wr nt1 (by have := ch_len (n := n) (k := j) hn; omega) (by omega) (by omega)
        rw [V_limbs, ch_div] at cN
        go_wp2_with (go_at_call 227; refine cN.mono ?_; rintro e' w5 ⟨v, rfl, big5, hb5⟩)
        go_roundw
        case rel => first | exact ⟨j + 1, by omega, by go_num, big5.down hb.size, hb.trans (hb5.mono hb.size)⟩ | ((repeat apply Exists.intro); exact ⟨⟨j + 1, by omega, by go_num, big5.down hb.size, hb.trans (hb5.mono hb.size)⟩, rfl⟩)
        case measure => (simp [intOf] <;> omega)
      · obtain rfl : j = M := by omega
        go_wp2
        go_ret
        exact ⟨_, rfl, big, hb⟩)

end Go.Proofs.Ytbobbcfjjdmdgaa
