/- Contract of the reference's Singles, the main case, and of both. For any arrangement, gains and number. -/
import Derived.Test.YteoaaphjbggobaaGreatDoorSngC
namespace Go.Proofs.YteoaaphjbggobaaGreatDoor
open Go.RowKit
set_option linter.unusedVariables false
set_option linter.unusedSimpArgs false

theorem key_mul {h H k : Nat} (e : (256 : Int) * (h : Int) = (H : Int)) : 256 * k * h = H * k := by
  have e2 : 256 * h = H := by omega
  rw [← e2, Nat.mul_right_comm]
theorem mul_lt8 {x y : Nat} (hx : x < B32 ^ 4) (hy : y < B32) : x * y < B32 ^ 8 := by
  have h1 : x * y < B32 ^ 4 * B32 := Nat.mul_lt_mul'' hx hy
  rw [← Nat.pow_succ] at h1
  exact Nat.lt_of_lt_of_le h1 (Nat.pow_le_pow_right (by decide) (by decide))
theorem sng_any {f : Nat} {args : Array Value} {w : World} {o : Opt} {g : Gn} {n : Int}
    (h1 : gainsE o g ≠ 0 → Calls Tryz.prog f args w fun e w' => e = .returned (.tuple #[.int .i64 0, .int .i64 (gainsE o g)]) ∧ Below w.heap.size w w')
    (h2 : gainsE o g = 0 → ¬ (0 ≤ n ∧ n ≤ 512) → Calls Tryz.prog f args w fun e w' => e = .returned (.tuple #[.int .i64 0, .int .i64 3]) ∧ Below w.heap.size w w')
    (h3 : gainsE o g = 0 → 0 ≤ n ∧ n ≤ 512 → g.h2 = 0 → Calls Tryz.prog f args w fun e w' => e = .returned (.tuple #[.int .i64 0, .int .i64 0]) ∧ Below w.heap.size w w')
    (h4 : gainsE o g = 0 → 0 ≤ n ∧ n ≤ 512 → g.h2 ≠ 0 → Calls Tryz.prog f args w fun e w' => e = .returned (.tuple #[.int .i64 ((min n.toNat (brN 0 (yNum o g) (yDen o g) * (n * o.s1 * g.a2).toNat / (brD 0 (yNum o g) (yDen o g) * (256 * g.h2).toNat)) : Nat) : Int), .int .i64 0]) ∧ Below w.heap.size w w') :
    Calls Tryz.prog f args w fun e w' => e = .returned (.tuple #[.int .i64 (sngK o g n : Int), .int .i64 (sngE o g n)]) ∧ Below w.heap.size w w' := by
  by_cases hE : gainsE o g = 0
  · by_cases hn : 0 ≤ n ∧ n ≤ 512
    · have e1 : sngE o g n = 0 := by unfold sngE; rw [if_neg (by simp [hE]), if_pos hn]
      by_cases hz : g.h2 = 0
      · have e2 : sngK o g n = 0 := by unfold sngK; rw [if_neg (by simp [e1]), if_pos hz]
        rw [e1, e2]
        exact h3 hE hn hz
      · unfold sngK
        rw [if_neg (by simp [e1]), if_neg hz, e1]
        exact h4 hE hn hz
    · have e1 : sngE o g n = 3 := by unfold sngE; rw [if_neg (by simp [hE]), if_neg hn]
      have e2 : sngK o g n = 0 := by unfold sngK; rw [if_pos (by simp [e1])]
      rw [e1, e2]
      exact h2 hE hn
  · have e1 : sngE o g n = gainsE o g := by unfold sngE; rw [if_pos hE]
    have e2 : sngK o g n = 0 := by unfold sngK; rw [if_pos (by rw [e1]; exact hE)]
    rw [e1, e2]
    exact h1 hE
theorem Singles_any (o : Opt) (g : Gn) (n : Int) (w : World) : Calls Tryz.prog 17 #[o.val, g.val, .int .i64 n] w fun e w' => e = .returned (.tuple #[.int .i64 (sngK o g n : Int), .int .i64 (sngE o g n)]) ∧ Below w.heap.size w w' := sng_any (sng_no o g n w) (sng_out o g n w) (sng_zero o g n w) (sng_main o g n w)
end Go.Proofs.YteoaaphjbggobaaGreatDoor
