/- Plain laws of the yield and of the faults: the sum of terms is the document's numerator. No condition. -/
import Derived.Test.YteoaaphjbggobaaGreatDoorSumAll
import Derived.Test.YteoaaphjbggobaaGreatDoorBrtA
import Derived.Test.YteoaaphjbggobaaGreatDoorOptAll
namespace Go.Proofs.YteoaaphjbggobaaGreatDoor
open Go.RowKit
set_option linter.unusedVariables false
set_option linter.unusedSimpArgs false

def yNum (o : Opt) (g : Gn) : Int := 256 * o.s2 * g.h1 * g.a0 * g.a2 - 256 * o.w2 * g.h2 * g.a0 * g.a1 - (o.s2 * o.w0 - o.w2 * o.s0) * g.h0 * g.a1 * g.a2
def yDen (o : Opt) (g : Gn) : Int := (o.s2 * o.w1 - o.w2 * o.s1) * g.a0 * g.a1 * g.a2
def fNum (o : Opt) (g : Gn) : Int := 256 * g.x1 * g.a0 - o.w0 * g.x0 * g.a1
def fDen (o : Opt) (g : Gn) : Int := o.w1 * g.a0 * g.a1
/-- Numerator and denominator of a number of this range, 0 where it is refused. -/
def brN (E num den : Int) : Nat := if E = 0 then rdN (brtN num den.toNat) den.toNat else 0
def brD (E num den : Int) : Nat := if E = 0 then rdD (brtN num den.toNat) den.toNat else 0
/-- A fraction and an error. -/
def FrP (w w' : World) (N D : Nat) (E : Int) (e : Ending) : Prop := ∃ v1 v2, e = .returned (.tuple #[.agg #[v1, v2], .int .i64 E]) ∧ Big w' w.heap.size v1 N ∧ Big w' w.heap.size v2 D ∧ Below w.heap.size w w'

theorem pos_neg (c : Int) : (posN c : Int) - (negN c : Int) = c := by unfold posN negN; omega
theorem min_brt {x y D : Nat} {num : Int} (h : (x : Int) - (y : Int) = num) : min (x - y) D = brtN num D := by unfold brtN; omega
/-- One more term. -/
theorem term_step {x y : Nat} {num : Int} (h : (x : Int) - (y : Int) = num) (c : Int) (n t : Nat) : ((x + posN c * n * t : Nat) : Int) - ((y + negN c * n * t : Nat) : Int) = num + c * n * t := by
  have e := pos_neg c
  have h1 : ((posN c * n * t : Nat) : Int) = (posN c : Int) * n * t := by simp
  have h2 : ((negN c * n * t : Nat) : Int) = (negN c : Int) * n * t := by simp
  rw [Int.natCast_add, Int.natCast_add, h1, h2]
  have h3 : (posN c : Int) * n * t - (negN c : Int) * n * t = c * n * t := by rw [← Int.sub_mul, ← Int.sub_mul, e]
  omega
theorem posN_le {c : Int} (h : -65536 ≤ c ∧ c ≤ 65536) : posN c ≤ 65536 ∧ negN c ≤ 65536 := by unfold posN negN; omega
theorem term_le {p n t : Nat} (hp : p ≤ 65536) (hn : n ≤ 4096) (ht : t ≤ 4096 * 4096) : p * n * t ≤ 65536 * 4096 * (4096 * 4096) := Nat.mul_le_mul (Nat.mul_le_mul hp hn) ht
/-- Small sums are below B32 ^ 4. -/
theorem sum_lt {x : Nat} (h : x ≤ 3 * (65536 * 4096 * (4096 * 4096))) : x < B32 ^ 4 := Nat.lt_of_le_of_lt h (by decide)
theorem prod3_le {a b c : Nat} (ha : a ≤ 4096) (hb : b ≤ 4096) (hc : c ≤ 4096) : a * b * c ≤ 4096 * 4096 * 4096 := Nat.mul_le_mul (Nat.mul_le_mul ha hb) hc

end Go.Proofs.YteoaaphjbggobaaGreatDoor
