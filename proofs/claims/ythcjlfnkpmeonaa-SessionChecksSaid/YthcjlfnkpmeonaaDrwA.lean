/- Contracts of the draws: New, valid, size, Next of the program, Next of the reference. For a state of 64 bits. -/
import Derived.Test.YthcjlfnkpmeonaaProg
import Derived.Test.YthcjlfnkpmeonaaMade
import Derived.Laws.BitsAllLaws
import Derived.Deep.QuietTactic
import Derived.IntWalk
namespace Go.Proofs.Ythcjlfnkpmeonaa
open Go.RowKit
set_option linter.unusedVariables false
set_option linter.unusedSimpArgs false

/-- The state behind a draw, and the number that is drawn. -/
def m64 (x : Nat) : Nat := x % 18446744073709551616
def nxS (s : Nat) : Nat := m64 (m64 (s * 4906513781625342421) + 1181783497276652981)
def nxX (s : Nat) : Nat := m64 ((s ^^^ s / 4294967296) * 7809847782465536323)
def nxY (s : Nat) : Nat := nxX (nxS s) ^^^ nxX (nxS s) / 536870912
theorem m64_lt (x : Nat) : m64 x < 2 ^ 64 := Nat.mod_lt _ (by decide)
theorem wrap_m64 (x : Nat) : IntKind.u64.wrap (x : Int) = (m64 x : Int) := by
  unfold m64
  simp [IntKind.wrap, IntKind.bits, IntKind.signed]
/-- What both texts compute, in numbers that have names: m1 the product, s' the state, h its higher half, x1 the exclusive or, x the product, g its part, y the number. -/
theorem nx_parts (s : Nat) : ∃ m1 s' h x1 x g y : Nat, IntKind.u64.wrap ((s : Int) * 4906513781625342421) = (m1 : Int) ∧ IntKind.u64.wrap (4906513781625342421 * (s : Int)) = (m1 : Int) ∧ IntKind.u64.wrap ((m1 : Int) + 1181783497276652981) = (s' : Int) ∧ (s' : Int) / 4294967296 = (h : Int) ∧ bits .xor .u64 (s' : Int) (h : Int) = (x1 : Int) ∧
    IntKind.u64.wrap ((x1 : Int) * 7809847782465536323) = (x : Int) ∧ IntKind.u64.wrap (7809847782465536323 * (x1 : Int)) = (x : Int) ∧ (x : Int) / 536870912 = (g : Int) ∧ bits .xor .u64 (x : Int) (g : Int) = (y : Int) ∧ Hid (s' = nxS s ∧ y = nxY s ∧ y < 2 ^ 64 ∧ s' < 2 ^ 64 ∧ IntKind.u64.wrap (h : Int) = (h : Int) ∧ (s' : Int).tdiv 4294967296 = (h : Int) ∧ IntKind.u64.wrap (g : Int) = (g : Int) ∧ (x : Int).tdiv 536870912 = (g : Int)) := by
  have l1 := m64_lt (s * 4906513781625342421)
  have l2 : nxS s < 2 ^ 64 := m64_lt _
  have l3 : nxX (nxS s) < 2 ^ 64 := m64_lt _
  have d2 : nxS s / 4294967296 < 2 ^ 64 := Nat.lt_of_le_of_lt (Nat.div_le_self _ _) l2
  have d3 : nxX (nxS s) / 536870912 < 2 ^ 64 := Nat.lt_of_le_of_lt (Nat.div_le_self _ _) l3
  refine ⟨m64 (s * 4906513781625342421), nxS s, nxS s / 4294967296, nxS s ^^^ nxS s / 4294967296, nxX (nxS s), nxX (nxS s) / 536870912, nxY s, ?_, ?_, ?_, ?_, ?_, ?_, ?_, ?_, ?_, Lib.hid ⟨rfl, rfl, Nat.xor_lt_two_pow l3 d3, l2, ?_, rfl, ?_, rfl⟩⟩
  · rw [← wrap_m64]; simp
  · rw [← wrap_m64, Int.mul_comm]; simp
  · exact wrap_m64 (m64 (s * 4906513781625342421) + 1181783497276652981)
  · simp
  · exact u64_xor_nat _ _ l2 d2
  · unfold nxX; rw [← wrap_m64]; simp
  · unfold nxX; rw [← wrap_m64, Int.mul_comm]; simp
  · simp
  · exact u64_xor_nat _ _ l3 d3
  · have e : m64 (nxS s / 4294967296) = nxS s / 4294967296 := Nat.mod_eq_of_lt d2
    rw [wrap_m64, e]
  · have e : m64 (nxX (nxS s) / 536870912) = nxX (nxS s) / 536870912 := Nat.mod_eq_of_lt d3
    rw [wrap_m64, e]

/-- All blocks but b lie as they lay. -/
theorem grown_trans {x y z : World} {r : Option Nat} (h : x.grownBy y r) (k : y.grownBy z r) : x.grownBy z r :=
  ⟨k.os.trans h.os, k.tape.trans h.tape, k.output.trans h.output, Nat.le_trans h.size k.size, fun i hi hr => (k.block i (Nat.lt_of_lt_of_le hi h.size) hr).trans (h.block i hi hr)⟩
theorem grown_up {x y : World} {r : Option Nat} (h : x.grownBy y none) : x.grownBy y r := ⟨h.os, h.tape, h.output, h.size, fun i hi _ => h.block i hi (by simp)⟩
theorem grown_drewN (x : World) (n : Nat) (r : Option Nat) : x.grownBy (x.drewN n) r := ⟨rfl, rfl, rfl, Nat.le_refl _, fun _ _ _ => rfl⟩
theorem grown_setCell (x : World) (b o : Nat) (v : Value) : x.grownBy (x.setCell ⟨b, o, none⟩ v) (some b) :=
  ⟨rfl, rfl, rfl, by show x.heap.size ≤ (x.heap.modify _ _).size; rw [Array.size_modify]; exact Nat.le_refl _, fun k _ hk => Below.heap_setCell x ⟨b, o, none⟩ v k (fun e => hk (by rw [e]))⟩

/-- The state behind so many draws; the bits that are drawn. -/
def drwS (s : Nat) : Nat → Nat
  | 0 => s
  | k + 1 => nxS (drwS s k)
def drwB (s k : Nat) : Bool := decide (nxY (drwS s k) % 2 = 1)
def drwL (s n : Nat) : List Bool := (List.range n).map (drwB s)
theorem drwL_len (s n : Nat) : (drwL s n).length = n := by simp [drwL]
theorem drwL_at {s n k : Nat} (h : k < n) : (drwL s n)[k]? = some (drwB s k) := by simp [drwL, h]
theorem drwL_snoc (s n : Nat) : drwL s (n + 1) = drwL s n ++ [drwB s n] := by simp [drwL, List.range_succ]
theorem lo_bit64 {d : Nat} (hd : d < 2 ^ 64) : (bits BinOp.and IntKind.u64 (d : Int) 1 == 1) = decide (d % 2 = 1) := by
  rw [show (1 : Int) = ((1 : Nat) : Int) from rfl, u64_and_nat d 1 hd (by decide), Nat.and_one_is_mod]
  rw [Bool.eq_iff_iff]; simp; omega
theorem nxY_lt (s : Nat) : nxY s < 2 ^ 64 := by
  obtain ⟨m1, s', h, x1, x, g, y, _, _, _, _, _, _, _, _, _, hid⟩ := nx_parts s
  rw [← hid.out.2.1]; exact hid.out.2.2.1

theorem bool_info3 : (Try.prog.info? 4).map (fun i => (i.zero, i.size, i.bytes)) = some (some (.bool false), 1, 1) := by kernel_rfl
end Go.Proofs.Ythcjlfnkpmeonaa
