/- Contracts of the reference's Xor, Count and Same of bit strings. For at most 65536 bits. -/
import Derived.Test.YtfolgmcoggejbaaGreatMade
import Derived.Test.YtfolgmcoggejbaaGreatProg
namespace Go.Proofs.YtfolgmcoggejbaaGreat
open Go.RowKit
set_option linter.unusedVariables false
set_option linter.unusedSimpArgs false

theorem bool_info2 : (Tryz.prog.info? 4).map (fun i => (i.zero, i.size, i.bytes)) = some (some (.bool false), 1, 1) := by kernel_rfl
def xorL (a b : List Bool) : List Bool := List.zipWith (fun x y => x != y) a b
def cntL (l : List Bool) : Nat := (l.filter id).length
theorem cntL_le (l : List Bool) : cntL l ≤ l.length := List.length_filter_le _ _
theorem cnt_snoc {l : List Bool} {k : Nat} {x : Bool} (h : l[k]? = some x) : cntL (l.take (k + 1)) = cntL (l.take k) + (if x = true then 1 else 0) := by
  unfold cntL; rw [take_snoc h, List.filter_append]; cases x <;> simp
theorem xor_snoc {a b : List Bool} {k : Nat} {x y : Bool} (ha : a[k]? = some x) (hb : b[k]? = some y) : xorL (a.take (k + 1)) (b.take (k + 1)) = xorL (a.take k) (b.take k) ++ [x != y] := by
  have h1 := (List.getElem?_eq_some_iff.1 ha).1
  have h2 := (List.getElem?_eq_some_iff.1 hb).1
  unfold xorL; rw [take_snoc ha, take_snoc hb, List.zipWith_append (by simp; omega)]; rfl
theorem xor_self (a : List Bool) : cntL (xorL a a) = 0 := by
  unfold cntL xorL
  induction a with
  | nil => rfl
  | cons x a ih => simp

end Go.Proofs.YtfolgmcoggejbaaGreat
