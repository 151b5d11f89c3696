/- Contracts of Class and Sent, the program's and the reference's. For at most 4096 slots. -/
import Derived.Test.YteoaaphjbggobaaGreatMatch
import Derived.Test.YteoaaphjbggobaaGreatMade
namespace Go.Proofs.YteoaaphjbggobaaGreat
open Go.RowKit
set_option linter.unusedVariables false
set_option linter.unusedSimpArgs false

theorem bool_info : (Tryz.prog.info? 4).map (fun i => (i.zero, i.size, i.bytes)) = some (some (.bool false), 1, 1) := by kernel_rfl

def clsAt (p : List Pls) (s : Int) : Int := (p[s.toNat]?.map Pls.cls).getD 0
def bitAt (p : List Pls) (s : Int) : Bool := (p[s.toNat]?.map Pls.bit).getD false
def clsTo (p : List Pls) (l : List Int) (c : Int) (k : Nat) : List Int := (l.take k).filter fun s => decide (clsAt p s = c)
def clsE (p : List Pls) (l : List Int) (c : Int) : Int := if allE Pls.ok p ≠ 0 then allE Pls.ok p else if betwB c 0 2 = false then 2 else slotsE l 0 (p.length - 1)
def clsL (p : List Pls) (l : List Int) (c : Int) : List Int := if clsE p l c = 0 then clsTo p l c l.length else []
def sntE (p : List Pls) (l : List Int) : Int := if allE Pls.ok p ≠ 0 then allE Pls.ok p else slotsE l 0 (p.length - 1)
def sntL (p : List Pls) (l : List Int) : List Bool := if sntE p l = 0 then l.map (bitAt p) else []
theorem clsTo_hit {p : List Pls} {l : List Int} {c : Int} {k : Nat} {x : Int} (hx : l[k]? = some x) (h : clsAt p x = c) : clsTo p l c (k + 1) = clsTo p l c k ++ [x] := by
  simp [clsTo, take_snoc hx, List.filter_append, h]
theorem clsTo_miss {p : List Pls} {l : List Int} {c : Int} {k : Nat} {x : Int} (hx : l[k]? = some x) (h : ¬ clsAt p x = c) : clsTo p l c (k + 1) = clsTo p l c k := by
  simp [clsTo, take_snoc hx, List.filter_append, h]
theorem clsTo_le (p : List Pls) (l : List Int) (c : Int) (k : Nat) : (clsTo p l c k).length ≤ k := by
  have := List.length_filter_le (fun s => decide (clsAt p s = c)) (l.take k)
  simp only [List.length_take] at this; unfold clsTo; omega
theorem clsL_le (p : List Pls) (l : List Int) (c : Int) : (clsL p l c).length ≤ l.length := by
  unfold clsL; split
  · exact clsTo_le _ _ _ _
  · simp
theorem sntL_le (p : List Pls) (l : List Int) : (sntL p l).length ≤ l.length := by unfold sntL; split <;> simp
theorem clsAt_of {p : List Pls} {j : Nat} {pb : Int} {pbit : Bool} {pc pph : Int} {ps : Bool} (h : p[j]? = some ⟨pb, pbit, pc, pph, ps⟩) : clsAt p (j : Int) = pc := by simp [clsAt, h]
theorem bitAt_of {p : List Pls} {j : Nat} {pb : Int} {pbit : Bool} {pc pph : Int} {ps : Bool} (h : p[j]? = some ⟨pb, pbit, pc, pph, ps⟩) : bitAt p (j : Int) = pbit := by simp [bitAt, h]

theorem clsE1 {p : List Pls} {l : List Int} {f : Int} (h : allE Pls.ok p ≠ 0) : clsE p l f = allE Pls.ok p ∧ clsL p l f = [] := by simp [clsL, clsE, h]
theorem clsE2 {p : List Pls} {l : List Int} {f : Int} (h : allE Pls.ok p = 0) (h1 : betwB f 0 2 = false) : clsE p l f = 2 ∧ clsL p l f = [] := by simp [clsL, clsE, h, h1]
theorem clsE3 {p : List Pls} {l : List Int} {f : Int} (h : allE Pls.ok p = 0) (h1 : betwB f 0 2 = true) (h2 : slotsE l 0 (p.length - 1) ≠ 0) : clsE p l f = slotsE l 0 (p.length - 1) ∧ clsL p l f = [] := by simp [clsL, clsE, h, h1, h2]
theorem clsE4 {p : List Pls} {l : List Int} {f : Int} (h : allE Pls.ok p = 0) (h1 : betwB f 0 2 = true) (h2 : slotsE l 0 (p.length - 1) = 0) : clsE p l f = 0 ∧ clsL p l f = clsTo p l f l.length := by simp [clsL, clsE, h, h1, h2]

end Go.Proofs.YteoaaphjbggobaaGreat
