/- Contracts of the program's Match and of the reference's: both return the list 'matL' and the error 'matE'; and of the test of two lists of numbers that read alike. For at most 4611686018427387904 elements. -/
import Derived.Test.YteoaaphjbggobaaGreatDoorRise2
import Derived.Test.YteoaaphjbggobaaGreatDoorRefChk
namespace Go.Proofs.YteoaaphjbggobaaGreatDoor
open Go.RowKit
set_option linter.unusedVariables false
set_option linter.unusedSimpArgs false

def matC (p : List Pls) (l : List Hrd) (k : Nat) : List Int := match l[k]? with
  | none => []
  | some h => match p[h.slot.toNat]? with
    | none => []
    | some x => if x.seen = true ∧ x.basis = h.basis then [h.slot] else []
def matTo (p : List Pls) (l : List Hrd) : Nat → List Int
  | 0 => []
  | k + 1 => matTo p l k ++ matC p l k
theorem matTo_le (p : List Pls) (l : List Hrd) : ∀ n, (matTo p l n).length ≤ n
  | 0 => Nat.le_refl _
  | n + 1 => by
    have := matTo_le p l n
    have h1 : (matC p l n).length ≤ 1 := by
      unfold matC; split
      · simp
      · split
        · simp
        · split <;> simp
    rw [matTo, List.length_append]; omega
theorem matTo_hit {p : List Pls} {l : List Hrd} {k j : Nat} {b : Int} {pbit : Bool} {pc pph : Int} (hq : l[k]? = some ⟨(j : Int), b⟩) (hp : p[j]? = some ⟨b, pbit, pc, pph, true⟩) : matTo p l (k + 1) = matTo p l k ++ [(j : Int)] := by
  simp [matTo, matC, hq, hp]
theorem matTo_miss {p : List Pls} {l : List Hrd} {k j : Nat} {b pb : Int} {pbit : Bool} {pc pph : Int} {ps : Bool} (hq : l[k]? = some ⟨(j : Int), b⟩) (hp : p[j]? = some ⟨pb, pbit, pc, pph, ps⟩) (h : ps = false ∨ pb ≠ b) : matTo p l (k + 1) = matTo p l k := by
  have : ¬ (ps = true ∧ pb = b) := by rcases h with h | h <;> simp [h]
  simp [matTo, matC, hq, hp, this]
def matE (p : List Pls) (l : List Hrd) (f : Int) : Int := if allE Pls.ok p ≠ 0 then allE Pls.ok p else if betwB f 0 4096 = false then 3 else heardE l f (p.length - 1)
def matL (p : List Pls) (l : List Hrd) (f : Int) : List Int := if allE Pls.ok p = 0 ∧ betwB f 0 4096 = true ∧ heardE l f (p.length - 1) = 0 then matTo p l l.length else []
theorem matL_le (p : List Pls) (l : List Hrd) (f : Int) : (matL p l f).length ≤ l.length := by
  unfold matL; split
  · exact matTo_le _ _ _
  · simp
theorem int_info : (Tryz.prog.info? 3).map (fun i => (i.zero, i.size, i.bytes)) = some (some (.int .i64 0), 1, 8) := by kernel_rfl

theorem matE1 {p : List Pls} {l : List Hrd} {f : Int} (h : allE Pls.ok p ≠ 0) : matE p l f = allE Pls.ok p ∧ matL p l f = [] := by simp [matE, matL, h]
theorem matE2 {p : List Pls} {l : List Hrd} {f : Int} (h : allE Pls.ok p = 0) (h1 : betwB f 0 4096 = false) : matE p l f = 3 ∧ matL p l f = [] := by simp [matE, matL, h, h1]
theorem matE3 {p : List Pls} {l : List Hrd} {f : Int} (h : allE Pls.ok p = 0) (h1 : betwB f 0 4096 = true) (h2 : heardE l f (p.length - 1) ≠ 0) : matE p l f = heardE l f (p.length - 1) ∧ matL p l f = [] := by simp [matE, matL, h, h1, h2]
theorem matE4 {p : List Pls} {l : List Hrd} {f : Int} (h : allE Pls.ok p = 0) (h1 : betwB f 0 4096 = true) (h2 : heardE l f (p.length - 1) = 0) : matE p l f = 0 ∧ matL p l f = matTo p l l.length := by simp [matE, matL, h, h1, h2]

set_option maxHeartbeats 1000000 in
theorem Ints_same (A B : Option Addr) (n m : Nat) (l : List Int) (w : World) (hA : Arr 1 encI w w.heap.size A l) (hB : Arr 1 encI w w.heap.size B l) (hl : l.length ≤ 4611686018427387904) :
    Calls Tryz.prog 13 #[.slice A l.length n, .slice B l.length m] w fun e w' => e = .returned (.bool true) ∧ Below w.heap.size w w' := by
  go_enter Tryz.func13, Tryz.ntmps13
  go_wp2
  go_loopw [5] (fun i wr => ∃ k : Nat, k ≤ l.length ∧ i = .int .i64 k ∧ Below w.heap.size w wr) (fun i _ => l.length - (intOf i).toNat)
  case atStart => exact ⟨0, Nat.zero_le _, rfl, Below.refl _ _⟩
  case round =>
    obtain ⟨k, hk, rfl, hb⟩ := hrel
    by_cases hlt : k < l.length
    · obtain ⟨b, off, x, rfl, hbb, hq, c0⟩ := hA.int hlt hb
      obtain ⟨b', off', x', rfl, hbb', hq', c0'⟩ := hB.int hlt hb
      obtain rfl : x = x' := by have := hq.out.symm.trans hq'.out; simpa using this
      have d0 := later_cell c0; have d0' := later_cell c0'
      go_wp2
      (refine wp_region_later (by kernel_rfl) (by kernel_rfl) ?_; (repeat (go_big_quiet_step (fail))); refine wpQuiet_nil ?_; rintro w1 ⟨⟨_, hb1⟩, rfl⟩)
      go_wp2
      go_roundw
      case rel => exact ⟨k + 1, by omega, by go_num, below_trans hb hb1⟩
      case measure => simp [intOf]; omega
    · go_wp2
      go_ret
      exact ⟨rfl, hb⟩

end Go.Proofs.YteoaaphjbggobaaGreatDoor
