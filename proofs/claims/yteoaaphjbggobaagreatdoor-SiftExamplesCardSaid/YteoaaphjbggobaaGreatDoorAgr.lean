/- Contracts of Agreement and of the reference's Agreement and Align: what the program's return. For at most 4096 pulses and clicks. -/
import Derived.Test.YteoaaphjbggobaaGreatDoorRefScore
import Derived.Test.YteoaaphjbggobaaGreatDoorAlign
namespace Go.Proofs.YteoaaphjbggobaaGreatDoor
open Go.RowKit
set_option linter.unusedVariables false
set_option linter.unusedSimpArgs false

def agrV (h : List Pls) (c : List Clk) (s : Int) : Int × Int := if bothE h c ≠ 0 then (0, bothE h c) else if betwB s (-16) 16 = false then (0, 3) else (scS h c s, 0)
theorem agrV_both {h : List Pls} {c : List Clk} {s : Int} (hb : bothE h c ≠ 0) : agrV h c s = (0, bothE h c) := if_pos hb
theorem agrV_range {h : List Pls} {c : List Clk} {s : Int} (hb : bothE h c = 0) (hs : betwB s (-16) 16 = false) : agrV h c s = (0, 3) := by simp [agrV, hb, hs]
theorem agrV_ok {h : List Pls} {c : List Clk} {s : Int} (hb : bothE h c = 0) (hs : betwB s (-16) 16 = true) : agrV h c s = (scS h c s, 0) := by simp [agrV, hb, hs]

set_option maxHeartbeats 1000000 in
theorem Agreement_any (A : Option Addr) (n : Nat) (h : List Pls) (C : Option Addr) (m : Nat) (c : List Clk) (s : Int) (w : World) (hA : Arr 5 Pls.enc w w.heap.size A h) (hC : Arr 2 Clk.enc w w.heap.size C c)
    (hl : h.length ≤ 4096) (hm : c.length ≤ 4096) :
    Calls Tryz.prog 5 #[.slice A h.length n, .slice C c.length m, .int .i64 s] w fun e w' => e = .returned (.tuple #[.int .i64 (agrV h c s).1, .int .i64 (agrV h c s).2]) ∧ Below w.heap.size w w' := by
  by_cases hb : bothE h c = 0
  · cases hs : betwB s (-16) 16
    · rw [agrV_range hb hs]
      have Hb := Lib.hid hb; have Hs := Lib.hid hs
      clear hb hs
      go_enter Tryz.func5, Tryz.ntmps5
      go_wp2_with (first
        | (go_at_call 20; refine (checkBoth_any A n h C m c _ hA hC (by omega) (by omega)).mono ?_; rintro e w2 ⟨rfl, hb2⟩; rw [Hb.out])
        | (go_at_call 21; refine (shiftable_any _ _).mono ?_; rintro e w' ⟨rfl, rfl⟩; rw [Hs.out]))
      go_ret2
      exact ⟨rfl, hb2⟩
    · rw [agrV_ok hb hs]
      have Hb := Lib.hid hb; have Hs := Lib.hid hs
      simp only [betwB, decide_eq_true_eq] at hs
      obtain ⟨s1, s2⟩ := hs
      clear hb
      go_enter Tryz.func5, Tryz.ntmps5
      go_wp2_with (first
        | (go_at_call 20; refine (checkBoth_any A n h C m c _ hA hC (by omega) (by omega)).mono ?_; rintro e w2 ⟨rfl, hb2⟩; rw [Hb.out])
        | (go_at_call 21; refine (shiftable_any _ _).mono ?_; rintro e w' ⟨rfl, rfl⟩; rw [Hs.out])
        | (go_at_call 22; refine (agreement_any A n h C m c s _ (hA.on hb2) (hC.on hb2) hl hm s1 s2).mono ?_; rintro e w3 ⟨rfl, hb3⟩))
      go_ret2
      exact ⟨rfl, below_trans hb2 hb3⟩
  · rw [agrV_both hb]
    have hb' : (bothE h c != 0) = true := by simpa using hb
    go_enter Tryz.func5, Tryz.ntmps5
    go_wp2_with (go_at_call 20; refine (checkBoth_any A n h C m c _ hA hC (by omega) (by omega)).mono ?_; rintro e w2 ⟨rfl, hb2⟩)
    go_ret2
    exact ⟨rfl, hb2⟩

/-- The shifts in the reference's order, from the first on. -/
def shAt (j : Nat) : Int := if j % 2 = 0 then -((j : Int) / 2 + 1) else (j : Int) / 2 + 1
def rs : Nat → List Sft
  | 0 => []
  | j + 1 => rs j ++ [mkS (shAt j)]
theorem rs_all : shTo 16 = mkS 0 :: rs 32 := by kernel_rfl
theorem bestF_rs (h : List Pls) (c : List Clk) : bestF h c (shTo 16) = bestF h c (rs 32) := by
  rw [rs_all]
  unfold bestF
  rw [List.foldl_cons]
  congr 1
  split <;> rfl
theorem shAt_bd {j : Nat} (h : j < 32) : -16 ≤ shAt j ∧ shAt j ≤ 16 := by unfold shAt; split <;> omega

def alM (h : List Pls) (c : List Clk) (need : Int) : Int × Int := if scS h c (bestF h c (rs 32)) < need then (0, 17) else (bestF h c (rs 32), 0)
theorem alM_no {h : List Pls} {c : List Clk} {need : Int} (hx : scS h c (bestF h c (rs 32)) < need) : alM h c need = (0, 17) := if_pos hx
theorem alM_yes {h : List Pls} {c : List Clk} {need : Int} (hx : need ≤ scS h c (bestF h c (rs 32))) : alM h c need = (bestF h c (rs 32), 0) := if_neg (by omega)

end Go.Proofs.YteoaaphjbggobaaGreatDoor
