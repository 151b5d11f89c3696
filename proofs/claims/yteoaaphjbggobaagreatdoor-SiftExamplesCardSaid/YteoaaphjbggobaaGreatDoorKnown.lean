/- The small example with which each statement of layer 4 ends: 'known' returns true. No condition. -/
import Derived.Test.YteoaaphjbggobaaGreatDoorAnn
import Derived.Test.YteoaaphjbggobaaGreatDoorAlign
namespace Go.Proofs.YteoaaphjbggobaaGreatDoor
open Go.RowKit
set_option linter.unusedVariables false
set_option linter.unusedSimpArgs false

def exC : List Clk := [⟨1, 1⟩, ⟨0, 2⟩, ⟨1, 1⟩]
def exP : List Pls := [⟨0, true, 2, 1, true⟩, ⟨1, false, 2, 1, true⟩]
theorem ex_annE : annE exC 1 0 2 = 0 := by decide +kernel
theorem ex_annL : annL exC 1 0 2 = [⟨0, 0⟩, ⟨1, 1⟩] := by kernel_rfl
theorem ex_align : alignV exP exC 2 = (1, 0) := by decide +kernel

theorem ex_announce (w : World) (n : Nat) (A : Option Addr) (hA : Arr 2 Clk.enc w w.heap.size A exC) :
    Calls Tryz.prog 7 #[.slice A 3 n, .int .i64 1, .int .i64 0, .int .i64 2] w fun e w' => ∃ b c, e = .returned (.tuple #[.slice (some ⟨b, 0, none⟩) 2 c, .int .i64 0]) ∧
      w'.cell? ⟨b, 0, none⟩ = some (.int .i64 0) ∧ w'.cell? ⟨b, 1, none⟩ = some (.int .i64 0) ∧ w'.cell? ⟨b, 2, none⟩ = some (.int .i64 1) ∧ w'.cell? ⟨b, 3, none⟩ = some (.int .i64 1) ∧ Below w.heap.size w w' := by
  refine (Announce_any A n exC 1 0 2 w hA (by decide)).mono ?_
  rintro e w' ⟨v, rfl, hown, hb⟩
  rw [ex_annL] at hown
  rw [ex_annE]
  rcases hown.2 with ⟨_, h0⟩ | ⟨g, cap, cur, rfl, _⟩
  · cases h0
  · have hc := World.ownsRow.cells (v := .slice (some ⟨g, 0, none⟩) 2 cap) hown rfl
    exact ⟨g, cap, rfl, hc 0 _ rfl, hc 1 _ rfl, hc 2 _ rfl, hc 3 _ rfl, hb⟩
theorem ex_aligned (w : World) (n m : Nat) (A C : Option Addr) (hA : Arr 5 Pls.enc w w.heap.size A exP) (hC : Arr 2 Clk.enc w w.heap.size C exC) :
    Calls Tryz.prog 6 #[.slice A 2 n, .slice C 3 m, .int .i64 2] w fun e w' => e = .returned (.tuple #[.int .i64 1, .int .i64 0]) ∧ Below w.heap.size w w' := by
  refine (Align_any A n exP C m exC 2 w hA hC (by decide) (by decide)).mono ?_
  rintro e w' ⟨rfl, hb⟩
  rw [ex_align]
  exact ⟨rfl, hb⟩

set_option maxRecDepth 100000 in
set_option maxHeartbeats 1000000 in
theorem known_any (w : World) : Calls Tryz.prog 19 #[] w fun e w' => e = .returned (.bool true) ∧ Below w.heap.size w w' := by
  go_enter Tryz.func19, Tryz.ntmps19
  go_wp2_with fail
  have hA := arr_lit (enc := Clk.enc) (sz := 2) w exC #[.int .i64 1, .int .i64 1, .int .i64 0, .int .i64 2, .int .i64 1, .int .i64 1] 27 rfl Clk.enc_len
  have hb0 := below_alloc (Below.refl w.heap.size w) (.cells #[.int .i64 1, .int .i64 1, .int .i64 0, .int .i64 2, .int .i64 1, .int .i64 1] 27)
  refine (ex_announce _ 3 _ hA).mono ?_
  rintro e w1 ⟨b, cp, rfl, c0, c1, c2, c3, hb1⟩
  go_wp2_with fail
  have hP := arr_lit (enc := Pls.enc) (sz := 5) w1 exP #[.int .i64 0, .bool true, .int .i64 2, .int .i64 1, .bool true, .int .i64 1, .bool false, .int .i64 2, .int .i64 1, .bool true] 23 rfl Pls.enc_len
  refine (ex_aligned _ 2 3 _ _ hP (hA.on (below_alloc hb1 _))).mono ?_
  rintro e w2 ⟨rfl, hb2⟩
  have hb3 := below_trans (below_alloc hb1 _) hb2
  have d0 := bel_cell hb2 (bel_cell (below_alloc (Below.refl _ _) _) c0)
  have d1 := bel_cell hb2 (bel_cell (below_alloc (Below.refl _ _) _) c1)
  have d2 := bel_cell hb2 (bel_cell (below_alloc (Below.refl _ _) _) c2)
  have d3 := bel_cell hb2 (bel_cell (below_alloc (Below.refl _ _) _) c3)
  clear c0 c1 c2 c3
  go_wp2_with fail
  go_ret
  exact ⟨rfl, below_trans hb0 hb3⟩

end Go.Proofs.YteoaaphjbggobaaGreatDoor
