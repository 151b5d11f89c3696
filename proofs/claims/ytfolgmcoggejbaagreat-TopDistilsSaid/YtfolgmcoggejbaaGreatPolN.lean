/- Contracts of the methods of a pool that is not valid: they do nothing. For a nil pointer, or one to a pool without numbers. -/
import Derived.Test.YtfolgmcoggejbaaGreatProg
import Derived.Test.YtfolgmcoggejbaaGreatMade
namespace Go.Proofs.YtfolgmcoggejbaaGreat
open Go.RowKit
set_option linter.unusedVariables false
set_option linter.unusedSimpArgs false

/-- A pool that is not valid. -/
def NoPool (w : World) (p : Value) : Prop := p = .pointer none ∨ ∃ b, p = .pointer (some ⟨b, 0, none⟩) ∧ w.cell? ⟨b, 0, none⟩ = some (.pointer none)
theorem NoPool.on {w w' : World} {p : Value} (h : NoPool w p) (hb : Below w.heap.size w w') : NoPool w' p := by
  rcases h with h | ⟨b, h, hc⟩
  · exact .inl h
  · exact .inr ⟨b, h, bel_cell hb hc⟩

set_option maxHeartbeats 400000 in
theorem novalid_any {p : Value} (w : World) (h : NoPool w p) : Calls Tryz.prog 136 #[p] w fun e w' => e = .returned (.bool false) ∧ w = w' := by
  rcases h with rfl | ⟨b, rfl, hc⟩
  all_goals (
    go_enter Tryz.func136, Tryz.ntmps136
    go_wp2
    go_ret
    exact ⟨rfl, rfl⟩)
set_option maxHeartbeats 400000 in
theorem nowith_any {p : Value} (n : Int) (m f : Value) (w : World) (h : NoPool w p) : Calls Tryz.prog 130 #[p, .int .i64 n, m, f] w fun e w' => e = .returned (.int .i64 1) ∧ w = w' := by
  have cV := novalid_any w h
  go_enter Tryz.func130, Tryz.ntmps130
  go_wp2_with (go_at_call 136; refine (cV).mono ?_; rintro e w' ⟨rfl, rfl⟩)
  go_ret
  exact ⟨rfl, rfl⟩
set_option maxHeartbeats 400000 in
theorem noSeal_any {p : Value} (n : Int) (A : Option Addr) (l c : Nat) (w : World) (h : NoPool w p) : Calls Tryz.prog 125 #[p, .int .i64 n, .slice A l c] w fun e w' => e = .returned (.tuple #[.int .u64 0, .int .i64 1]) ∧ Below w.heap.size w w' := by
  have cW := fun f w' (hb : Below w.heap.size w w') => nowith_any n (.slice A l c) f w' (h.on hb)
  go_enter Tryz.func125, Tryz.ntmps125
  go_wp2_with (go_at_call 130; refine (cW _ _ (below_alloc (Below.refl _ _) _)).mono ?_; rintro e w' ⟨rfl, rfl⟩)
  go_ret2
  exact ⟨rfl, below_alloc (Below.refl _ _) _⟩
set_option maxHeartbeats 400000 in
theorem noOpen_any {p : Value} (n : Int) (A : Option Addr) (l c : Nat) (t : Int) (w : World) (h : NoPool w p) : Calls Tryz.prog 71 #[p, .int .i64 n, .slice A l c, .int .u64 t] w fun e w' => e = .returned (.int .i64 1) ∧ Below w.heap.size w w' := by
  have cW := fun f w' (hb : Below w.heap.size w w') => nowith_any n (.slice A l c) f w' (h.on hb)
  go_enter Tryz.func71, Tryz.ntmps71
  go_wp2_with (go_at_call 130; refine (cW _ _ (below_alloc (Below.refl _ _) _)).mono ?_; rintro e w' ⟨rfl, rfl⟩)
  go_ret
  exact ⟨rfl, below_alloc (Below.refl _ _) _⟩
set_option maxHeartbeats 400000 in
theorem noNext_any {p : Value} (n : Int) (w : World) (h : NoPool w p) : Calls Tryz.prog 124 #[p, .int .i64 n] w fun e w' => e = .returned (.tuple #[.int .i64 0, .int .i64 1]) ∧ w = w' := by
  have cV := novalid_any w h
  go_enter Tryz.func124, Tryz.ntmps124
  go_wp2_with (go_at_call 136; refine (cV).mono ?_; rintro e w' ⟨rfl, rfl⟩)
  go_ret2
  exact ⟨rfl, rfl⟩
set_option maxHeartbeats 400000 in
theorem noRoom_any {p : Value} (w : World) (h : NoPool w p) : Calls Tryz.prog 172 #[p] w fun e w' => e = .returned (.int .i64 0) ∧ w = w' := by
  have cV := novalid_any w h
  go_enter Tryz.func172, Tryz.ntmps172
  go_wp2_with (go_at_call 136; refine (cV).mono ?_; rintro e w' ⟨rfl, rfl⟩)
  go_ret
  exact ⟨rfl, rfl⟩
set_option maxHeartbeats 400000 in
theorem noUsed_any {p : Value} (w : World) (h : NoPool w p) : Calls Tryz.prog 78 #[p] w fun e w' => e = .returned (.slice none 0 0) ∧ w = w' := by
  have cV := novalid_any w h
  go_enter Tryz.func78, Tryz.ntmps78
  go_wp2_with (go_at_call 136; refine (cV).mono ?_; rintro e w' ⟨rfl, rfl⟩)
  go_ret
  exact ⟨rfl, rfl⟩
set_option maxHeartbeats 400000 in
theorem noCopy_any {p : Value} (w : World) (h : NoPool w p) : Calls Tryz.prog 79 #[p] w fun e w' => e = .returned (.pointer none) ∧ w = w' := by
  have cV := novalid_any w h
  go_enter Tryz.func79, Tryz.ntmps79
  go_wp2_with (go_at_call 136; refine (cV).mono ?_; rintro e w' ⟨rfl, rfl⟩)
  go_ret
  exact ⟨rfl, rfl⟩

end Go.Proofs.YtfolgmcoggejbaaGreat
