/- What an invalid station, or pair, does: nothing. No condition. -/
import Derived.Test.YtfolgmcoggejbaaGreatSesL
namespace Go.Proofs.YtfolgmcoggejbaaGreat
open Go.RowKit
set_option linter.unusedVariables false
set_option linter.unusedSimpArgs false

/-- A pointer to nothing, or to a struct that was not made. -/
def Bad (w : World) (v : Value) : Prop := v = .pointer none ∨ ∃ b, v = .pointer (some ⟨b, 0, none⟩) ∧ w.cell? ⟨b, 0, none⟩ = some (.bool false)
theorem Bad.on {w w' : World} {v : Value} (h : Bad w v) (hb : Below w.heap.size w w') : Bad w' v := h.imp id fun ⟨b, h1, h2⟩ => ⟨b, h1, bel_cell hb h2⟩
theorem svalid_bad (v : Value) (w : World) (h : Bad w v) : Calls Tryz.prog 60 #[v] w fun e w' => e = .returned (.bool false) ∧ w = w' := by
  rcases h with rfl | ⟨b, rfl, c0⟩
  all_goals (
    go_enter Tryz.func60, Tryz.ntmps60
    go_wp2_with fail
    go_ret
    exact ⟨rfl, rfl⟩)
theorem pvalid_bad (v : Value) (w : World) (h : Bad w v) : Calls Tryz.prog 82 #[v] w fun e w' => e = .returned (.bool false) ∧ w = w' := by
  rcases h with rfl | ⟨b, rfl, c0⟩
  all_goals (
    go_enter Tryz.func82, Tryz.ntmps82
    go_wp2_with fail
    go_ret
    exact ⟨rfl, rfl⟩)
set_option maxHeartbeats 1000000 in
theorem sBegin_bad (v : Value) (a : Int) (w : World) (h : Bad w v) : Calls Tryz.prog 19 #[v, .int .i64 a, .slice none 0 0, .slice none 0 0] w fun e w' => e = .returned (.tuple #[.slice none 0 0, .int .i64 1]) ∧ Below w.heap.size w w' := by
  have cV := fun w' (hb : Below w.heap.size w w') => svalid_bad v w' (h.on hb)
  have q0 := Below.refl w.heap.size w
  have q1 := fun o => below_alloc (Below.refl w.heap.size w) o
  go_enter Tryz.func19, Tryz.ntmps19
  go_wp2_with (first | (go_at_call 60; refine (cV _ q0).mono ?_; rintro e w' ⟨rfl, rfl⟩) | (go_at_call 60; refine (cV _ (q1 _)).mono ?_; rintro e w' ⟨rfl, rfl⟩))
  first | go_ret2 | go_ret
  first | exact ⟨rfl, q0⟩ | exact ⟨rfl, q1 _⟩
set_option maxHeartbeats 1000000 in
theorem sTake_bad (v : Value) (a k : Int) (w : World) (h : Bad w v) : Calls Tryz.prog 20 #[v, .agg #[.int .i64 a, .int .i64 k, .int .i64 0, .slice none 0 0, .int .u64 0]] w fun e w' => e = .returned (.tuple #[.slice none 0 0, .int .i64 1]) ∧ Below w.heap.size w w' := by
  have cV := fun w' (hb : Below w.heap.size w w') => svalid_bad v w' (h.on hb)
  have q0 := Below.refl w.heap.size w
  have q1 := fun o => below_alloc (Below.refl w.heap.size w) o
  go_enter Tryz.func20, Tryz.ntmps20
  go_wp2_with (first | (go_at_call 60; refine (cV _ q0).mono ?_; rintro e w' ⟨rfl, rfl⟩) | (go_at_call 60; refine (cV _ (q1 _)).mono ?_; rintro e w' ⟨rfl, rfl⟩))
  first | go_ret2 | go_ret
  first | exact ⟨rfl, q0⟩ | exact ⟨rfl, q1 _⟩
set_option maxHeartbeats 1000000 in
theorem sTick_bad (v : Value) (w : World) (h : Bad w v) : Calls Tryz.prog 21 #[v] w fun e w' => e = .returned (.tuple #[.slice none 0 0, .int .i64 1]) ∧ Below w.heap.size w w' := by
  have cV := fun w' (hb : Below w.heap.size w w') => svalid_bad v w' (h.on hb)
  have q0 := Below.refl w.heap.size w
  have q1 := fun o => below_alloc (Below.refl w.heap.size w) o
  go_enter Tryz.func21, Tryz.ntmps21
  go_wp2_with (first | (go_at_call 60; refine (cV _ q0).mono ?_; rintro e w' ⟨rfl, rfl⟩) | (go_at_call 60; refine (cV _ (q1 _)).mono ?_; rintro e w' ⟨rfl, rfl⟩))
  first | go_ret2 | go_ret
  first | exact ⟨rfl, q0⟩ | exact ⟨rfl, q1 _⟩
set_option maxHeartbeats 1000000 in
theorem sCrash_bad (v : Value) (w : World) (h : Bad w v) : Calls Tryz.prog 22 #[v] w fun e w' => e = .returned (.int .i64 1) ∧ Below w.heap.size w w' := by
  have cV := fun w' (hb : Below w.heap.size w w') => svalid_bad v w' (h.on hb)
  have q0 := Below.refl w.heap.size w
  have q1 := fun o => below_alloc (Below.refl w.heap.size w) o
  go_enter Tryz.func22, Tryz.ntmps22
  go_wp2_with (first | (go_at_call 60; refine (cV _ q0).mono ?_; rintro e w' ⟨rfl, rfl⟩) | (go_at_call 60; refine (cV _ (q1 _)).mono ?_; rintro e w' ⟨rfl, rfl⟩))
  first | go_ret2 | go_ret
  first | exact ⟨rfl, q0⟩ | exact ⟨rfl, q1 _⟩
set_option maxHeartbeats 1000000 in
theorem sRestart_bad (v : Value) (w : World) (h : Bad w v) : Calls Tryz.prog 23 #[v] w fun e w' => e = .returned (.int .i64 1) ∧ Below w.heap.size w w' := by
  have cV := fun w' (hb : Below w.heap.size w w') => svalid_bad v w' (h.on hb)
  have q0 := Below.refl w.heap.size w
  have q1 := fun o => below_alloc (Below.refl w.heap.size w) o
  go_enter Tryz.func23, Tryz.ntmps23
  go_wp2_with (first | (go_at_call 60; refine (cV _ q0).mono ?_; rintro e w' ⟨rfl, rfl⟩) | (go_at_call 60; refine (cV _ (q1 _)).mono ?_; rintro e w' ⟨rfl, rfl⟩))
  first | go_ret2 | go_ret
  first | exact ⟨rfl, q0⟩ | exact ⟨rfl, q1 _⟩
set_option maxHeartbeats 1000000 in
theorem sPhase_bad (v : Value) (w : World) (h : Bad w v) : Calls Tryz.prog 24 #[v] w fun e w' => e = .returned (.int .i64 0) ∧ Below w.heap.size w w' := by
  have cV := fun w' (hb : Below w.heap.size w w') => svalid_bad v w' (h.on hb)
  have q0 := Below.refl w.heap.size w
  have q1 := fun o => below_alloc (Below.refl w.heap.size w) o
  go_enter Tryz.func24, Tryz.ntmps24
  go_wp2_with (first | (go_at_call 60; refine (cV _ q0).mono ?_; rintro e w' ⟨rfl, rfl⟩) | (go_at_call 60; refine (cV _ (q1 _)).mono ?_; rintro e w' ⟨rfl, rfl⟩))
  first | go_ret2 | go_ret
  first | exact ⟨rfl, q0⟩ | exact ⟨rfl, q1 _⟩
set_option maxHeartbeats 1000000 in
theorem sSession_bad (v : Value) (w : World) (h : Bad w v) : Calls Tryz.prog 25 #[v] w fun e w' => e = .returned (.int .i64 0) ∧ Below w.heap.size w w' := by
  have cV := fun w' (hb : Below w.heap.size w w') => svalid_bad v w' (h.on hb)
  have q0 := Below.refl w.heap.size w
  have q1 := fun o => below_alloc (Below.refl w.heap.size w) o
  go_enter Tryz.func25, Tryz.ntmps25
  go_wp2_with (first | (go_at_call 60; refine (cV _ q0).mono ?_; rintro e w' ⟨rfl, rfl⟩) | (go_at_call 60; refine (cV _ (q1 _)).mono ?_; rintro e w' ⟨rfl, rfl⟩))
  first | go_ret2 | go_ret
  first | exact ⟨rfl, q0⟩ | exact ⟨rfl, q1 _⟩
set_option maxHeartbeats 1000000 in
theorem sReason_bad (v : Value) (w : World) (h : Bad w v) : Calls Tryz.prog 26 #[v] w fun e w' => e = .returned (.int .i64 0) ∧ Below w.heap.size w w' := by
  have cV := fun w' (hb : Below w.heap.size w w') => svalid_bad v w' (h.on hb)
  have q0 := Below.refl w.heap.size w
  have q1 := fun o => below_alloc (Below.refl w.heap.size w) o
  go_enter Tryz.func26, Tryz.ntmps26
  go_wp2_with (first | (go_at_call 60; refine (cV _ q0).mono ?_; rintro e w' ⟨rfl, rfl⟩) | (go_at_call 60; refine (cV _ (q1 _)).mono ?_; rintro e w' ⟨rfl, rfl⟩))
  first | go_ret2 | go_ret
  first | exact ⟨rfl, q0⟩ | exact ⟨rfl, q1 _⟩
set_option maxHeartbeats 1000000 in
theorem sRecords_bad (v : Value) (w : World) (h : Bad w v) : Calls Tryz.prog 27 #[v] w fun e w' => e = .returned (.slice none 0 0) ∧ Below w.heap.size w w' := by
  have cV := fun w' (hb : Below w.heap.size w w') => svalid_bad v w' (h.on hb)
  have q0 := Below.refl w.heap.size w
  have q1 := fun o => below_alloc (Below.refl w.heap.size w) o
  go_enter Tryz.func27, Tryz.ntmps27
  go_wp2_with (first | (go_at_call 60; refine (cV _ q0).mono ?_; rintro e w' ⟨rfl, rfl⟩) | (go_at_call 60; refine (cV _ (q1 _)).mono ?_; rintro e w' ⟨rfl, rfl⟩))
  first | go_ret2 | go_ret
  first | exact ⟨rfl, q0⟩ | exact ⟨rfl, q1 _⟩
set_option maxHeartbeats 1000000 in
theorem sUsed_bad (v : Value) (w : World) (h : Bad w v) : Calls Tryz.prog 28 #[v] w fun e w' => e = .returned (.slice none 0 0) ∧ Below w.heap.size w w' := by
  have cV := fun w' (hb : Below w.heap.size w w') => svalid_bad v w' (h.on hb)
  have q0 := Below.refl w.heap.size w
  have q1 := fun o => below_alloc (Below.refl w.heap.size w) o
  go_enter Tryz.func28, Tryz.ntmps28
  go_wp2_with (first | (go_at_call 60; refine (cV _ q0).mono ?_; rintro e w' ⟨rfl, rfl⟩) | (go_at_call 60; refine (cV _ (q1 _)).mono ?_; rintro e w' ⟨rfl, rfl⟩))
  first | go_ret2 | go_ret
  first | exact ⟨rfl, q0⟩ | exact ⟨rfl, q1 _⟩
set_option maxHeartbeats 1000000 in
theorem sCopy_bad (v : Value) (w : World) (h : Bad w v) : Calls Tryz.prog 29 #[v] w fun e w' => e = .returned (.pointer none) ∧ Below w.heap.size w w' := by
  have cV := fun w' (hb : Below w.heap.size w w') => svalid_bad v w' (h.on hb)
  have q0 := Below.refl w.heap.size w
  have q1 := fun o => below_alloc (Below.refl w.heap.size w) o
  go_enter Tryz.func29, Tryz.ntmps29
  go_wp2_with (first | (go_at_call 60; refine (cV _ q0).mono ?_; rintro e w' ⟨rfl, rfl⟩) | (go_at_call 60; refine (cV _ (q1 _)).mono ?_; rintro e w' ⟨rfl, rfl⟩))
  first | go_ret2 | go_ret
  first | exact ⟨rfl, q0⟩ | exact ⟨rfl, q1 _⟩
set_option maxHeartbeats 1000000 in
theorem pSettle_bad (v : Value) (a : Int) (w : World) (h : Bad w v) : Calls Tryz.prog 30 #[v, .int .i64 a] w fun e w' => e = .returned (.tuple #[.int .i64 0, .int .i64 1]) ∧ Below w.heap.size w w' := by
  have cV := fun w' (hb : Below w.heap.size w w') => pvalid_bad v w' (h.on hb)
  have q0 := Below.refl w.heap.size w
  have q1 := fun o => below_alloc (Below.refl w.heap.size w) o
  go_enter Tryz.func30, Tryz.ntmps30
  go_wp2_with (first | (go_at_call 82; refine (cV _ q0).mono ?_; rintro e w' ⟨rfl, rfl⟩) | (go_at_call 82; refine (cV _ (q1 _)).mono ?_; rintro e w' ⟨rfl, rfl⟩))
  first | go_ret2 | go_ret
  first | exact ⟨rfl, q0⟩ | exact ⟨rfl, q1 _⟩
set_option maxHeartbeats 1000000 in
theorem pDo_bad (v : Value) (a k : Int) (w : World) (h : Bad w v) : Calls Tryz.prog 32 #[v, .agg #[.int .i64 a, .int .i64 k, .int .i64 0]] w fun e w' => e = .returned (.int .i64 1) ∧ Below w.heap.size w w' := by
  have cV := fun w' (hb : Below w.heap.size w w') => pvalid_bad v w' (h.on hb)
  have q0 := Below.refl w.heap.size w
  have q1 := fun o => below_alloc (Below.refl w.heap.size w) o
  go_enter Tryz.func32, Tryz.ntmps32
  go_wp2_with (first | (go_at_call 82; refine (cV _ q0).mono ?_; rintro e w' ⟨rfl, rfl⟩) | (go_at_call 82; refine (cV _ (q1 _)).mono ?_; rintro e w' ⟨rfl, rfl⟩))
  first | go_ret2 | go_ret
  first | exact ⟨rfl, q0⟩ | exact ⟨rfl, q1 _⟩
set_option maxHeartbeats 1000000 in
theorem pFlying_bad (v : Value) (w : World) (h : Bad w v) : Calls Tryz.prog 33 #[v] w fun e w' => e = .returned (.slice none 0 0) ∧ Below w.heap.size w w' := by
  have cV := fun w' (hb : Below w.heap.size w w') => pvalid_bad v w' (h.on hb)
  have q0 := Below.refl w.heap.size w
  have q1 := fun o => below_alloc (Below.refl w.heap.size w) o
  go_enter Tryz.func33, Tryz.ntmps33
  go_wp2_with (first | (go_at_call 82; refine (cV _ q0).mono ?_; rintro e w' ⟨rfl, rfl⟩) | (go_at_call 82; refine (cV _ (q1 _)).mono ?_; rintro e w' ⟨rfl, rfl⟩))
  first | go_ret2 | go_ret
  first | exact ⟨rfl, q0⟩ | exact ⟨rfl, q1 _⟩
set_option maxHeartbeats 1000000 in
theorem pFlight_bad (v : Value) (w : World) (h : Bad w v) : Calls Tryz.prog 31 #[v] w fun e w' => e = .returned (.agg #[.slice none 0 0, .slice none 0 0, .slice none 0 0, .int .i64 0]) ∧ Below w.heap.size w w' := by
  have q1 := below_alloc (Below.refl w.heap.size w) (.cells #[.slice none 0 0, .slice none 0 0, .slice none 0 0, .int .i64 0] 102)
  have cV := pvalid_bad v _ (h.on q1)
  go_enter Tryz.func31, Tryz.ntmps31
  go_wp2_with (first
    | (refine Great.wpList_allocTo rfl (some 2) rfl (.pointer (some ⟨w.heap.size, 0, none⟩)) (.cells #[.slice none 0 0, .slice none 0 0, .slice none 0 0, .int .i64 0] 102) (by kernel_rfl) ?_)
    | (go_at_call 82; refine (cV).mono ?_; rintro e w' ⟨rfl, rfl⟩)
    | (refine wpList_buildAs rfl 102 _ rfl #[] (by kernel_rfl) #[.slice none 0 0, .slice none 0 0, .slice none 0 0, .int .i64 0] (by kernel_rfl) ?_)
    | (refine wpList_store_row rfl 102 _ _ rfl w.heap.size #[.slice none 0 0, .slice none 0 0, .slice none 0 0, .int .i64 0] (by kernel_rfl) (by kernel_rfl) 102 #[.slice none 0 0, .slice none 0 0, .slice none 0 0, .int .i64 0] (heap_last9 _ _) (by kernel_rfl) rfl (by kernel_rfl) ?_))
  rw [World.setRow_alloc_new]
  refine bodyPost_ret (v := .agg #[.slice none 0 0, .slice none 0 0, .slice none 0 0, .int .i64 0]) ?_ rfl ⟨rfl, q1⟩
  exact results_cell_row rfl _ _ w.heap.size 102 #[.slice none 0 0, .slice none 0 0, .slice none 0 0, .int .i64 0] (0, 0) _ (by rfl) (heap_last9 _ _) Tryz.underlying102 rfl (by kernel_rfl)
set_option maxHeartbeats 1000000 in
theorem pStation_bad (v : Value) (a : Int) (w : World) (h : Bad w v) : Calls Tryz.prog 34 #[v, .int .i64 a] w fun e w' => e = .returned (.pointer none) ∧ Below w.heap.size w w' := by
  have cV := fun w' (hb : Below w.heap.size w w') => pvalid_bad v w' (h.on hb)
  have q0 := Below.refl w.heap.size w
  have q1 := fun o => below_alloc (Below.refl w.heap.size w) o
  go_enter Tryz.func34, Tryz.ntmps34
  go_wp2_with (first | (go_at_call 82; refine (cV _ q0).mono ?_; rintro e w' ⟨rfl, rfl⟩) | (go_at_call 82; refine (cV _ (q1 _)).mono ?_; rintro e w' ⟨rfl, rfl⟩))
  first | go_ret2 | go_ret
  first | exact ⟨rfl, q0⟩ | exact ⟨rfl, q1 _⟩
set_option maxHeartbeats 1000000 in
theorem pCollided_bad (v : Value) (w : World) (h : Bad w v) : Calls Tryz.prog 35 #[v] w fun e w' => e = .returned (.slice none 0 0) ∧ Below w.heap.size w w' := by
  have cV := fun w' (hb : Below w.heap.size w w') => pvalid_bad v w' (h.on hb)
  have q0 := Below.refl w.heap.size w
  have q1 := fun o => below_alloc (Below.refl w.heap.size w) o
  go_enter Tryz.func35, Tryz.ntmps35
  go_wp2_with (first | (go_at_call 82; refine (cV _ q0).mono ?_; rintro e w' ⟨rfl, rfl⟩) | (go_at_call 82; refine (cV _ (q1 _)).mono ?_; rintro e w' ⟨rfl, rfl⟩))
  first | go_ret2 | go_ret
  first | exact ⟨rfl, q0⟩ | exact ⟨rfl, q1 _⟩
set_option maxHeartbeats 1000000 in
theorem pCopy_bad (v : Value) (w : World) (h : Bad w v) : Calls Tryz.prog 36 #[v] w fun e w' => e = .returned (.pointer none) ∧ Below w.heap.size w w' := by
  have cV := fun w' (hb : Below w.heap.size w w') => pvalid_bad v w' (h.on hb)
  have q0 := Below.refl w.heap.size w
  have q1 := fun o => below_alloc (Below.refl w.heap.size w) o
  go_enter Tryz.func36, Tryz.ntmps36
  go_wp2_with (first | (go_at_call 82; refine (cV _ q0).mono ?_; rintro e w' ⟨rfl, rfl⟩) | (go_at_call 82; refine (cV _ (q1 _)).mono ?_; rintro e w' ⟨rfl, rfl⟩))
  first | go_ret2 | go_ret
  first | exact ⟨rfl, q0⟩ | exact ⟨rfl, q1 _⟩

end Go.Proofs.YtfolgmcoggejbaaGreat
