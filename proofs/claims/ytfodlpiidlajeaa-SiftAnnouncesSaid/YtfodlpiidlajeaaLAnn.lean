/- The statement SiftAnnounces: for any clicks and any range the law returns true and its arguments read as they did. No condition. -/
import Derived.Test.YtfodlpiidlajeaaOpen
import Derived.Test.YtfodlpiidlajeaaKnown
namespace Go.Proofs.Ytfodlpiidlajeaa.siftAnnounces
open Go.ChangeShapes Go.WideShapes Go.ChangeAt Go.RowKit Go.Deep Go.Joins
set_option linter.unusedVariables false
set_option linter.unusedSimpArgs false

set_option maxRecDepth 100000 in
set_option maxHeartbeats 2000000 in
theorem walk (A : Option Addr) (n : Nat) (c : List Clk) (s f t : Int) (w : World) (hA : Arr 2 Clk.enc w w.heap.size A c) (hl : c.length ≤ 9223372036854775807) :
    Calls Try.prog 3 #[.slice A c.length n, .agg #[.int .i64 s, .int .i64 f, .int .i64 t]] w fun e w' => e = .returned (.bool true) ∧ Below w.heap.size w w' := by
  by_cases h4 : 400 < c.length
  · have h4' : decide (400 < (c.length : Int)) = true := by simp; omega
    go_enter Try.func3, Try.ntmps3
    go_wp2_with (go_at_call 15; refine (known_any _).mono ?_; rintro e w2 ⟨rfl, hb2⟩)
    go_ret
    exact ⟨rfl, below_trans (below_alloc (Below.refl _ _) _) hb2⟩
  · have h4' : decide (400 < (c.length : Int)) = false := by simp; omega
    go_enter Try.func3, Try.ntmps3
    go_wp2_with fail
    have hb0 := below_alloc (Below.refl w.heap.size w) (.cells #[.int .i64 s, .int .i64 f, .int .i64 t] 24)
    refine (Announce_any A n c s f t _ (hA.on hb0) (by omega)).mono ?_
    rintro e w1 ⟨v, rfl, hown, hb1⟩
    have d0 : w1.cell? ⟨w.heap.size, 0, none⟩ = some (.int .i64 s) := bel_cell hb1 (new_cell rfl)
    have d1 : w1.cell? ⟨w.heap.size, 1, none⟩ = some (.int .i64 f) := bel_cell hb1 (new_cell rfl)
    have d2 : w1.cell? ⟨w.heap.size, 2, none⟩ = some (.int .i64 t) := bel_cell hb1 (new_cell rfl)
    go_wp2_with fail
    have hb01 := below_trans hb0 hb1
    refine (refAnnounce_any A n c s f t _ (hA.on hb01) (by omega)).mono ?_
    rintro e w2 ⟨v2, rfl, hown2, hb2⟩
    obtain ⟨A1, c1, rfl, _, _, hr1⟩ := Own.form (hown.below hb2) Hrd.enc_len
    obtain ⟨A2, c2, rfl, _, _, hr2⟩ := Own.form hown2 Hrd.enc_len
    have hll : (annL c s f t).length ≤ c.length := by
      unfold annL; split
      · simp
      · exact annTo_le _ _ _ _ _
    go_wp2_with (first
      | (go_at_call 18; refine (sameHeard_same A1 A2 c1 c2 (annL c s f t) _ hr1 hr2 (by omega)).mono ?_; rintro e w3 ⟨rfl, hb3⟩)
      | (go_at_call 15; refine (known_any _).mono ?_; rintro e w4 ⟨rfl, hb4⟩))
    go_ret
    exact ⟨rfl, below_trans (below_trans (below_trans hb01 hb2) hb3) hb4⟩

theorem own : ownKnob Try.prog.godebug = none := by kernel_rfl
theorem laidOut : laidOutB Try.prog = true := by kernel_rfl
theorem cellsR : Try.prog.cellsOf 24 = 3 := by kernel_rfl

set_option maxRecDepth 100000 in
theorem lifted (os : Os) (started : os.Started) (H : Type) (enc : TypeId × Value → H) :
    ReturnsInHanded {} Try.checked os 3 .any (Rows.siftAnnouncesSpec.pre6 enc Try.prog Try.f3 Rows.siftAnnouncesRow.domain false) (Rows.siftAnnouncesSpec.post enc Try.prog Try.f3 false true false false) := by
  refine returnsInHanded_of_change (C := Try.checked) own started (by kernel_rfl) Try.func3
    (ChangeSpec.witness6 (enc := enc) (C := Try.checked) false ⟨#[], #[.slice none 0 0, .agg #[.int .i64 0, .int .i64 0, .int .i64 0]], []⟩ 8 (by kernel_rfl) (by kernel_rfl) (by kernel_rfl) (by kernel_rfl)) ?_
  intro W base args ds gs before hval0 hW hcnd _
  have hval : ∀ (j : Nat) t v, Try.f3.params[j]? = some t → args[j]? = some v → Value.okWide Try.prog W .any base t v := hval0
  have hW' := hW
  obtain ⟨p, q, hA0, hV, rfl, hfz, hnd⟩ := hW
  have hA : DataW.TrodAll enc Try.prog W 0 (fun _ => true) true Try.f3.params.toList args.toList ds p := hA0
  rw [Try.params3] at hA hval
  obtain ⟨v0, vs0, d0, ds0, p0, q0, hargs, rfl, rfl, h0, r0⟩ := trodAll_cons hA
  obtain ⟨v1, vs1, d1, ds1, p1, q1, rfl, rfl, rfl, h1, r1⟩ := trodAll_cons r0
  obtain ⟨rfl, rfl, rfl⟩ := trodAll_nil r1
  obtain rfl : args = #[v0, v1] := by cases args; simp_all
  obtain ⟨rfl, rfl⟩ := trodVars_none hV
  have lt0 : ∀ x ∈ p0, x.block < W.heap.size := by obtain ⟨m, hm⟩ := h0; exact DataW.trod_lt m _ _ _ hm
  have lt1 : ∀ x ∈ p1, x.block < W.heap.size := by obtain ⟨m, hm⟩ := h1; exact DataW.trod_lt m _ _ _ hm
  obtain ⟨A, len, cap, rfl⟩ := okWide_slice Try.underlying22 (hval 0 22 v0 rfl rfl)
  have k0 := h0
  have k1 := h1
  obtain ⟨fuel, hf⟩ := h0
  obtain ⟨A', cap', c, hcs, hlc, hcm, harr, _⟩ := open_arr (enc := Clk.enc) (fun _ => True) Clk.enc_len (by decide) Try.underlying22 (by kernel_rfl) (fun n cs y h => by obtain ⟨x, hx, _⟩ := dec_click h; exact ⟨x, hx, trivial⟩) hf
  simp [Value.cells] at hcs
  obtain ⟨rfl, rfl, rfl⟩ := hcs
  obtain ⟨c0, c1, c2, y0, y1, y2, m, rfl, hd1, hp1, hy0, hy1, hy2⟩ := open_agg3 Try.underlying24 (by kernel_rfl) cellsR (hval 1 24 v1 rfl rfl) h1
  obtain ⟨s, e0, _, _⟩ := DataW.trod_int Try.underlying3 hy0
  obtain ⟨f, e1, _, _⟩ := DataW.trod_int Try.underlying3 hy1
  obtain ⟨t, e2, _, _⟩ := DataW.trod_int Try.underlying3 hy2
  simp at e0 e1 e2
  subst e0 e1 e2
  clear hA0 hval0
  refine (walk A cap c s f t W harr (by unfold maxLen at hcm; omega)).mono fun e W' ⟨he, bel⟩ => ?_
  subst he
  exact ⟨_, rfl, _, _, _, [], _, [], hW', trodAll_mk1 (shut_bool Try.underlying4 _), trodAll_cons_mk (Below.trod laidOut (by kernel_rfl) (of_decide_eq_true (by kernel_rfl)) k0 bel lt0) (trodAll_cons_mk (Below.trod laidOut (by kernel_rfl) (of_decide_eq_true (by kernel_rfl)) k1 bel lt1) trodAll_mk0), rfl, bel.frame _, fun h => by cases h⟩

theorem over : Rows.siftAnnouncesRow.holds Try.pinned (OpenSpec.ofChange Rows.siftAnnouncesSpec) :=
  OpenClaim.holds_of_wide 3 Try.f3 rfl rfl rfl rfl rfl rfl rfl ⟨rfl, rfl, rfl, rfl, rfl⟩ rfl rfl rfl rfl rfl (by kernel_rfl) Try.func3 (by kernel_rfl)
    (of_decide_eq_true (by kernel_rfl)) (by unfold Func.isWrapper; first | (rw [if_pos (by decide +kernel)]; kernel_rfl) | (rw [if_neg (by decide +kernel)]; exact ⟨rfl, rfl⟩))
    (fun os started H enc _ => lifted os started H enc)

theorem proved : Rows.SiftAnnouncesSaid := over
#print axioms proved
end Go.Proofs.Ytfodlpiidlajeaa.siftAnnounces
