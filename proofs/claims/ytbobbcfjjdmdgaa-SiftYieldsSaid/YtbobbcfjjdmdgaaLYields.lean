/- The statement SiftYields: for any arrangement and yields the law returns true and its arguments read as they did. No condition. -/
import Derived.Test.YtbobbcfjjdmdgaaOpnO
import Derived.Test.YtbobbcfjjdmdgaaYlsW
namespace Go.Proofs.Ytbobbcfjjdmdgaa.siftYields
open Go.ChangeShapes Go.WideShapes Go.ChangeAt Go.RowKit Go.Deep Go.Joins
set_option linter.unusedVariables false
set_option linter.unusedSimpArgs false

section
variable {H : Type} {en : TypeId × Value → H} {w : World} {base : Nat} {sp : Nat → Bool} {held : Bool}
theorem one_u8 {fuel : Nat} {c : Value} {y : DataW H × List MemPlace} (h : DataW.trod en Try.prog w base sp held fuel 5 [c] = some y) : ∃ x : Nat, c = .int .u8 (x : Int) ∧ x < 256 := by
  obtain ⟨x, e, _, wf⟩ := DataW.trod_int Try.underlying5 h
  have hb := bounds_u8 wf
  obtain ⟨x, rfl⟩ := Int.eq_ofNat_of_zero_le hb.1
  exact ⟨x, by simpa using e, by omega⟩
theorem four_u8 {fuel : Nat} {c0 c1 c2 c3 : Value} {y : DataW H × List MemPlace} (h : DataW.trod en Try.prog w base sp held fuel 27 [c0, c1, c2, c3] = some y) : ∃ x0 x1 x2 x3 : Nat, c0 = .int .u8 (x0 : Int) ∧ c1 = .int .u8 (x1 : Int) ∧ c2 = .int .u8 (x2 : Int) ∧ c3 = .int .u8 (x3 : Int) ∧ x0 < 256 ∧ x1 < 256 ∧ x2 < 256 ∧ x3 < 256 := by
  obtain ⟨_, _, _, _, _, _, h0, h1, h2, h3⟩ := trod_array4 Try.underlying27 (by kernel_rfl) h
  obtain ⟨x0, e0, l0⟩ := one_u8 h0
  obtain ⟨x1, e1, l1⟩ := one_u8 h1
  obtain ⟨x2, e2, l2⟩ := one_u8 h2
  obtain ⟨x3, e3, l3⟩ := one_u8 h3
  exact ⟨x0, x1, x2, x3, e0, e1, e2, e3, l0, l1, l2, l3⟩
set_option maxRecDepth 100000 in
theorem open_yields {W : World} {base2 : Nat} {v : Value} {d : DataW H} {p : List MemPlace} (hv : Value.okWide Try.prog W .any base2 29 v) (h : DataW.Trod en Try.prog w base sp held 29 v d p) :
    ∃ of k0 k1 k2 k3 j0 j1 j2 j3 : Nat, v = .agg #[.int .u8 (of : Int), .int .u8 (k0 : Int), .int .u8 (k1 : Int), .int .u8 (k2 : Int), .int .u8 (k3 : Int), .int .u8 (j0 : Int), .int .u8 (j1 : Int), .int .u8 (j2 : Int), .int .u8 (j3 : Int)] ∧ of < 256 ∧ (k0 < 256 ∧ k1 < 256 ∧ k2 < 256 ∧ k3 < 256) ∧ (j0 < 256 ∧ j1 < 256 ∧ j2 < 256 ∧ j3 < 256) := by
  obtain ⟨cs, rfl, hsz⟩ := okWide_struct Try.underlying29 hv
  obtain ⟨c0, c1, c2, c3, c4, c5, c6, c7, c8, rfl⟩ := arr9 (hsz.trans (show Try.prog.cellsOf 29 = 9 from by kernel_rfl))
  obtain ⟨fuel, hf⟩ := h
  obtain ⟨xs, n, _, _, _, hl, hd⟩ := DataW.trod_struct Try.underlying29 hf
  obtain ⟨_, z0⟩ := field_of hd hl 0 5 0 1 (by kernel_rfl) (by kernel_rfl)
  obtain ⟨_, z1⟩ := field_of hd hl 1 27 1 4 (by kernel_rfl) (by kernel_rfl)
  obtain ⟨_, z2⟩ := field_of hd hl 2 27 5 4 (by kernel_rfl) (by kernel_rfl)
  obtain ⟨x0, rfl, l0⟩ := one_u8 z0
  obtain ⟨x1, x2, x3, x4, rfl, rfl, rfl, rfl, l1⟩ := four_u8 z1
  obtain ⟨x5, x6, x7, x8, rfl, rfl, rfl, rfl, l2⟩ := four_u8 z2
  exact ⟨x0, x1, x2, x3, x4, x5, x6, x7, x8, rfl, l0, l1, l2⟩
end

theorem walk (o : Opt) (of k0 k1 k2 k3 j0 j1 j2 j3 : Nat) (w : World) (h : of < 256 ∧ (k0 < 256 ∧ k1 < 256 ∧ k2 < 256 ∧ k3 < 256) ∧ (j0 < 256 ∧ j1 < 256 ∧ j2 < 256 ∧ j3 < 256)) : Calls Try.prog 3 #[o.val, .agg #[.int .u8 (of : Int), .int .u8 (k0 : Int), .int .u8 (k1 : Int), .int .u8 (k2 : Int), .int .u8 (k3 : Int), .int .u8 (j0 : Int), .int .u8 (j1 : Int), .int .u8 (j2 : Int), .int .u8 (j3 : Int)]] w fun e w' => e = .returned (.bool true) ∧ Below w.heap.size w w' := by
  by_cases hs : suitE o = 0
  · exact yields_main o of k0 k1 k2 k3 j0 j1 j2 j3 w hs h.1 h.2.1 h.2.2
  · exact yields_no o of k0 k1 k2 k3 j0 j1 j2 j3 w hs

theorem own : ownKnob Try.prog.godebug = none := by kernel_rfl
theorem laidOut : laidOutB Try.prog = true := by kernel_rfl

set_option maxRecDepth 100000 in
theorem lifted (os : Os) (started : os.Started) (H : Type) (enc : TypeId × Value → H) :
    ReturnsInHanded {} Try.checked os 3 .any (Rows.siftYieldsSpec.pre6 enc Try.prog Try.f3 Rows.siftYieldsRow.domain false) (Rows.siftYieldsSpec.post enc Try.prog Try.f3 false true false false) := by
  refine returnsInHanded_of_change (C := Try.checked) own started (by kernel_rfl) Try.func3
    (ChangeSpec.witness6 (enc := enc) (C := Try.checked) false ⟨#[], #[.agg #[.int .i64 0, .int .i64 0, .int .i64 0, .int .i64 0, .int .i64 0, .int .i64 0, .int .i64 0, .int .i64 0, .int .i64 0, .int .i64 0, .int .i64 0, .int .i64 0, .int .i64 0, .int .i64 0, .int .i64 0, .int .i64 0, .int .i64 0, .int .i64 0], .agg #[.int .u8 0, .int .u8 0, .int .u8 0, .int .u8 0, .int .u8 0, .int .u8 0, .int .u8 0, .int .u8 0, .int .u8 0]], []⟩ 8 (by kernel_rfl) (by kernel_rfl) (by kernel_rfl) (by kernel_rfl)) ?_
  intro W base args ds gs before hval0 hW hcnd _
  have hval : ∀ (j : Nat) t v, Try.f3.params[j]? = some t → args[j]? = some v → Value.okWide Try.prog W .any base t v := hval0
  have hW' := hW
  obtain ⟨p, q, hA0, hV, rfl, hfz, hnd⟩ := hW
  have hA : DataW.TrodAll enc Try.prog W 0 (fun _ => true) true Try.f3.params.toList args.toList ds p := hA0
  rw [Try.params3] at hA hval
  obtain ⟨v0, vs0, d0, ds0, p0, q0, hargs, rfl, rfl, h0, r0⟩ := trodAll_cons hA
  obtain ⟨v1, vs1, d1, ds1, p1, q1, rfl, rfl, rfl, h1, r1⟩ := trodAll_cons r0
  obtain ⟨rfl, rfl, rfl⟩ := trodAll_nil r1
  obtain rfl : args = #[v0, v1] := by cases args; simp_all
  obtain ⟨rfl, rfl⟩ := trodVars_none hV
  have lt0 : ∀ x ∈ p0, x.block < W.heap.size := by obtain ⟨m, hm⟩ := h0; exact DataW.trod_lt m _ _ _ hm
  have k0 := h0
  obtain ⟨x0, rfl⟩ := open_opt (hval 0 26 v0 rfl rfl) h0
  have lt1 : ∀ x ∈ p1, x.block < W.heap.size := by obtain ⟨m, hm⟩ := h1; exact DataW.trod_lt m _ _ _ hm
  have k1 := h1
  obtain ⟨of1, k10, k11, k12, k13, j10, j11, j12, j13, rfl, f1⟩ := open_yields (hval 1 29 v1 rfl rfl) h1
  clear hA0 hval0
  refine (walk x0 of1 k10 k11 k12 k13 j10 j11 j12 j13 W f1).mono fun e W' ⟨he, bel⟩ => ?_
  subst he
  exact ⟨_, rfl, _, _, _, [], _, [], hW', trodAll_mk1 (shut_bool Try.underlying4 _), (trodAll_cons_mk (Below.trod laidOut (by kernel_rfl) (of_decide_eq_true (by kernel_rfl)) k0 bel lt0) (trodAll_cons_mk (Below.trod laidOut (by kernel_rfl) (of_decide_eq_true (by kernel_rfl)) k1 bel lt1) trodAll_mk0)), rfl, bel.frame _, fun h => by cases h⟩

theorem over : Rows.siftYieldsRow.holds Try.pinned (OpenSpec.ofChange Rows.siftYieldsSpec) :=
  OpenClaim.holds_of_wide 3 Try.f3 rfl rfl rfl rfl rfl rfl rfl ⟨rfl, rfl, rfl, rfl, rfl⟩ rfl rfl rfl rfl rfl (by kernel_rfl) Try.func3 (by kernel_rfl)
    (of_decide_eq_true (by kernel_rfl)) (by unfold Func.isWrapper; first | (rw [if_pos (by decide +kernel)]; kernel_rfl) | (rw [if_neg (by decide +kernel)]; exact ⟨rfl, rfl⟩))
    (fun os started H enc _ => lifted os started H enc)

theorem proved : Rows.SiftYieldsSaid := over
#print axioms proved
end Go.Proofs.Ytbobbcfjjdmdgaa.siftYields
