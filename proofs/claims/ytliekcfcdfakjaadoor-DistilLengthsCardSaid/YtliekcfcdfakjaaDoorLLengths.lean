/- The statement DistilLengths: for any three numbers and any ledger the law returns true and its arguments read as they did. No condition but what the card ties: the listed tables are as the program's text lays them. -/
import Derived.Test.YtliekcfcdfakjaaDoorDoorD
import Derived.Test.YtliekcfcdfakjaaDoorKnownD
import Derived.Test.YtliekcfcdfakjaaDoorTie
import Derived.Test.YtliekcfcdfakjaaDoorCards
import Derived.SevenTiedAt
namespace Go.Proofs.YtliekcfcdfakjaaDoor.distilLengths
open Go.ChangeShapes Go.WideShapes Go.ChangeAt Go.RowKit Go.Deep Go.Joins
set_option linter.unusedVariables false
set_option linter.unusedSimpArgs false

set_option maxHeartbeats 400000 in
theorem small_any (t : Int) (w : World) : Calls Tryd.prog 13 #[.int .i64 t] w fun e w' => e = .returned (.bool (decide (t ≤ 60 ∨ 512 < t))) ∧ w = w' := by
  go_enter Tryd.func13, Tryd.ntmps13
  go_wp2
  all_goals (go_ret; exact ⟨ret_bool (by first | (rw [Bool.eq_iff_iff]; simp; omega) | (rw [Bool.eq_iff_iff]; simp; done) | (simp; omega) | (simp; done) | rfl), rfl⟩)

set_option maxRecDepth 100000 in
set_option maxHeartbeats 2000000 in
theorem main (n t : Int) (A : Option Addr) (c : Nat) (l : List Itm) (m : Int) (w : World) (ht : Tab w) (h : Arr 2 Itm.enc w w.heap.size A l) (ht1 : -9223372036854775808 ≤ t) (ht2 : t ≤ 9223372036854775807) :
    Calls Tryd.prog 3 #[.int .i64 n, .int .i64 t, .slice A l.length c, .int .i64 m] w fun e w' => e = .returned (.bool true) ∧ Below w.heap.size w w' := by
  have htl := ht.lt
  obtain ⟨b, hb⟩ : ∃ b, decide (n ≤ 60 ∨ 512 < n) = b := ⟨_, rfl⟩
  by_cases hc : b = true ∧ l.length ≤ 50
  · obtain ⟨rfl, hc⟩ := hc
    have d1 : decide (50 < (l.length : Int)) = false := by simp; omega
    obtain ⟨C, hC⟩ : ∃ C, costI n t = C := ⟨_, rfl⟩
    obtain ⟨E, hE⟩ : ∃ C, costE n = C := ⟨_, rfl⟩
    obtain ⟨L, hL⟩ : ∃ C, lenI n t l m = C := ⟨_, rfl⟩
    obtain ⟨F, hF⟩ : ∃ C, lenE n t l m = C := ⟨_, rfl⟩
    have c1 := fun w' => Cost_any n t w' ht1 ht2
    have c2 := fun w' => rCost_any n t w' ht1 ht2
    have c3 := fun w' (hb : Below w.heap.size w w') => Length_any n t A c l m w' (h.on hb) (by omega)
    have c4 := fun w' (hb : Below w.heap.size w w') => rLength_any n t A c l m w' (h.on hb) (by omega)
    simp only [hC, hE] at c1 c2
    simp only [hL, hF] at c3 c4
    clear hC hE hL hF
    have cS := small_any n w
    rw [hb] at cS
    clear hb
    go_enter Tryd.func3, Tryd.ntmps3
    go_wp2_with (first
      | (go_at_call 13; refine (cS).mono ?_; rintro e w' ⟨rfl, rfl⟩)
      | (go_at_call 15; refine (c1 _).mono ?_; rintro e w1 ⟨rfl, hb1⟩)
      | (go_at_call 16; refine (c2 _).mono ?_; rintro e w2 ⟨rfl, hb2⟩; have q2 := below_trans hb1 hb2)
      | (go_at_call 17; refine (c3 _ q2).mono ?_; rintro e w3 ⟨rfl, hb3⟩; have q3 := below_trans q2 hb3)
      | (go_at_call 18; refine (c4 _ q3).mono ?_; rintro e w4 ⟨rfl, hb4⟩; have q4 := below_trans q3 hb4)
      | (go_at_call 14; refine (known_any _ (ht.on q4 htl)).mono ?_; rintro e w5 ⟨rfl, hb5⟩))
    go_ret
    exact ⟨rfl, below_trans q4 hb5⟩
  · have cK := known_any w ht
    cases b
    · have cS := small_any n w
      rw [hb] at cS
      clear hb
      go_enter Tryd.func3, Tryd.ntmps3
      go_wp2_with (first | (go_at_call 13; refine (cS).mono ?_; rintro e w' ⟨rfl, rfl⟩) | (go_at_call 14; refine cK.mono ?_; rintro e w5 ⟨rfl, hb5⟩))
      go_ret
      exact ⟨rfl, hb5⟩
    · have d1 : decide (50 < (l.length : Int)) = true := by simp at hc ⊢; omega
      have cS := small_any n w
      rw [hb] at cS
      clear hb hc
      go_enter Tryd.func3, Tryd.ntmps3
      go_wp2_with (first | (go_at_call 13; refine (cS).mono ?_; rintro e w' ⟨rfl, rfl⟩) | (go_at_call 14; refine cK.mono ?_; rintro e w5 ⟨rfl, hb5⟩))
      go_ret
      exact ⟨rfl, hb5⟩

theorem walk (n t : Int) (A : Option Addr) (c : Nat) (l : List Itm) (m : Int) (w : World) (ht : Tab w) (_ : (Lit.int .i64 n).wf = true) (h2 : (Lit.int .i64 t).wf = true) (h : Arr 2 Itm.enc w w.heap.size A l) (hl : l.length ≤ c) (hc : c ≤ maxLen) (_ : A = none → c = 0) (_ : ∀ x ∈ l, i64ok x.kind ∧ i64ok x.bits) (_ : (Lit.int .i64 m).wf = true) :
    Calls Tryd.prog 3 #[.int .i64 n, .int .i64 t, .slice A l.length c, .int .i64 m] w fun e w' => e = .returned (.bool true) ∧ Below w.heap.size w w' := by
  have hb := i64ok_of h2
  exact main n t A c l m w ht h (by have := hb.1; omega) (by have := hb.2; omega)

set_option maxRecDepth 100000 in
theorem lifted (os : Os) (started : os.Started) (H : Type) (enc : TypeId × Value → H) :
    ReturnsInHanded {} Tryd.checked os 3 .any (fun w args => (Rows.distilLengthsSpec.pre enc Tryd.prog Tryd.f3 [] false w args ∧ laidMetH Tryd.prog laid3 w) ∧ sizedMet enc Tryd.prog Tryd.f3 (OpenSpec.ofChange Rows.distilLengthsSpec) false w args) (Rows.distilLengthsSpec.post enc Tryd.prog Tryd.f3 false true false false) := by
  refine returnsInHanded_of_change_and (C := Tryd.checked) (X := fun w _ => laidMetH Tryd.prog laid3 w) (fun _ _ _ hh h => h.of_heap hh) own started (by kernel_rfl) Tryd.func3
    (ChangeSpec.witness_shaped (enc := enc) (C := Tryd.checked) (os := os) (X := fun w _ => laidMetH Tryd.prog laid3 w) false (World.doorLaid Tryd.prog 400 os) #[.int .i64 0, .int .i64 0, .slice none 0 0, .int .i64 0] 8 rfl (World.shaped_of_RefB (by kernel_rfl) (by kernel_rfl)) (by kernel_rfl) (by kernel_rfl) (by kernel_rfl) (door3 os _)) ?_
  intro W base args ds gs before hval0 hW _ hsz hL _
  have hval : ∀ (j : Nat) t v, Tryd.f3.params[j]? = some t → args[j]? = some v → Value.okWide Tryd.prog W .any base t v := hval0
  have hW' := hW
  obtain ⟨p, q, hA0, hV, rfl, hfz, hnd⟩ := hW
  have hA : DataW.TrodAll enc Tryd.prog W 0 (fun _ => true) true Tryd.f3.params.toList args.toList ds p := hA0
  rw [Tryd.params3] at hA hval
  obtain ⟨v0, vs0, d0, ds0, p0, q0, hargs, rfl, rfl, h0, r0⟩ := trodAll_cons hA
  obtain ⟨v1, vs1, d1, ds1, p1, q1, rfl, rfl, rfl, h1, r1⟩ := trodAll_cons r0
  obtain ⟨v2, vs2, d2, ds2, p2, q2, rfl, rfl, rfl, h2, r2⟩ := trodAll_cons r1
  obtain ⟨v3, vs3, d3, ds3, p3, q3, rfl, rfl, rfl, h3, r3⟩ := trodAll_cons r2
  obtain ⟨rfl, rfl, rfl⟩ := trodAll_nil r3
  obtain rfl : args = #[v0, v1, v2, v3] := by cases args; simp_all
  obtain ⟨rfl, rfl⟩ := trodVars_none hV
  have lt0 : ∀ x ∈ p0, x.block < W.heap.size := by obtain ⟨m, hm⟩ := h0; exact DataW.trod_lt m _ _ _ hm
  have k0 := h0
  obtain ⟨x0, rfl, rfl, rfl, w0⟩ := open_int Tryd.underlying3 (hval 0 3 v0 rfl rfl) h0
  have lt1 : ∀ x ∈ p1, x.block < W.heap.size := by obtain ⟨m, hm⟩ := h1; exact DataW.trod_lt m _ _ _ hm
  have k1 := h1
  obtain ⟨x1, rfl, rfl, rfl, w1⟩ := open_int Tryd.underlying3 (hval 1 3 v1 rfl rfl) h1
  have lt2 : ∀ x ∈ p2, x.block < W.heap.size := by obtain ⟨m, hm⟩ := h2; exact DataW.trod_lt m _ _ _ hm
  have k2 := h2
  obtain ⟨A2, len2, n2, rfl⟩ := okWide_slice Tryd.underlying22 (hval 2 22 v2 rfl rfl)
  obtain ⟨fuel2, hf2⟩ := h2
  obtain ⟨A2', n2', l2, hcs2, hl2, hm2, hz2, ha2, ho2⟩ := open_arr (enc := Itm.enc) _ Itm.enc_len (by decide) Tryd.underlying22 (by kernel_rfl) (fun n cs y h => dec_item h) hf2
  simp [Value.cells] at hcs2
  obtain ⟨rfl, rfl, rfl⟩ := hcs2
  have lt3 : ∀ x ∈ p3, x.block < W.heap.size := by obtain ⟨m, hm⟩ := h3; exact DataW.trod_lt m _ _ _ hm
  have k3 := h3
  obtain ⟨x3, rfl, rfl, rfl, w3⟩ := open_int Tryd.underlying3 (hval 3 3 v3 rfl rfl) h3
  clear hA0 hval0
  have ht := tab3 hL
  refine (walk x0 x1 A2 n2 l2 x3 W ht w0 w1 ha2 hl2 hm2 hz2 ho2 w3).mono fun e W' ⟨he, bel⟩ => ?_
  subst he
  exact ⟨_, rfl, _, _, _, [], _, [], hW', trodAll_mk1 (shut_bool Tryd.underlying4 _), (trodAll_cons_mk (Below.trod laidOut (by kernel_rfl) (of_decide_eq_true (by kernel_rfl)) k0 bel lt0) (trodAll_cons_mk (Below.trod laidOut (by kernel_rfl) (of_decide_eq_true (by kernel_rfl)) k1 bel lt1) (trodAll_cons_mk (Below.trod laidOut (by kernel_rfl) (of_decide_eq_true (by kernel_rfl)) k2 bel lt2) (trodAll_cons_mk (Below.trod laidOut (by kernel_rfl) (of_decide_eq_true (by kernel_rfl)) k3 bel lt3) trodAll_mk0)))), rfl, bel.frame _, fun h => by cases h⟩

theorem over : Rows.distilLengthsRow.holds Tryd.pinned (OpenSpec.ofChange Rows.distilLengthsSpec) :=
  OpenClaim.holds_of_wide 3 Tryd.f3 rfl rfl rfl rfl rfl rfl rfl ⟨rfl, rfl, rfl, rfl, rfl⟩ rfl rfl rfl rfl rfl (by kernel_rfl) Tryd.func3 (by kernel_rfl)
    (of_decide_eq_true (by kernel_rfl)) (by unfold Func.isWrapper; first | (rw [if_pos (by decide +kernel)]; kernel_rfl) | (rw [if_neg (by decide +kernel)]; exact ⟨rfl, rfl⟩))
    (fun os started H enc _ => lifted os started H enc)

theorem proved : Rows.DistilLengthsCardSaid :=
  Claim7.holds_tied_plain_at .later [] [.data, .data, .data] true _ true over (fun _ h => by cases h) (by kernel_rfl) (fun _ h => by cases h) distilLengths_row_tie rfl ⟨rfl, rfl⟩ (by kernel_rfl) rfl
    (fun f fn hf hfn => by
      obtain rfl : f = 3 := Option.some.inj ((show Tryd.prog.funcNamed "waveplate/waveplatelaw06.DistilLengths" = some 3 by kernel_rfl).symm.trans hf) |>.symm
      obtain rfl : fn = Tryd.f3 := (Option.some.inj (Tryd.func3.symm.trans hfn)).symm
      exact ⟨by kernel_rfl, fun j t ht => by
        rw [Tryd.params3] at ht
        have hm : t ∈ [3, 3, 22, 3] := by simpa using Array.mem_of_getElem? ht
        have hall : ([3, 3, 22, 3].all fun u => !Tryd.prog.wantsStandIn u) = true := by kernel_rfl
        exact (show Tryd.prog.wantsStandIn t = false by simpa using List.all_eq_true.1 hall t hm)⟩)
    (by kernel_rfl)
#print axioms proved
end Go.Proofs.YtliekcfcdfakjaaDoor.distilLengths
