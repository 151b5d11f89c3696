/- The statement DistilReads: for any text the law returns true and its argument reads as it did. No condition but what the card ties: the listed tables and errors are as the program's text lays them. -/
import Derived.Test.YtoccbcjkjcgdlaaDoorDoorT
import Derived.Test.YtoccbcjkjcgdlaaDoorKnownD
import Derived.Test.YtoccbcjkjcgdlaaDoorPrsR
import Derived.Test.YtoccbcjkjcgdlaaDoorSamI
import Derived.Test.YtoccbcjkjcgdlaaDoorTie
import Derived.Test.YtoccbcjkjcgdlaaDoorCards
import Derived.SevenTiedAt
import Derived.ChangeMaps5
namespace Go.Proofs.YtoccbcjkjcgdlaaDoor.distilReads
open Go.ChangeShapes Go.WideShapes Go.ChangeAt Go.RowKit Go.Deep Go.Joins
set_option linter.unusedVariables false
set_option linter.unusedSimpArgs false

set_option maxRecDepth 100000 in
set_option maxHeartbeats 4000000 in
theorem main (S : List UInt8) (v : World) (ht : Env v) :
    Calls Tryd.prog 5 #[.string ⟨S.toArray⟩] v fun e w' => e = .returned (.bool true) ∧ Below v.heap.size v w' := by
  have cK := fun w' (hb : Below v.heap.size v w') => known_any w' (ht.on hb).tab
  have hsz : (⟨S.toArray⟩ : ByteArray).size = S.length := by show S.toArray.size = _; simp
  by_cases hl : 3000 < S.length
  · have d1 : decide (3000 < (S.length : Int)) = true := by simp; omega
    go_enter Tryd.func5, Tryd.ntmps5
    go_wp2_with (go_at_call 10; refine (cK _ (Below.refl _ _)).mono ?_; rintro e w5 ⟨rfl, hb5⟩)
    go_ret
    exact ⟨rfl, hb5⟩
  have d1 : decide (3000 < (S.length : Int)) = false := by simp; omega
  have cP := Parse_any S v (by omega) ht
  have cR := fun w' => rParse_any S w' (by omega)
  go_enter Tryd.func5, Tryd.ntmps5
  go_wp2_with fail
  refine cP.mono ?_
  rintro e w1 ⟨v1, E1, L1, rfl, own1, r1, l1, hb1⟩
  go_wp2_with fail
  refine (cR _).mono ?_
  rintro e w2 ⟨v2, E2, L2, rfl, own2, r2, l2, hb2⟩
  obtain ⟨rfl, rfl⟩ := r1.one r2
  obtain ⟨A1, c1, rfl, _, _, _, ar1⟩ := own1.form Itm.enc_len
  obtain ⟨A2, c2, rfl, _, _, _, ar2⟩ := own2.form Itm.enc_len
  have q2 := below_trans hb1 hb2
  have cS := sameItems_same A1 A2 c1 c2 L1 w2 (ar1.on hb2) ar2 (by omega)
  clear cP cR r1 r2
  go_wp2_with (first
    | (go_at_call 19; refine cS.mono ?_; rintro e w3 ⟨rfl, hb3⟩; have q3 := below_trans q2 hb3)
    | (go_at_call 10; refine (cK _ q3).mono ?_; rintro e w5 ⟨rfl, hb5⟩))
  go_ret
  exact ⟨rfl, below_trans q3 hb5⟩

theorem walk (s : ByteArray) (v : World) (ht : Env v) (_ : s.size ≤ maxLen) :
    Calls Tryd.prog 5 #[.string s] v fun e w' => e = .returned (.bool true) ∧ Below v.heap.size v w' := by
  have h := main s.data.toList v ht
  have e : (⟨s.data.toList.toArray⟩ : ByteArray) = s := by simp
  rw [e] at h
  exact h

set_option maxRecDepth 100000 in
theorem lifted (os : Os) (started : os.Started) (H : Type) (enc : TypeId × Value → H) :
    ReturnsInHanded {} Tryd.checked os 5 .any (fun w args => (Rows.distilReadsSpec.pre enc Tryd.prog Tryd.f5 [] false w args ∧ laidMetH Tryd.prog laid5 w) ∧ sizedMet enc Tryd.prog Tryd.f5 (OpenSpec.ofChange Rows.distilReadsSpec) false w args) (Rows.distilReadsSpec.post enc Tryd.prog Tryd.f5 false true false false) := by
  refine hand_shaped (C := Tryd.checked) (X := fun w _ => laidMetH Tryd.prog laid5 w) (fun _ _ _ hh h => h.of_heap hh) own started (by kernel_rfl) Tryd.func5
    (ChangeSpec.witness_shaped (enc := enc) (C := Tryd.checked) (os := os) (X := fun w _ => laidMetH Tryd.prog laid5 w) false (World.doorLaid Tryd.prog 400 os) #[.string ⟨#[]⟩] 8 rfl (World.shaped_of_RefB (by kernel_rfl) (by kernel_rfl)) (by kernel_rfl) (by kernel_rfl) (by kernel_rfl) (door5 os _)) ?_
  intro W base args ds gs before hval0 hW hsh hL
  have hval : ∀ (j : Nat) t v, Tryd.f5.params[j]? = some t → args[j]? = some v → Value.okWide Tryd.prog W .any base t v := hval0
  have hW' := hW
  obtain ⟨p, q, hA0, hV, rfl, hfz, hnd⟩ := hW
  have hA : DataW.TrodAll enc Tryd.prog W 0 (fun _ => true) true Tryd.f5.params.toList args.toList ds p := hA0
  rw [Tryd.params5] at hA hval
  obtain ⟨v0, vs0, d0, ds0, p0, q0, hargs, rfl, rfl, h0, r0⟩ := trodAll_cons hA
  obtain ⟨rfl, rfl, rfl⟩ := trodAll_nil r0
  obtain rfl : args = #[v0] := by cases args; simp_all
  obtain ⟨rfl, rfl⟩ := trodVars_none hV
  have lt0 : ∀ x ∈ p0, x.block < W.heap.size := by obtain ⟨m, hm⟩ := h0; exact DataW.trod_lt m _ _ _ hm
  have k0 := h0
  obtain ⟨x0, rfl, rfl, rfl, w0⟩ := ChangeMaps.open_string Tryd.underlying9 (hval 0 9 v0 rfl rfl) h0
  clear hA0 hval0
  have ht := env5 hL hsh
  refine (walk x0 W ht w0).mono fun e W' ⟨he, bel⟩ => ?_
  subst he
  exact ⟨_, rfl, _, _, _, [], _, [], hW', trodAll_mk1 (shut_bool Tryd.underlying4 _), (trodAll_cons_mk (Below.trod laidOut (by kernel_rfl) (of_decide_eq_true (by kernel_rfl)) k0 bel lt0) trodAll_mk0), rfl, bel.frame _, fun h => by cases h⟩

theorem over : Rows.distilReadsRow.holds Tryd.pinned (OpenSpec.ofChange Rows.distilReadsSpec) :=
  OpenClaim.holds_of_wide 5 Tryd.f5 rfl rfl rfl rfl rfl rfl rfl ⟨rfl, rfl, rfl, rfl, rfl⟩ rfl rfl rfl rfl rfl (by kernel_rfl) Tryd.func5 (by kernel_rfl)
    (of_decide_eq_true (by kernel_rfl)) (by unfold Func.isWrapper; first | (rw [if_pos (by decide +kernel)]; kernel_rfl) | (rw [if_neg (by decide +kernel)]; exact ⟨rfl, rfl⟩))
    (fun os started H enc _ => lifted os started H enc)

theorem proved : Rows.DistilReadsCardSaid :=
  Claim7.holds_tied_plain_at .later [] [.data, .data, .data, .sentinel, .sentinel] true _ true over (fun _ h => by cases h) (by kernel_rfl) (fun _ h => by cases h) distilReads_row_tie rfl ⟨rfl, rfl⟩ (by kernel_rfl) rfl
    (fun f fn hf hfn => by
      obtain rfl : f = 5 := Option.some.inj ((show Tryd.prog.funcNamed "waveplate/waveplatelaw06.DistilReads" = some 5 by kernel_rfl).symm.trans hf) |>.symm
      obtain rfl : fn = Tryd.f5 := (Option.some.inj (Tryd.func5.symm.trans hfn)).symm
      exact ⟨by kernel_rfl, fun j t ht => by
        rw [Tryd.params5] at ht
        have hm : t ∈ [9] := by simpa using Array.mem_of_getElem? ht
        have hall : ([9].all fun u => !Tryd.prog.wantsStandIn u) = true := by kernel_rfl
        exact (show Tryd.prog.wantsStandIn t = false by simpa using List.all_eq_true.1 hall t hm)⟩)
    (by kernel_rfl)
#print axioms proved
end Go.Proofs.YtoccbcjkjcgdlaaDoor.distilReads
