/- The statement DistilPools: for any width, bits and steps the law returns true and its arguments read as they did. No condition but what the card ties: the listed tables are as the program's text lays them. -/
import Derived.Test.YtpejoghdmkpfcaaGreatDoorDoorD
import Derived.Test.YtpejoghdmkpfcaaGreatDoorPlrH
import Derived.Test.YtpejoghdmkpfcaaGreatDoorTie
import Derived.Test.YtpejoghdmkpfcaaGreatDoorCards
import Derived.SevenTiedAt
namespace Go.Proofs.YtpejoghdmkpfcaaGreatDoor.distilPools
open Go.ChangeShapes Go.WideShapes Go.ChangeAt Go.RowKit Go.Deep Go.Joins
set_option linter.unusedVariables false
set_option linter.unusedSimpArgs false

theorem dec_stp {H : Type} {en : TypeId × Value → H} {w : World} {base : Nat} {spare : Nat → Bool} {held : Bool} {n : Nat} {cs : List Value} {y : DataW H × List MemPlace} (h : DataW.trod en Tryz.prog w base spare held n 48 cs = some y) : ∃ x : Stp, cs = x.enc ∧ x.Ok w := by
  obtain ⟨hl, n', hf⟩ := trod_fields Tryz.underlying48 (by kernel_rfl) (by kernel_rfl) h
  have hl4 : cs.length = 4 := hl
  obtain ⟨c0, c1, c2, c3, rfl⟩ : ∃ c0 c1 c2 c3, cs = [c0, c1, c2, c3] := by
    match cs, hl4 with
    | [c0, c1, c2, c3], _ => exact ⟨_, _, _, _, rfl⟩
  obtain ⟨_, h0⟩ := hf 0 _ c0 rfl rfl
  obtain ⟨_, h1⟩ := hf 1 _ c1 rfl rfl
  obtain ⟨_, h2⟩ := hf 2 _ c2 rfl rfl
  obtain ⟨_, h3⟩ := hf 3 _ c3 rfl rfl
  obtain ⟨x0, e0, _, _⟩ := DataW.trod_int Tryz.underlying3 h0
  obtain ⟨x1, e1, _, _⟩ := DataW.trod_int Tryz.underlying3 h1
  obtain ⟨A, c, m, e2, g1, g2, g3, g4, _⟩ := open_arr (enc := encB) (fun _ => True) encB_len (by decide) Tryz.underlying22 (by kernel_rfl) (fun n cs y h => dec_bool h) h2
  obtain ⟨x3, e3, _, wf3⟩ := DataW.trod_int Tryz.underlying27 h3
  have b3 := bounds_u64 wf3
  obtain ⟨t, rfl⟩ := Int.eq_ofNat_of_zero_le b3.1
  simp only [List.cons.injEq, and_true] at e0 e1 e2 e3
  subst e0 e1 e2 e3
  exact ⟨⟨x0, x1, A, c, m, t⟩, rfl, g4, g1, g2, g3⟩

theorem walk (W : Int) (A : Option Addr) (cA : Nat) (l : List Bool) (C : Option Addr) (cC : Nat) (st : List Stp) (w : World) (ht : Tab w) (_ : (Lit.int .i64 W).wf = true) (hA : Arr 1 encB w w.heap.size A l) (hl : l.length ≤ cA) (hc : cA ≤ maxLen) (nA : A = none → cA = 0) (_ : ∀ x ∈ l, True) (hC : Arr 4 Stp.enc w w.heap.size C st) (hl2 : st.length ≤ cC) (hc2 : cC ≤ maxLen) (_ : C = none → cC = 0) (hok : ∀ x ∈ st, x.Ok w) :
    Calls Tryz.prog 4 #[.int .i64 W, .slice A l.length cA, .slice C st.length cC] w fun e w' => e = .returned (.bool true) ∧ Below w.heap.size w w' :=
  pools_walk W A cA l C cC st w ht hA hl hc nA hC hl2 hc2 hok

set_option maxRecDepth 100000 in
theorem lifted (os : Os) (started : os.Started) (H : Type) (enc : TypeId × Value → H) :
    ReturnsInHanded {} Tryz.checked os 4 .any (fun w args => (Rows.distilPoolsSpec.pre enc Tryz.prog Tryz.f4 [] false w args ∧ laidMetH Tryz.prog laid3 w) ∧ sizedMet enc Tryz.prog Tryz.f4 (OpenSpec.ofChange Rows.distilPoolsSpec) false w args) (Rows.distilPoolsSpec.post enc Tryz.prog Tryz.f4 false true false false) := by
  refine returnsInHanded_of_change_and (C := Tryz.checked) (X := fun w _ => laidMetH Tryz.prog laid3 w) (fun _ _ _ hh h => h.of_heap hh) own started (by kernel_rfl) Tryz.func4
    (ChangeSpec.witness_shaped (enc := enc) (C := Tryz.checked) (os := os) (X := fun w _ => laidMetH Tryz.prog laid3 w) false (World.doorLaid Tryz.prog 400 os) #[.int .i64 0, .slice none 0 0, .slice none 0 0] 8 rfl (World.shaped_of_RefB (by kernel_rfl) (by kernel_rfl)) (by kernel_rfl) (by kernel_rfl) (by kernel_rfl) (door3 os _)) ?_
  intro W base args ds gs before hval0 hW _ hsz hL _
  have hval : ∀ (j : Nat) t v, Tryz.f4.params[j]? = some t → args[j]? = some v → Value.okWide Tryz.prog W .any base t v := hval0
  have hW' := hW
  obtain ⟨p, q, hA0, hV, rfl, hfz, hnd⟩ := hW
  have hA : DataW.TrodAll enc Tryz.prog W 0 (fun _ => true) true Tryz.f4.params.toList args.toList ds p := hA0
  rw [Tryz.params4] at hA hval
  obtain ⟨v0, vs0, d0, ds0, p0, q0, hargs, rfl, rfl, h0, r0⟩ := trodAll_cons hA
  obtain ⟨v1, vs1, d1, ds1, p1, q1, rfl, rfl, rfl, h1, r1⟩ := trodAll_cons r0
  obtain ⟨v2, vs2, d2, ds2, p2, q2, rfl, rfl, rfl, h2, r2⟩ := trodAll_cons r1
  obtain ⟨rfl, rfl, rfl⟩ := trodAll_nil r2
  obtain rfl : args = #[v0, v1, v2] := by cases args; simp_all
  obtain ⟨rfl, rfl⟩ := trodVars_none hV
  have lt0 : ∀ x ∈ p0, x.block < W.heap.size := by obtain ⟨m, hm⟩ := h0; exact DataW.trod_lt m _ _ _ hm
  have k0 := h0
  obtain ⟨x0, rfl, rfl, rfl, w0⟩ := open_int Tryz.underlying3 (hval 0 3 v0 rfl rfl) h0
  have lt1 : ∀ x ∈ p1, x.block < W.heap.size := by obtain ⟨m, hm⟩ := h1; exact DataW.trod_lt m _ _ _ hm
  have k1 := h1
  obtain ⟨A1, len1, n1, rfl⟩ := okWide_slice Tryz.underlying22 (hval 1 22 v1 rfl rfl)
  obtain ⟨fuel1, hf1⟩ := h1
  obtain ⟨A1', n1', l1, hcs1, hl1, hm1, hz1, ha1, ho1⟩ := open_arr (enc := encB) _ encB_len (by decide) Tryz.underlying22 (by kernel_rfl) (fun n cs y h => dec_bool h) hf1
  simp [Value.cells] at hcs1
  obtain ⟨rfl, rfl, rfl⟩ := hcs1
  have lt2 : ∀ x ∈ p2, x.block < W.heap.size := by obtain ⟨m, hm⟩ := h2; exact DataW.trod_lt m _ _ _ hm
  have k2 := h2
  obtain ⟨A2, len2, n2, rfl⟩ := okWide_slice Tryz.underlying43 (hval 2 43 v2 rfl rfl)
  obtain ⟨fuel2, hf2⟩ := h2
  obtain ⟨A2', n2', l2, hcs2, hl2, hm2, hz2, ha2, ho2⟩ := open_arr (enc := Stp.enc) _ Stp.enc_len (by decide) Tryz.underlying43 (by kernel_rfl) (fun n cs y h => dec_stp h) hf2
  simp [Value.cells] at hcs2
  obtain ⟨rfl, rfl, rfl⟩ := hcs2
  clear hA0 hval0
  have ht := tab3 hL
  refine (walk x0 A1 n1 l1 A2 n2 l2 W ht w0 ha1 hl1 hm1 hz1 ho1 ha2 hl2 hm2 hz2 ho2).mono fun e W' ⟨he, bel⟩ => ?_
  subst he
  exact ⟨_, rfl, _, _, _, [], _, [], hW', trodAll_mk1 (shut_bool Tryz.underlying4 _), (trodAll_cons_mk (Below.trod laidOut (by kernel_rfl) (of_decide_eq_true (by kernel_rfl)) k0 bel lt0) (trodAll_cons_mk (Below.trod laidOut (by kernel_rfl) (of_decide_eq_true (by kernel_rfl)) k1 bel lt1) (trodAll_cons_mk (Below.trod laidOut (by kernel_rfl) (of_decide_eq_true (by kernel_rfl)) k2 bel lt2) trodAll_mk0))), rfl, bel.frame _, fun h => by cases h⟩

theorem over : Rows.distilPoolsRow.holds Tryz.pinned (OpenSpec.ofChange Rows.distilPoolsSpec) :=
  OpenClaim.holds_of_wide 4 Tryz.f4 rfl rfl rfl rfl rfl rfl rfl ⟨rfl, rfl, rfl, rfl, rfl⟩ rfl rfl rfl rfl rfl (by kernel_rfl) Tryz.func4 (by kernel_rfl)
    (of_decide_eq_true (by kernel_rfl)) (by unfold Func.isWrapper; first | (rw [if_pos (by decide +kernel)]; kernel_rfl) | (rw [if_neg (by decide +kernel)]; exact ⟨rfl, rfl⟩))
    (fun os started H enc _ => lifted os started H enc)

theorem proved : Rows.DistilPoolsCardSaid :=
  Claim7.holds_tied_plain_at .later [] [.data,  .data,  .data] true _ true over (fun _ h => by cases h) (by kernel_rfl) (fun _ h => by cases h) distilPools_row_tie rfl ⟨rfl, rfl⟩ (by kernel_rfl) rfl
    (fun f fn hf hfn => by
      obtain rfl : f = 4 := Option.some.inj ((show Tryz.prog.funcNamed "waveplate/waveplatelaw06.DistilPools" = some 4 by kernel_rfl).symm.trans hf) |>.symm
      obtain rfl : fn = Tryz.f4 := (Option.some.inj (Tryz.func4.symm.trans hfn)).symm
      exact ⟨by kernel_rfl, fun j t ht => by
        rw [Tryz.params4] at ht
        have hm : t ∈ [3, 22, 43] := by simpa using Array.mem_of_getElem? ht
        have hall : ([3, 22, 43].all fun u => !Tryz.prog.wantsStandIn u) = true := by kernel_rfl
        exact (show Tryz.prog.wantsStandIn t = false by simpa using List.all_eq_true.1 hall t hm)⟩)
    (by kernel_rfl)
#print axioms proved
end Go.Proofs.YtpejoghdmkpfcaaGreatDoor.distilPools
