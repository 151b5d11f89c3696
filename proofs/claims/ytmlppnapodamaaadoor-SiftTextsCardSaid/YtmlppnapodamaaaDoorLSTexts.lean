/- The statement SiftTexts: for any announcements and any text the law returns true and its arguments read as they did. No condition but what the card ties: the listed tables and errors are as the program's text lays them. -/
import Derived.Test.YtmlppnapodamaaaDoorDoorS
import Derived.Test.YtmlppnapodamaaaDoorKnown
import Derived.Test.YtmlppnapodamaaaDoorStxW
import Derived.Test.YtmlppnapodamaaaDoorStxQ
import Derived.Test.YtmlppnapodamaaaDoorOpen
import Derived.Test.YtmlppnapodamaaaDoorTie
import Derived.Test.YtmlppnapodamaaaDoorCards
import Derived.SevenTiedAt
import Derived.ChangeMaps5
namespace Go.Proofs.YtmlppnapodamaaaDoor.siftTexts
open Go.ChangeShapes Go.WideShapes Go.ChangeAt Go.RowKit Go.Deep Go.Joins
set_option linter.unusedVariables false
set_option linter.unusedSimpArgs false

set_option maxRecDepth 100000 in
set_option maxHeartbeats 4000000 in
theorem main (A : Option Addr) (c : Nat) (l : List Hrd) (S : List UInt8) (v : World) (ht : Env v) (hA : Arr 2 Hrd.enc v v.heap.size A l) (hl : l.length ≤ c) (hc : c ≤ maxLen) :
    Calls Tryd.prog 3 #[.slice A l.length c, .string ⟨S.toArray⟩] v fun e w' => e = .returned (.bool true) ∧ Below v.heap.size v w' := by
  unfold maxLen at hc
  have cK := fun w' => known_any w'
  have hsz : (⟨S.toArray⟩ : ByteArray).size = S.length := by show S.toArray.size = _; simp
  by_cases hbig : 300 < l.length ∨ 3000 < S.length
  · have ways : decide (300 < (l.length : Int)) = true ∨ (decide (300 < (l.length : Int)) = false ∧ decide (3000 < (S.length : Int)) = true) := by simp; omega
    clear hbig
    rcases ways with d1 | ⟨d1, d2⟩
    all_goals (
      go_enter Tryd.func3, Tryd.ntmps3
      go_wp2_with (go_at_call 4; refine (cK _).mono ?_; rintro e w5 ⟨rfl, hb5⟩)
      go_ret
      exact ⟨rfl, hb5⟩)
  have d1 : decide (300 < (l.length : Int)) = false := by simp; omega
  have d2 : decide (3000 < (S.length : Int)) = false := by simp; omega
  have cT := TextH_any A c l v hA (by omega) ht.tab
  have cR := fun w' (hb : Below v.heap.size v w') => rTextH_any A c l w' (hA.on hb) (by omega)
  have cP := fun w' (hb : Below v.heap.size v w') => ParseH_any S w' (by omega) (ht.on hb)
  have cQ := fun w' => rParseH_any S w' (by omega)
  by_cases h0 : hdE l = 0
  · have ln := textH_len (goodH (hdE_zero.1 h0).2)
    have cB := fun w' (hb : Below v.heap.size v w') => ParseH_any (textH l) w' (by omega) (ht.on hb)
    have bk := fun E M (h : ReadH (textH l) E M) => ReadH.back h0 h
    rw [if_pos h0, h0] at cT
    simp only [if_pos h0, h0] at cR
    generalize textH l = T at *
    clear h0
    go_enter Tryd.func3, Tryd.ntmps3
    go_wp2_with fail
    refine cT.mono ?_
    rintro e w1 ⟨rfl, hb1⟩
    go_wp2_with fail
    refine (cR _ hb1).mono ?_
    rintro e w2 ⟨rfl, hb2⟩
    have q2 := below_trans hb1 hb2
    go_wp2_with fail
    refine (cP _ q2).mono ?_
    rintro e w3 ⟨v1, E1, L1, rfl, own1, r1, l1, hb3⟩
    have q3 := below_trans q2 hb3
    go_wp2_with fail
    refine (cQ _).mono ?_
    rintro e w4 ⟨v2, E2, L2, rfl, own2, r2, l2, hb4⟩
    have q4 := below_trans q3 hb4
    obtain ⟨rfl, rfl⟩ := r1.one r2
    obtain ⟨A1, c1, rfl, _, _, _, ar1⟩ := own1.form Hrd.enc_len
    obtain ⟨A2, c2, rfl, _, _, _, ar2⟩ := own2.form Hrd.enc_len
    have cS := sameHeard_same A1 A2 c1 c2 L1 w4 (ar1.on hb4) ar2 (by omega)
    clear r1 r2 own1 own2 cT cR cP cQ
    go_wp2_with fail
    refine cS.mono ?_
    rintro e w5 ⟨rfl, hb5⟩
    have q5 := below_trans q4 hb5
    clear cS
    go_wp2_with fail
    refine (cB _ q5).mono ?_
    rintro e w6 ⟨v3, E3, L3, rfl, own3, r3, l3, hb6⟩
    obtain ⟨rfl, rfl⟩ := bk _ _ r3
    have q6 := below_trans q5 hb6
    obtain ⟨A3, c3, rfl, _, _, _, ar3⟩ := own3.form Hrd.enc_len
    have cS := sameHeard_same A3 A c3 c L3 w6 ar3 (hA.on q6) (by omega)
    clear r3 own3 cB bk
    go_wp2_with fail
    refine cS.mono ?_
    rintro e w7 ⟨rfl, hb7⟩
    clear cS
    go_wp2_with (go_at_call 4; refine (cK _).mono ?_; rintro e w8 ⟨rfl, hb8⟩)
    go_ret
    exact ⟨rfl, below_trans (below_trans q6 hb7) hb8⟩
  · rw [if_neg h0] at cT
    simp only [if_neg h0] at cR
    have h0' : (hdE l == 0) = false := by simpa using h0
    generalize hdE l = E at *
    clear h0
    go_enter Tryd.func3, Tryd.ntmps3
    go_wp2_with fail
    refine cT.mono ?_
    rintro e w1 ⟨rfl, hb1⟩
    go_wp2_with fail
    refine (cR _ hb1).mono ?_
    rintro e w2 ⟨rfl, hb2⟩
    have q2 := below_trans hb1 hb2
    go_wp2_with fail
    refine (cP _ q2).mono ?_
    rintro e w3 ⟨v1, E1, L1, rfl, own1, r1, l1, hb3⟩
    have q3 := below_trans q2 hb3
    go_wp2_with fail
    refine (cQ _).mono ?_
    rintro e w4 ⟨v2, E2, L2, rfl, own2, r2, l2, hb4⟩
    have q4 := below_trans q3 hb4
    obtain ⟨rfl, rfl⟩ := r1.one r2
    obtain ⟨A1, c1, rfl, _, _, _, ar1⟩ := own1.form Hrd.enc_len
    obtain ⟨A2, c2, rfl, _, _, _, ar2⟩ := own2.form Hrd.enc_len
    have cS := sameHeard_same A1 A2 c1 c2 L1 w4 (ar1.on hb4) ar2 (by omega)
    clear r1 r2 own1 own2 cT cR cP cQ
    go_wp2_with fail
    refine cS.mono ?_
    rintro e w5 ⟨rfl, hb5⟩
    have q5 := below_trans q4 hb5
    clear cS
    go_wp2_with (go_at_call 4; refine (cK _).mono ?_; rintro e w8 ⟨rfl, hb8⟩)
    go_ret
    exact ⟨rfl, below_trans q5 hb8⟩

theorem walk (A : Option Addr) (c : Nat) (l : List Hrd) (s : ByteArray) (v : World) (ht : Env v) (hA : Arr 2 Hrd.enc v v.heap.size A l) (hl : l.length ≤ c) (hc : c ≤ maxLen) (_ : A = none → c = 0) (_ : ∀ x ∈ l, i64ok x.slot ∧ i64ok x.basis) (_ : s.size ≤ maxLen) :
    Calls Tryd.prog 3 #[.slice A l.length c, .string s] v fun e w' => e = .returned (.bool true) ∧ Below v.heap.size v w' := by
  have h := main A c l s.data.toList v ht hA hl hc
  have e : (⟨s.data.toList.toArray⟩ : ByteArray) = s := by simp
  rw [e] at h
  exact h

set_option maxRecDepth 100000 in
theorem lifted (os : Os) (started : os.Started) (H : Type) (enc : TypeId × Value → H) :
    ReturnsInHanded {} Tryd.checked os 3 .any (fun w args => (Rows.siftTextsSpec.pre enc Tryd.prog Tryd.f3 [] false w args ∧ laidMetH Tryd.prog laid5 w) ∧ sizedMet enc Tryd.prog Tryd.f3 (OpenSpec.ofChange Rows.siftTextsSpec) false w args) (Rows.siftTextsSpec.post enc Tryd.prog Tryd.f3 false true false false) := by
  refine hand_shaped (C := Tryd.checked) (X := fun w _ => laidMetH Tryd.prog laid5 w) (fun _ _ _ hh h => h.of_heap hh) own started (by kernel_rfl) Tryd.func3
    (ChangeSpec.witness_shaped (enc := enc) (C := Tryd.checked) (os := os) (X := fun w _ => laidMetH Tryd.prog laid5 w) false (World.doorLaid Tryd.prog 400 os) #[.slice none 0 0, .string ⟨#[]⟩] 8 rfl (World.shaped_of_RefB (by kernel_rfl) (by kernel_rfl)) (by kernel_rfl) (by kernel_rfl) (by kernel_rfl) (door5 os _)) ?_
  intro W base args ds gs before hval0 hW hsh hL
  have hval : ∀ (j : Nat) t v, Tryd.f3.params[j]? = some t → args[j]? = some v → Value.okWide Tryd.prog W .any base t v := hval0
  have hW' := hW
  obtain ⟨p, q, hA0, hV, rfl, hfz, hnd⟩ := hW
  have hA : DataW.TrodAll enc Tryd.prog W 0 (fun _ => true) true Tryd.f3.params.toList args.toList ds p := hA0
  rw [Tryd.params3] at hA hval
  obtain ⟨v0, vs0, d0, ds0, p0, q0, hargs, rfl, rfl, h0, r0⟩ := trodAll_cons hA
  obtain ⟨v1, vs1, d1, ds1, p1, q1, rfl, rfl, rfl, h1, r1⟩ := trodAll_cons r0
  obtain ⟨rfl, rfl, rfl⟩ := trodAll_nil r1
  obtain rfl : args = #[v0, v1] := by cases args; simp_all
  obtain ⟨rfl, rfl⟩ := trodVars_none hV
  have lt0 : ∀ x ∈ p0, x.block < W.heap.size := by obtain ⟨m, hm⟩ := h0; exact DataW.trod_lt m _ _ _ hm
  have k0 := h0
  obtain ⟨A0, len0, n0, rfl⟩ := okWide_slice Tryd.underlying22 (hval 0 22 v0 rfl rfl)
  obtain ⟨fuel0, hf0⟩ := h0
  obtain ⟨A0', n0', l0, hcs0, hl0, hm0, hz0, ha0, ho0⟩ := open_arr (enc := Hrd.enc) _ Hrd.enc_len (by decide) Tryd.underlying22 (by kernel_rfl) (fun n cs y h => dec_heard h) hf0
  simp [Value.cells] at hcs0
  obtain ⟨rfl, rfl, rfl⟩ := hcs0
  have lt1 : ∀ x ∈ p1, x.block < W.heap.size := by obtain ⟨m, hm⟩ := h1; exact DataW.trod_lt m _ _ _ hm
  have k1 := h1
  obtain ⟨x1, rfl, rfl, rfl, w1⟩ := ChangeMaps.open_string Tryd.underlying9 (hval 1 9 v1 rfl rfl) h1
  clear hA0 hval0
  have ht := env5 hL hsh
  refine (walk A0 n0 l0 x1 W ht ha0 hl0 hm0 hz0 ho0 w1).mono fun e W' ⟨he, bel⟩ => ?_
  subst he
  exact ⟨_, rfl, _, _, _, [], _, [], hW', trodAll_mk1 (shut_bool Tryd.underlying4 _), (trodAll_cons_mk (Below.trod laidOut (by kernel_rfl) (of_decide_eq_true (by kernel_rfl)) k0 bel lt0) (trodAll_cons_mk (Below.trod laidOut (by kernel_rfl) (of_decide_eq_true (by kernel_rfl)) k1 bel lt1) trodAll_mk0)), rfl, bel.frame _, fun h => by cases h⟩

theorem over : Rows.siftTextsRow.holds Tryd.pinned (OpenSpec.ofChange Rows.siftTextsSpec) :=
  OpenClaim.holds_of_wide 3 Tryd.f3 rfl rfl rfl rfl rfl rfl rfl ⟨rfl, rfl, rfl, rfl, rfl⟩ rfl rfl rfl rfl rfl (by kernel_rfl) Tryd.func3 (by kernel_rfl)
    (of_decide_eq_true (by kernel_rfl)) (by unfold Func.isWrapper; first | (rw [if_pos (by decide +kernel)]; kernel_rfl) | (rw [if_neg (by decide +kernel)]; exact ⟨rfl, rfl⟩))
    (fun os started H enc _ => lifted os started H enc)

theorem proved : Rows.SiftTextsCardSaid :=
  Claim7.holds_tied_plain_at .later [] [.data, .data, .data, .sentinel, .sentinel] true _ true over (fun _ h => by cases h) (by kernel_rfl) (fun _ h => by cases h) siftTexts_row_tie rfl ⟨rfl, rfl⟩ (by kernel_rfl) rfl
    (fun f fn hf hfn => by
      obtain rfl : f = 3 := Option.some.inj ((show Tryd.prog.funcNamed "waveplate/waveplatelaw04.SiftTexts" = some 3 by kernel_rfl).symm.trans hf) |>.symm
      obtain rfl : fn = Tryd.f3 := (Option.some.inj (Tryd.func3.symm.trans hfn)).symm
      exact ⟨by kernel_rfl, fun j t ht => by
        rw [Tryd.params3] at ht
        have hm : t ∈ [22, 9] := by simpa using Array.mem_of_getElem? ht
        have hall : ([22, 9].all fun u => !Tryd.prog.wantsStandIn u) = true := by kernel_rfl
        exact (show Tryd.prog.wantsStandIn t = false by simpa using List.all_eq_true.1 hall t hm)⟩)
    (by kernel_rfl)
#print axioms proved
end Go.Proofs.YtmlppnapodamaaaDoor.siftTexts
