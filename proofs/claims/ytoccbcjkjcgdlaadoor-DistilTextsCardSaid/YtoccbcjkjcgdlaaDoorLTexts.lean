/- The statement DistilTexts: for any ledger and any two numbers the law returns true and its arguments read as they did. No condition but what the card ties: the listed tables and errors are as the program's text lays them. -/
import Derived.Test.YtoccbcjkjcgdlaaDoorDoorT
import Derived.Test.YtoccbcjkjcgdlaaDoorKnownD
import Derived.Test.YtoccbcjkjcgdlaaDoorPrsW
import Derived.Test.YtoccbcjkjcgdlaaDoorPermP
import Derived.Test.YtoccbcjkjcgdlaaDoorSamI
import Derived.Test.YtoccbcjkjcgdlaaDoorTie
import Derived.Test.YtoccbcjkjcgdlaaDoorCards
import Derived.SevenTiedAt
namespace Go.Proofs.YtoccbcjkjcgdlaaDoor.distilTexts
open Go.ChangeShapes Go.WideShapes Go.ChangeAt Go.RowKit Go.Deep Go.Joins
set_option linter.unusedVariables false
set_option linter.unusedSimpArgs false

/-- What an entry answers, with what it adds. -/
theorem ent_ways {l : List Itm} (h : ledE l = 0) (k b : Int) : (∃ e, ent l k b = .no e ∧ e ≠ 0) ∨
    (∃ L, ent l k b = .yes L ∧ ledE L = 0 ∧ L.length ≤ l.length + 1 ∧ (0 ≤ b ∧ b ≤ 65536) ∧ totE L = totE l + b ∧ ∀ j, kindB j = true → ofE L j = 0 ∧ ofE l j = 0 ∧ ofI L j = ofI l j + (if j = k then b else 0) ∧ 0 ≤ ofI l j ∧ ofI l j ≤ 65536000) := by
  cases hk : kindB k with
  | false => exact .inl ⟨2, ent_kind h hk, by decide⟩
  | true =>
    cases hb : betwB b 0 65536 with
    | false => exact .inl ⟨3, ent_bits h hk hb, by decide⟩
    | true =>
      rcases ent_yes h hk hb with h1 | ⟨L, h1, h2, h3, h4⟩
      · exact .inl h1
      · refine .inr ⟨L, h1, h2, h3, by simpa [betwB] using hb, ent_tot h h2 h4, fun j hj => ?_⟩
        have e1 : ofE L j = 0 := by unfold ofE; rw [if_pos h2, if_pos hj]
        have e2 : ofE l j = 0 := by unfold ofE; rw [if_pos h, if_pos hj]
        have b2 := sumBy_bound (fun x => decide (x = j)) (ledE_zero.1 h).2
        have b3 := (ledE_zero.1 h).1
        have e3 : ofI l j = sumBy (fun x => decide (x = j)) l := by unfold ofI; rw [if_pos e2]
        have e4 : ofI L j = sumBy (fun x => decide (x = j)) L := by unfold ofI; rw [if_pos e1]
        refine ⟨e1, e2, ?_, by omega, by omega⟩
        rw [e3, e4, h4]
        by_cases hjk : j = k
        · subst hjk; simp
        · rw [if_neg hjk, if_neg (by simp; exact fun h => hjk h.symm)]

set_option maxRecDepth 100000 in
set_option maxHeartbeats 8000000 in
theorem main (A : Option Addr) (c : Nat) (l : List Itm) (kd bs : Int) (v : World) (ht : Env v) (hA : Arr 2 Itm.enc v v.heap.size A l) (nA : A = none → c = 0) :
    Calls Tryd.prog 6 #[.slice A l.length c, .int .i64 kd, .int .i64 bs] v fun e w' => e = .returned (.bool true) ∧ Below v.heap.size v w' := by
  have cK := fun w' (hb : Below v.heap.size v w') => known_any w' (ht.on hb).tab
  by_cases hl : 300 < l.length
  · have d1 : decide (300 < (l.length : Int)) = true := by simp; omega
    go_enter Tryd.func6, Tryd.ntmps6
    go_wp2_with (go_at_call 10; refine (cK _ (Below.refl _ _)).mono ?_; rintro e w5 ⟨rfl, hb5⟩)
    go_ret
    exact ⟨rfl, hb5⟩
  have d1 : decide (300 < (l.length : Int)) = false := by simp; omega
  have cT := Text_any A c l v hA (by omega) ht.tab
  by_cases h0 : ledE l = 0
  case neg =>
    have cC := fun w' (hb : Below v.heap.size v w') => dCheck_any A c l w' (hA.on hb) (by omega)
    rw [if_neg h0] at cT
    have h0' : (ledE l != 0) = true := by simpa using h0
    generalize ledE l = E at *
    clear h0
    go_enter Tryd.func6, Tryd.ntmps6
    go_wp2_with (first
      | (go_at_call 20; refine cT.mono ?_; rintro e w1 ⟨rfl, hb1⟩)
      | (go_at_call 21; refine (cC _ hb1).mono ?_; rintro e w2 ⟨rfl, hb2⟩; have q2 := below_trans hb1 hb2)
      | (go_at_call 10; refine (cK _ q2).mono ?_; rintro e w5 ⟨rfl, hb5⟩))
    go_ret
    exact ⟨rfl, below_trans q2 hb5⟩
  rw [if_pos h0, h0] at cT
  have hf := (ledE_zero.1 h0).2
  have tl := text_len hf
  have cP := fun w' (hb : Below v.heap.size v w') => Parse_any (textL l) w' (by omega) (ht.on hb)
  have hrd : ReadR (textL l) 0 l := .inl ⟨rfl, h0, rfl⟩
  have cE := fun w' (hb : Below v.heap.size v w') => Enter_any A c l kd bs w' (hA.on hb) (by omega) nA
  have cTo := fun w' (hb : Below v.heap.size v w') => Total_any A c l w' (hA.on hb) (by omega)
  have ways := ent_ways h0 kd bs
  obtain ⟨t0, t1⟩ := totE_bound h0
  rw [h0] at cTo
  have Hf := Lib.hid hf
  clear h0 hf
  go_enter Tryd.func6, Tryd.ntmps6
  go_wp2_with (go_at_call 20; refine cT.mono ?_; rintro e w1 ⟨rfl, hb1⟩)
  refine (cP _ hb1).mono ?_
  rintro e w2 ⟨v2, E2, L2, rfl, own2, r2, l2, hb2⟩
  obtain ⟨rfl, rfl⟩ := hrd.one r2
  obtain ⟨A2, c2, rfl, _, _, _, ar2⟩ := own2.form Itm.enc_len
  have q2 := below_trans hb1 hb2
  have cS := sameItems_same A2 A c2 c l w2 ar2 (hA.on q2) (by omega)
  clear cP r2 hrd cT tl
  go_wp2_with (go_at_call 19; refine cS.mono ?_; rintro e w3 ⟨rfl, hb3⟩; have q3 := below_trans q2 hb3)
  refine (cE _ q3).mono ?_
  rintro e w4 ⟨v4, rfl, own4, hb4⟩
  have q4 := below_trans q3 hb4
  clear cE cS
  rcases ways with ⟨e4, he4, hne⟩ | ⟨L, hL, hL0, hLl, hbs, htot, hof⟩
  · have e1 : (e4 != 0) = true := by simpa using hne
    rw [he4]
    simp only [Ent.e, Ent.l]
    go_wp2_with (go_at_call 10; refine (cK _ q4).mono ?_; rintro e w5 ⟨rfl, hb5⟩)
    go_ret
    exact ⟨rfl, below_trans q4 hb5⟩
  · rw [hL] at own4 ⊢
    simp only [Ent.e, Ent.l] at own4 ⊢
    obtain ⟨A4, c4, rfl, _, _, _, ar4⟩ := own4.form Itm.enc_len
    have cL := fun w' (hb : Below w4.heap.size w4 w') => Total_any A4 c4 L w' (ar4.on hb) (by omega)
    have cO := fun j (hj : kindB j = true) w' (hb : Below v.heap.size v w') => dOf_any A c l j w' (hA.on hb) (by omega)
    have cQ := fun j (hj : kindB j = true) w' (hb : Below w4.heap.size w4 w') => dOf_any A4 c4 L j w' (ar4.on hb) (by omega)
    rw [hL0, htot] at cL
    generalize totE l = t at *
    obtain ⟨b0, b1⟩ := hbs
    clear hL hL0 htot
    go_wp2_with (first
      | (go_at_call 23; refine Calls.on (args' := #[.slice A l.length c]) rfl ?_; refine (cTo _ q4).mono ?_; rintro e w5 ⟨rfl, hb5⟩; have q5 := below_trans q4 hb5)
      | (go_at_call 23; refine Calls.on (args' := #[.slice A4 L.length c4]) rfl ?_; refine (cL _ hb5).mono ?_; rintro e w6 ⟨rfl, hb6⟩; have q6 := below_trans q5 hb6; have p6 := below_trans hb5 hb6))
    go_loopw [17] (fun i wr => ∃ j : Nat, 1 ≤ j ∧ j ≤ 5 ∧ i = .int .i64 j ∧ Below w6.heap.size w6 wr) (fun i _ => 5 - (intOf i).toNat)
    case atStart => exact ⟨1, by decide, by decide, rfl, Below.refl _ _⟩
    case round =>
      obtain ⟨j, hj1, hj5, rfl, hb7⟩ := hrel
      obtain ⟨w7, rfl⟩ : ∃ w7, w7 = wr := ⟨_, rfl⟩
      have q7 := below_trans q6 hb7
      have p7 := below_trans p6 hb7
      by_cases hj : j < 5
      · have d2 : decide ((j : Int) ≤ 4) = true := by simp; omega
        have kj : kindB (j : Int) = true := by simp [kindB, betwB]; omega
        obtain ⟨f1, f2, f3, f4, f5⟩ := hof j kj
        have c1 := cO j kj w7 q7
        have c2' := fun w' (hb : Below w4.heap.size w4 w') => cQ j kj w' hb
        rw [f2] at c1
        simp only [f1, f3] at c2'
        generalize ofI l (j : Int) = x at *
        clear f1 f2 f3 cO cQ hof
        by_cases hjk : (j : Int) = kd
        · have e3 : ((j : Int) == kd) = true := by simpa using hjk
          have e4 : ((j : Int) != kd) = false := by simpa using hjk
          simp only [if_pos hjk] at c2'
          clear hjk
          go_wp2_with (first
            | (go_at_call 24; refine Calls.on (args' := #[.slice A l.length c, .int .i64 (j : Int)]) rfl ?_; refine c1.mono ?_; rintro e w8 ⟨rfl, hb8⟩; have p8 := below_trans p7 hb8)
            | (go_at_call 24; refine Calls.on (args' := #[.slice A4 L.length c4, .int .i64 (j : Int)]) rfl ?_; refine (c2' _ p8).mono ?_; rintro e w9 ⟨rfl, hb9⟩))
          exact ⟨⟨j + 1, by omega, by omega, by go_num, below_trans (below_trans hb7 hb8) hb9⟩, by simp [intOf]; omega⟩
        · have e3 : ((j : Int) == kd) = false := by simpa using hjk
          have e4 : ((j : Int) != kd) = true := by simpa using hjk
          simp only [if_neg hjk, Int.add_zero] at c2'
          clear hjk
          go_wp2_with (first
            | (go_at_call 24; refine Calls.on (args' := #[.slice A l.length c, .int .i64 (j : Int)]) rfl ?_; refine c1.mono ?_; rintro e w8 ⟨rfl, hb8⟩; have p8 := below_trans p7 hb8)
            | (go_at_call 24; refine Calls.on (args' := #[.slice A4 L.length c4, .int .i64 (j : Int)]) rfl ?_; refine (c2' _ p8).mono ?_; rintro e w9 ⟨rfl, hb9⟩))
          exact ⟨⟨j + 1, by omega, by omega, by go_num, below_trans (below_trans hb7 hb8) hb9⟩, by simp [intOf]; omega⟩
      · have d2 : decide ((j : Int) ≤ 4) = false := by simp; omega
        go_wp2_with (go_at_call 10; refine (cK _ q7).mono ?_; rintro e w5 ⟨rfl, hb5⟩)
        go_ret
        exact ⟨rfl, below_trans q7 hb5⟩

theorem walk (A : Option Addr) (c : Nat) (l : List Itm) (kd bs : Int) (v : World) (ht : Env v) (hA : Arr 2 Itm.enc v v.heap.size A l) (_ : l.length ≤ c) (_ : c ≤ maxLen) (nA : A = none → c = 0) (_ : ∀ x ∈ l, i64ok x.kind ∧ i64ok x.bits) (_ : (Lit.int .i64 kd).wf = true) (_ : (Lit.int .i64 bs).wf = true) :
    Calls Tryd.prog 6 #[.slice A l.length c, .int .i64 kd, .int .i64 bs] v fun e w' => e = .returned (.bool true) ∧ Below v.heap.size v w' :=
  main A c l kd bs v ht hA nA

set_option maxRecDepth 100000 in
theorem lifted (os : Os) (started : os.Started) (H : Type) (enc : TypeId × Value → H) :
    ReturnsInHanded {} Tryd.checked os 6 .any (fun w args => (Rows.distilTextsSpec.pre enc Tryd.prog Tryd.f6 [] false w args ∧ laidMetH Tryd.prog laid5 w) ∧ sizedMet enc Tryd.prog Tryd.f6 (OpenSpec.ofChange Rows.distilTextsSpec) false w args) (Rows.distilTextsSpec.post enc Tryd.prog Tryd.f6 false true false false) := by
  refine hand_shaped (C := Tryd.checked) (X := fun w _ => laidMetH Tryd.prog laid5 w) (fun _ _ _ hh h => h.of_heap hh) own started (by kernel_rfl) Tryd.func6
    (ChangeSpec.witness_shaped (enc := enc) (C := Tryd.checked) (os := os) (X := fun w _ => laidMetH Tryd.prog laid5 w) false (World.doorLaid Tryd.prog 400 os) #[.slice none 0 0, .int .i64 0, .int .i64 0] 8 rfl (World.shaped_of_RefB (by kernel_rfl) (by kernel_rfl)) (by kernel_rfl) (by kernel_rfl) (by kernel_rfl) (door5 os _)) ?_
  intro W base args ds gs before hval0 hW hsh hL
  have hval : ∀ (j : Nat) t v, Tryd.f6.params[j]? = some t → args[j]? = some v → Value.okWide Tryd.prog W .any base t v := hval0
  have hW' := hW
  obtain ⟨p, q, hA0, hV, rfl, hfz, hnd⟩ := hW
  have hA : DataW.TrodAll enc Tryd.prog W 0 (fun _ => true) true Tryd.f6.params.toList args.toList ds p := hA0
  rw [Tryd.params6] at hA hval
  obtain ⟨v0, vs0, d0, ds0, p0, q0, hargs, rfl, rfl, h0, r0⟩ := trodAll_cons hA
  obtain ⟨v1, vs1, d1, ds1, p1, q1, rfl, rfl, rfl, h1, r1⟩ := trodAll_cons r0
  obtain ⟨v2, vs2, d2, ds2, p2, q2, rfl, rfl, rfl, h2, r2⟩ := trodAll_cons r1
  obtain ⟨rfl, rfl, rfl⟩ := trodAll_nil r2
  obtain rfl : args = #[v0, v1, v2] := by cases args; simp_all
  obtain ⟨rfl, rfl⟩ := trodVars_none hV
  have lt0 : ∀ x ∈ p0, x.block < W.heap.size := by obtain ⟨m, hm⟩ := h0; exact DataW.trod_lt m _ _ _ hm
  have k0 := h0
  obtain ⟨A0, len0, n0, rfl⟩ := okWide_slice Tryd.underlying45 (hval 0 45 v0 rfl rfl)
  obtain ⟨fuel0, hf0⟩ := h0
  obtain ⟨A0', n0', l0, hcs0, hl0, hm0, hz0, ha0, ho0⟩ := open_arr (enc := Itm.enc) _ Itm.enc_len (by decide) Tryd.underlying45 (by kernel_rfl) (fun n cs y h => dec_item h) hf0
  simp [Value.cells] at hcs0
  obtain ⟨rfl, rfl, rfl⟩ := hcs0
  have lt1 : ∀ x ∈ p1, x.block < W.heap.size := by obtain ⟨m, hm⟩ := h1; exact DataW.trod_lt m _ _ _ hm
  have k1 := h1
  obtain ⟨x1, rfl, rfl, rfl, w1⟩ := open_int Tryd.underlying3 (hval 1 3 v1 rfl rfl) h1
  have lt2 : ∀ x ∈ p2, x.block < W.heap.size := by obtain ⟨m, hm⟩ := h2; exact DataW.trod_lt m _ _ _ hm
  have k2 := h2
  obtain ⟨x2, rfl, rfl, rfl, w2⟩ := open_int Tryd.underlying3 (hval 2 3 v2 rfl rfl) h2
  clear hA0 hval0
  have ht := env5 hL hsh
  refine (walk A0 n0 l0 x1 x2 W ht ha0 hl0 hm0 hz0 ho0 w1 w2).mono fun e W' ⟨he, bel⟩ => ?_
  subst he
  exact ⟨_, rfl, _, _, _, [], _, [], hW', trodAll_mk1 (shut_bool Tryd.underlying4 _), (trodAll_cons_mk (Below.trod laidOut (by kernel_rfl) (of_decide_eq_true (by kernel_rfl)) k0 bel lt0) (trodAll_cons_mk (Below.trod laidOut (by kernel_rfl) (of_decide_eq_true (by kernel_rfl)) k1 bel lt1) (trodAll_cons_mk (Below.trod laidOut (by kernel_rfl) (of_decide_eq_true (by kernel_rfl)) k2 bel lt2) trodAll_mk0))), rfl, bel.frame _, fun h => by cases h⟩

theorem over : Rows.distilTextsRow.holds Tryd.pinned (OpenSpec.ofChange Rows.distilTextsSpec) :=
  OpenClaim.holds_of_wide 6 Tryd.f6 rfl rfl rfl rfl rfl rfl rfl ⟨rfl, rfl, rfl, rfl, rfl⟩ rfl rfl rfl rfl rfl (by kernel_rfl) Tryd.func6 (by kernel_rfl)
    (of_decide_eq_true (by kernel_rfl)) (by unfold Func.isWrapper; first | (rw [if_pos (by decide +kernel)]; kernel_rfl) | (rw [if_neg (by decide +kernel)]; exact ⟨rfl, rfl⟩))
    (fun os started H enc _ => lifted os started H enc)

theorem proved : Rows.DistilTextsCardSaid :=
  Claim7.holds_tied_plain_at .later [] [.data, .data, .data, .sentinel, .sentinel] true _ true over (fun _ h => by cases h) (by kernel_rfl) (fun _ h => by cases h) distilTexts_row_tie rfl ⟨rfl, rfl⟩ (by kernel_rfl) rfl
    (fun f fn hf hfn => by
      obtain rfl : f = 6 := Option.some.inj ((show Tryd.prog.funcNamed "waveplate/waveplatelaw06.DistilTexts" = some 6 by kernel_rfl).symm.trans hf) |>.symm
      obtain rfl : fn = Tryd.f6 := (Option.some.inj (Tryd.func6.symm.trans hfn)).symm
      exact ⟨by kernel_rfl, fun j t ht => by
        rw [Tryd.params6] at ht
        have hm : t ∈ [45, 3, 3] := by simpa using Array.mem_of_getElem? ht
        have hall : ([45, 3, 3].all fun u => !Tryd.prog.wantsStandIn u) = true := by kernel_rfl
        exact (show Tryd.prog.wantsStandIn t = false by simpa using List.all_eq_true.1 hall t hm)⟩)
    (by kernel_rfl)
#print axioms proved
end Go.Proofs.YtoccbcjkjcgdlaaDoor.distilTexts
