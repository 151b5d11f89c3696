/- The statement DistilDigests: for any two blocks, width, key and digest the law returns true and its argument reads as it did. No condition but what the card ties: the listed tables are as the program's text lays them. -/
import Derived.Test.YtliekcfcdfakjaaDoorDoorD
import Derived.Test.YtliekcfcdfakjaaDoorKnownD
import Derived.Test.YtliekcfcdfakjaaDoorDigA
import Derived.Test.YtliekcfcdfakjaaDoorTie
import Derived.Test.YtliekcfcdfakjaaDoorCards
import Derived.SevenTiedAt
namespace Go.Proofs.YtliekcfcdfakjaaDoor.distilDigests
open Go.ChangeShapes Go.WideShapes Go.ChangeAt Go.RowKit Go.Deep Go.Joins
set_option linter.unusedVariables false
set_option linter.unusedSimpArgs false

set_option maxRecDepth 100000 in
set_option maxHeartbeats 2000000 in
theorem main (A : Option Addr) (cA : Nat) (a : List Bool) (B : Option Addr) (cB : Nat) (b : List Bool) (w : Int) (key d : Nat) (v : World) (ht : Tab v) (hA : Arr 1 encB v v.heap.size A a) (hB : Arr 1 encB v v.heap.size B b)
    (la : a.length ≤ cA) (ma : cA ≤ maxLen) (na : A = none → cA = 0) (lb : b.length ≤ cB) (mb : cB ≤ maxLen) (nb : B = none → cB = 0) :
    Calls Tryd.prog 7 #[.agg #[.slice A a.length cA, .slice B b.length cB, .int .i64 w, .int .u64 key, .int .u64 d]] v fun e w' => e = .returned (.bool true) ∧ Below v.heap.size v w' := by
  have htl := ht.lt
  obtain ⟨O, hO⟩ : ∃ O : Obj, O = .cells #[.slice A a.length cA, .slice B b.length cB, .int .i64 w, .int .u64 key, .int .u64 d] 58 := ⟨_, rfl⟩
  have q0 : Below v.heap.size v (v.alloc O) := below_alloc (Below.refl _ _) _
  have cK := fun w' (hb : Below v.heap.size v w') => known_any w' (ht.on hb htl)
  by_cases h1 : 600 < a.length
  · have d1 : decide (600 < (a.length : Int)) = true := by simp; omega
    subst hO
    go_enter Tryd.func7, Tryd.ntmps7
    go_wp2_with (go_at_call 14; refine (cK _ q0).mono ?_; rintro e w5 ⟨rfl, hb5⟩)
    go_ret
    exact ⟨rfl, below_trans q0 hb5⟩
  have d1 : decide (600 < (a.length : Int)) = false := by simp; omega
  by_cases h2 : 600 < b.length
  · have d2 : decide (600 < (b.length : Int)) = true := by simp; omega
    subst hO
    go_enter Tryd.func7, Tryd.ntmps7
    go_wp2_with (go_at_call 14; refine (cK _ q0).mono ?_; rintro e w5 ⟨rfl, hb5⟩)
    go_ret
    exact ⟨rfl, below_trans q0 hb5⟩
  have d2 : decide (600 < (b.length : Int)) = false := by simp; omega
  have z0 : (v.alloc O).cell? ⟨v.heap.size, 0, none⟩ = some (.slice A a.length cA) := by rw [hO]; exact new_cell rfl
  have z1 : (v.alloc O).cell? ⟨v.heap.size, 1, none⟩ = some (.slice B b.length cB) := by rw [hO]; exact new_cell rfl
  have z2 : (v.alloc O).cell? ⟨v.heap.size, 2, none⟩ = some (.int .i64 w) := by rw [hO]; exact new_cell rfl
  have z3 : (v.alloc O).cell? ⟨v.heap.size, 3, none⟩ = some (.int .u64 key) := by rw [hO]; exact new_cell rfl
  have z4 : (v.alloc O).cell? ⟨v.heap.size, 4, none⟩ = some (.int .u64 d) := by rw [hO]; exact new_cell rfl
  have cD := Digest_any w key A cA a _ (hA.on q0) la ma
  have cR := fun w' (hb : Below v.heap.size v w') => rDigest_any w key A cA a w' (hA.on hb) na
  have cC := fun w' (hb : Below v.heap.size v w') => Confirm_any w key d B cB b w' (hB.on hb) lb mb
  have cS := fun w' (hb : Below v.heap.size v w') => rConfirm_any w key d B cB b w' (hB.on hb) nb
  have cL := fun w' (hb : Below v.heap.size v w') => Confirm_any w key (digN w key a) A cA a w' (hA.on hb) la ma
  have cz : Hid (digE w key a = 0 → cfE w key a (digN w key a) = 0) := Lib.hid (fun h => by unfold cfE; rw [if_neg (by simp), h])
  generalize digE w key a = E at *
  generalize cfE w key a (digN w key a) = C0 at *
  generalize digN w key a = N at *
  generalize cfE w key b d = C1 at *
  subst hO
  go_enter Tryd.func7, Tryd.ntmps7
  go_wp2_with (first
    | (go_at_call 36; refine cD.mono ?_; rintro e w1 ⟨rfl, hb1⟩; have q1 := below_trans q0 hb1; have t0 := bel_cell hb1 z0; have t2 := bel_cell hb1 z2; have t3 := bel_cell hb1 z3)
    | (go_at_call 37; refine (cR _ q1).mono ?_; rintro e w2 ⟨rfl, hb2⟩; have q2 := below_trans q1 hb2))
  have y0 := later_cell (bel_cell hb2 (bel_cell hb1 z0))
  have y1 := later_cell (bel_cell hb2 (bel_cell hb1 z1))
  have y2 := later_cell (bel_cell hb2 (bel_cell hb1 z2))
  have y3 := later_cell (bel_cell hb2 (bel_cell hb1 z3))
  have y4 := later_cell (bel_cell hb2 (bel_cell hb1 z4))
  have lC := fun (x : Later w2) => calls_later (cC x.w (below_trans q2 x.2))
  have lS := fun (x : Later w2) => calls_later (cS x.w (below_trans q2 x.2))
  clear z0 z1 z2 z3 z4 cD cR cC cS
  refine wp_region_later (by kernel_rfl) (by kernel_rfl) ?_
  repeat (go_big_quiet_step ((first | (go_at_call 38; exact lC _) | (go_at_call 39; exact lS _))))
  refine wpQuiet_nil ?_
  rintro w3 ⟨x3, rfl⟩
  have x0 := y0 x3; have x1 := y1 x3; have x2 := y2 x3; have x4 := y3 x3
  have q3 : Below v.heap.size v x3.w := below_trans q2 x3.2
  generalize x3.w = w3 at *
  clear y0 y1 y2 y3 y4 lC lS
  have cL3 := cL w3 q3
  by_cases hE : E = 0
  · subst hE
    have c0 := cz.out rfl
    subst c0
    go_wp2_with (first
      | (go_at_call 38; refine cL3.mono ?_; rintro e w4 ⟨rfl, hb4⟩; have q4 := below_trans q3 hb4)
      | (go_at_call 14; refine (cK _ q4).mono ?_; rintro e w5 ⟨rfl, hb5⟩))
    go_ret
    exact ⟨rfl, below_trans q4 hb5⟩
  · have e0 : (E == 0) = false := by simpa using hE
    clear hE
    go_wp2_with (go_at_call 14; refine (cK _ q3).mono ?_; rintro e w5 ⟨rfl, hb5⟩)
    go_ret
    exact ⟨rfl, below_trans q3 hb5⟩

theorem walk (A : Option Addr) (cA : Nat) (a : List Bool) (B : Option Addr) (cB : Nat) (b : List Bool) (w key d : Int) (v : World) (ht : Tab v)
    (hA : Arr 1 encB v v.heap.size A a) (la : a.length ≤ cA) (ma : cA ≤ maxLen) (na : A = none → cA = 0) (_ : ∀ x ∈ a, True)
    (hB : Arr 1 encB v v.heap.size B b) (lb : b.length ≤ cB) (mb : cB ≤ maxLen) (nb : B = none → cB = 0) (_ : ∀ x ∈ b, True) (_ : (Lit.int .i64 w).wf = true) (hk : (Lit.int .u64 key).wf = true) (hd : (Lit.int .u64 d).wf = true) :
    Calls Tryd.prog 7 #[.agg #[.slice A a.length cA, .slice B b.length cB, .int .i64 w, .int .u64 key, .int .u64 d]] v fun e w' => e = .returned (.bool true) ∧ Below v.heap.size v w' := by
  have b1 := bounds_u64 hk
  have b2 := bounds_u64 hd
  obtain ⟨k, rfl⟩ : ∃ k : Nat, key = (k : Int) := ⟨key.toNat, by omega⟩
  obtain ⟨e, rfl⟩ : ∃ k : Nat, d = (k : Int) := ⟨d.toNat, by omega⟩
  exact main A cA a B cB b w k e v ht hA hB la ma na lb mb nb

set_option maxRecDepth 100000 in
theorem lifted (os : Os) (started : os.Started) (H : Type) (enc : TypeId × Value → H) :
    ReturnsInHanded {} Tryd.checked os 7 .any (fun w args => (Rows.distilDigestsSpec.pre enc Tryd.prog Tryd.f7 [] false w args ∧ laidMetH Tryd.prog laid3 w) ∧ sizedMet enc Tryd.prog Tryd.f7 (OpenSpec.ofChange Rows.distilDigestsSpec) false w args) (Rows.distilDigestsSpec.post enc Tryd.prog Tryd.f7 false true false false) := by
  refine returnsInHanded_of_change_and (C := Tryd.checked) (X := fun w _ => laidMetH Tryd.prog laid3 w) (fun _ _ _ hh h => h.of_heap hh) own started (by kernel_rfl) Tryd.func7
    (ChangeSpec.witness_shaped (enc := enc) (C := Tryd.checked) (os := os) (X := fun w _ => laidMetH Tryd.prog laid3 w) false (World.doorLaid Tryd.prog 400 os) #[.agg #[.slice none 0 0, .slice none 0 0, .int .i64 0, .int .u64 0, .int .u64 0]] 8 rfl (World.shaped_of_RefB (by kernel_rfl) (by kernel_rfl)) (by kernel_rfl) (by kernel_rfl) (by kernel_rfl) (door3 os _)) ?_
  intro W base args ds gs before hval0 hW _ hsz hL _
  have hval : ∀ (j : Nat) t v, Tryd.f7.params[j]? = some t → args[j]? = some v → Value.okWide Tryd.prog W .any base t v := hval0
  have hW' := hW
  obtain ⟨p, q, hA0, hV, rfl, hfz, hnd⟩ := hW
  have hA : DataW.TrodAll enc Tryd.prog W 0 (fun _ => true) true Tryd.f7.params.toList args.toList ds p := hA0
  rw [Tryd.params7] at hA hval
  obtain ⟨v0, vs0, d0, ds0, p0, q0, hargs, rfl, rfl, h0, r0⟩ := trodAll_cons hA
  obtain ⟨rfl, rfl, rfl⟩ := trodAll_nil r0
  obtain rfl : args = #[v0] := by cases args; simp_all
  obtain ⟨rfl, rfl⟩ := trodVars_none hV
  have lt0 : ∀ x ∈ p0, x.block < W.heap.size := by obtain ⟨m, hm⟩ := h0; exact DataW.trod_lt m _ _ _ hm
  have k0 := h0
  obtain ⟨cs0, rfl, hsz0⟩ := okWide_struct Tryd.underlying58 (hval 0 58 v0 rfl rfl)
  obtain ⟨c0_0, c0_1, c0_2, c0_3, c0_4, rfl⟩ := arr5 (hsz0.trans (show Tryd.prog.cellsOf 58 = 5 from by kernel_rfl))
  obtain ⟨fuel0, hf0⟩ := h0
  obtain ⟨_, n0', hd0⟩ := trod_fields Tryd.underlying58 (by kernel_rfl) (by kernel_rfl) hf0
  obtain ⟨_, hy0_0⟩ := hd0 0 _ c0_0 rfl rfl
  obtain ⟨A0_0, n0_0, l0_0, hcs0_0, hl0_0, hm0_0, hz0_0, ha0_0, ho0_0⟩ := open_arr (enc := encB) _ encB_len (by decide) Tryd.underlying43 (by kernel_rfl) (fun n cs y h => dec_bool h) hy0_0
  obtain rfl : c0_0 = .slice A0_0 l0_0.length n0_0 := by simpa using hcs0_0
  obtain ⟨_, hy0_1⟩ := hd0 1 _ c0_1 rfl rfl
  obtain ⟨A0_1, n0_1, l0_1, hcs0_1, hl0_1, hm0_1, hz0_1, ha0_1, ho0_1⟩ := open_arr (enc := encB) _ encB_len (by decide) Tryd.underlying43 (by kernel_rfl) (fun n cs y h => dec_bool h) hy0_1
  obtain rfl : c0_1 = .slice A0_1 l0_1.length n0_1 := by simpa using hcs0_1
  obtain ⟨_, hy0_2⟩ := hd0 2 _ c0_2 rfl rfl
  obtain ⟨x0_2, e0_2, _, w0_2⟩ := DataW.trod_int Tryd.underlying3 hy0_2
  obtain rfl : c0_2 = .int .i64 x0_2 := by simpa using e0_2
  obtain ⟨_, hy0_3⟩ := hd0 3 _ c0_3 rfl rfl
  obtain ⟨x0_3, e0_3, _, w0_3⟩ := DataW.trod_int Tryd.underlying45 hy0_3
  obtain rfl : c0_3 = .int .u64 x0_3 := by simpa using e0_3
  obtain ⟨_, hy0_4⟩ := hd0 4 _ c0_4 rfl rfl
  obtain ⟨x0_4, e0_4, _, w0_4⟩ := DataW.trod_int Tryd.underlying45 hy0_4
  obtain rfl : c0_4 = .int .u64 x0_4 := by simpa using e0_4
  clear hA0 hval0
  have ht := tab3 hL
  refine (walk A0_0 n0_0 l0_0 A0_1 n0_1 l0_1 x0_2 x0_3 x0_4 W ht ha0_0 hl0_0 hm0_0 hz0_0 ho0_0 ha0_1 hl0_1 hm0_1 hz0_1 ho0_1 w0_2 w0_3 w0_4).mono fun e W' ⟨he, bel⟩ => ?_
  subst he
  exact ⟨_, rfl, _, _, _, [], _, [], hW', trodAll_mk1 (shut_bool Tryd.underlying4 _), (trodAll_cons_mk (Below.trod laidOut (by kernel_rfl) (of_decide_eq_true (by kernel_rfl)) k0 bel lt0) trodAll_mk0), rfl, bel.frame _, fun h => by cases h⟩

theorem over : Rows.distilDigestsRow.holds Tryd.pinned (OpenSpec.ofChange Rows.distilDigestsSpec) :=
  OpenClaim.holds_of_wide 7 Tryd.f7 rfl rfl rfl rfl rfl rfl rfl ⟨rfl, rfl, rfl, rfl, rfl⟩ rfl rfl rfl rfl rfl (by kernel_rfl) Tryd.func7 (by kernel_rfl)
    (of_decide_eq_true (by kernel_rfl)) (by unfold Func.isWrapper; first | (rw [if_pos (by decide +kernel)]; kernel_rfl) | (rw [if_neg (by decide +kernel)]; exact ⟨rfl, rfl⟩))
    (fun os started H enc _ => lifted os started H enc)

theorem proved : Rows.DistilDigestsCardSaid :=
  Claim7.holds_tied_plain_at .later [] [.data, .data, .data] true _ true over (fun _ h => by cases h) (by kernel_rfl) (fun _ h => by cases h) distilDigests_row_tie rfl ⟨rfl, rfl⟩ (by kernel_rfl) rfl
    (fun f fn hf hfn => by
      obtain rfl : f = 7 := Option.some.inj ((show Tryd.prog.funcNamed "waveplate/waveplatelaw06.DistilDigests" = some 7 by kernel_rfl).symm.trans hf) |>.symm
      obtain rfl : fn = Tryd.f7 := (Option.some.inj (Tryd.func7.symm.trans hfn)).symm
      exact ⟨by kernel_rfl, fun j t ht => by
        rw [Tryd.params7] at ht
        have hm : t ∈ [58] := by simpa using Array.mem_of_getElem? ht
        have hall : ([58].all fun u => !Tryd.prog.wantsStandIn u) = true := by kernel_rfl
        exact (show Tryd.prog.wantsStandIn t = false by simpa using List.all_eq_true.1 hall t hm)⟩)
    (by kernel_rfl)
#print axioms proved
end Go.Proofs.YtliekcfcdfakjaaDoor.distilDigests
