/- The statement DistilShortens: for any block, numbers, ledger and seed the law returns true and its argument reads as it did. No condition but what the card ties: the listed tables are as the program's text lays them. -/
import Derived.Test.YtliekcfcdfakjaaDoorDoorD
import Derived.Test.YtliekcfcdfakjaaDoorKnownD
import Derived.Test.YtliekcfcdfakjaaDoorShoB
import Derived.Test.YtliekcfcdfakjaaDoorTie
import Derived.Test.YtliekcfcdfakjaaDoorCards
import Derived.SevenTiedAt
namespace Go.Proofs.YtliekcfcdfakjaaDoor.distilShortens
open Go.ChangeShapes Go.WideShapes Go.ChangeAt Go.RowKit Go.Deep Go.Joins
set_option linter.unusedVariables false
set_option linter.unusedSimpArgs false

def Bx7 (v wx : World) (c0 c1 c2 c3 c4 c5 c6 : Value) : Prop := Below v.heap.size v wx ∧ wx.cell? ⟨v.heap.size, 0, none⟩ = some c0 ∧ wx.cell? ⟨v.heap.size, 1, none⟩ = some c1 ∧ wx.cell? ⟨v.heap.size, 2, none⟩ = some c2 ∧ wx.cell? ⟨v.heap.size, 3, none⟩ = some c3 ∧ wx.cell? ⟨v.heap.size, 4, none⟩ = some c4 ∧ wx.cell? ⟨v.heap.size, 5, none⟩ = some c5 ∧ wx.cell? ⟨v.heap.size, 6, none⟩ = some c6
theorem Bx7.on {v wx wy : World} {c0 c1 c2 c3 c4 c5 c6 : Value} (h : Bx7 v wx c0 c1 c2 c3 c4 c5 c6) (hb : Below wx.heap.size wx wy) : Bx7 v wy c0 c1 c2 c3 c4 c5 c6 := by
  obtain ⟨h, h0, h1, h2, h3, h4, h5, h6⟩ := h
  exact ⟨below_trans h hb, bel_cell hb h0, bel_cell hb h1, bel_cell hb h2, bel_cell hb h3, bel_cell hb h4, bel_cell hb h5, bel_cell hb h6⟩
theorem Bx7.new (v : World) (c0 c1 c2 c3 c4 c5 c6 : Value) (T : TypeId) : Bx7 v (v.alloc (.cells #[c0, c1, c2, c3, c4, c5, c6] T)) c0 c1 c2 c3 c4 c5 c6 :=
  ⟨below_alloc (Below.refl _ _) _, new_cell rfl, new_cell rfl, new_cell rfl, new_cell rfl, new_cell rfl, new_cell rfl, new_cell rfl⟩

theorem app_on {v w1 : World} {O O2 : Obj} (hb1 : Below (v.heap.size + 1) ((v.alloc O).alloc O2) w1) : Below (v.alloc O).heap.size (v.alloc O) w1 := (below_alloc (Below.refl _ _) _).trans (hb1.mono (by simp))
set_option maxHeartbeats 400000 in
theorem small_any (t : Int) (w : World) : Calls Tryd.prog 13 #[.int .i64 t] w fun e w' => e = .returned (.bool (decide (t ≤ 60 ∨ 512 < t))) ∧ w = w' := by
  go_enter Tryd.func13, Tryd.ntmps13
  go_wp2
  all_goals (go_ret; exact ⟨ret_bool (by first | (rw [Bool.eq_iff_iff]; simp; omega) | (rw [Bool.eq_iff_iff]; simp; done) | (simp; omega) | (simp; done) | rfl), rfl⟩)

theorem seed_len (n out : Int) (s : Nat) : (seedL n out s).length ≤ 65536 := by
  unfold seedL
  split
  · rename_i h
    obtain ⟨N, O, rfl, rfl, h1, h2⟩ := sd_yes h
    rw [drwL_len]; simp; omega
  · simp
theorem amp_len (a : List Bool) (out : Int) (s : Nat) : (ampL a out s).length ≤ 65536 := by
  unfold ampL
  split
  · rename_i h
    unfold toepL; rw [toepK_len]
    unfold ampE at h
    split at h
    · cases h
    · unfold seedE at h
      split at h
      · rename_i h2
        obtain ⟨N, O, _, rfl, h1, h2⟩ := sd_yes h2
        simp; omega
      · cases h
  · simp
theorem ds_len (a : List Bool) (n t : Int) (l : List Itm) (m : Int) (s : Nat) : (dsL a n t l m s).length ≤ 65536 := by
  unfold dsL
  split
  · simp
  · split
    · simp
    · split
      · simp
      · split
        · simp
        · exact amp_len _ _ _

set_option maxRecDepth 100000 in
set_option maxHeartbeats 4000000 in
theorem go_early (A : Option Addr) (cA : Nat) (a : List Bool) (n t out mg : Int) (B : Option Addr) (cB : Nat) (l : List Itm) (sd : Nat) (v : World) (ht : Tab v) (h : ¬ (a.length ≤ 60 ∨ 512 < a.length) ∨ 600 < a.length ∨ 20 < l.length) :
    Calls Tryd.prog 8 #[.agg #[.slice A a.length cA, .int .i64 n, .int .i64 t, .int .i64 out, .int .i64 mg, .slice B l.length cB, .int .u64 sd]] v fun e w' => e = .returned (.bool true) ∧ Below v.heap.size v w' := by
  have htl := ht.lt
  have q0 : Below v.heap.size v (v.alloc (.cells #[.slice A a.length cA, .int .i64 n, .int .i64 t, .int .i64 out, .int .i64 mg, .slice B l.length cB, .int .u64 sd] 64)) := below_alloc (Below.refl _ _) _
  have cK := fun w' (hb : Below v.heap.size v w') => known_any w' (ht.on hb htl)
  have cS := fun w' => small_any a.length w'
  have ways : (decide ((a.length : Int) ≤ 60 ∨ 512 < (a.length : Int)) = false) ∨ (decide ((a.length : Int) ≤ 60 ∨ 512 < (a.length : Int)) = true ∧ decide (600 < (a.length : Int)) = true) ∨ (decide ((a.length : Int) ≤ 60 ∨ 512 < (a.length : Int)) = true ∧ decide (600 < (a.length : Int)) = false ∧ decide (20 < (l.length : Int)) = true) := by
    simp only [decide_eq_true_eq, decide_eq_false_iff_not]; omega
  rcases ways with h1 | ⟨h1, h2⟩ | ⟨h1, h2, h3⟩
  all_goals (
    rw [h1] at cS
    clear h h1
    go_enter Tryd.func8, Tryd.ntmps8
    go_wp2_with (first
      | (go_at_call 13; refine (cS _).mono ?_; rintro e w' ⟨rfl, rfl⟩)
      | (go_at_call 14; refine (cK _ q0).mono ?_; rintro e w5 ⟨rfl, hb5⟩))
    go_ret
    exact ⟨rfl, below_trans q0 hb5⟩)

set_option maxRecDepth 100000 in
set_option maxHeartbeats 8000000 in
theorem go_main (A : Option Addr) (cA : Nat) (a : List Bool) (n t out mg : Int) (B : Option Addr) (cB : Nat) (l : List Itm) (sd : Nat) (v : World) (ht : Tab v) (hA : Arr 1 encB v v.heap.size A a) (hB : Arr 2 Itm.enc v v.heap.size B l) (na : A = none → cA = 0)
    (hs : a.length ≤ 60 ∨ 512 < a.length) (ha : a.length ≤ 600) (hl : l.length ≤ 20) :
    Calls Tryd.prog 8 #[.agg #[.slice A a.length cA, .int .i64 n, .int .i64 t, .int .i64 out, .int .i64 mg, .slice B l.length cB, .int .u64 sd]] v fun e w' => e = .returned (.bool true) ∧ Below v.heap.size v w' := by
  have htl := ht.lt
  obtain ⟨i0, hi, hz0, hz1, hz2⟩ := info_parts bool_info3
  have Hi := Lib.hid hi; have Hz0 := Lib.hid hz0; have Hz1 := Lib.hid hz1; have Hz2 := Lib.hid hz2
  clear hi hz0 hz1 hz2
  have q0 := Bx7.new v (.slice A a.length cA) (.int .i64 n) (.int .i64 t) (.int .i64 out) (.int .i64 mg) (.slice B l.length cB) (.int .u64 sd) 64
  have cK := fun w' (hb : Below v.heap.size v w') => known_any w' (ht.on hb htl)
  have cS := fun w' => small_any a.length w'
  rw [decide_eq_true (show (a.length : Int) ≤ 60 ∨ 512 < (a.length : Int) from by omega)] at cS
  have d2 : decide (600 < (a.length : Int)) = false := by simp; omega
  have d3 : decide (20 < (l.length : Int)) = false := by simp; omega
  have s1 := fun w' => Seed_any n out sd w'
  have s2 := fun w' => rSeed_any n out sd w'
  have lS := seed_len n out sd
  generalize seedL n out sd = L1 at *
  generalize seedE n out = E1 at *
  have p1 := fun A' c' w' (h : Arr 1 encB w' w'.heap.size A' a) => Amplify_any A' c' a out sd w' h
  have p2 := fun A' c' w' (h : Arr 1 encB w' w'.heap.size A' a) => rAmplify_any A' c' a out sd w' h
  have r1 := fun A' c' w' (h : Arr 1 encB w' w'.heap.size A' a) (hb : Below v.heap.size v w') => Distil_any A' c' a n t B cB l mg sd w' h (hB.on hb) (by omega)
  have r2 := fun A' c' w' (h : Arr 1 encB w' w'.heap.size A' a) (hb : Below v.heap.size v w') => rDistil_any A' c' a n t B cB l mg sd w' h (hB.on hb) (by omega)
  have lP := amp_len a out sd
  have lR := ds_len a n t l mg sd
  generalize ampL a out sd = L2 at *
  generalize ampE a out = E2 at *
  generalize dsL a n t l mg sd = L3 at *
  generalize dsE a n t l mg = E3 at *
  clear hs
  have oe : Own ((v.alloc (.cells #[.slice A a.length cA, .int .i64 n, .int .i64 t, .int .i64 out, .int .i64 mg, .slice B l.length cB, .int .u64 sd] 64)).alloc (.cells #[] 4)) (v.heap.size + 1) 4 1 encB (.slice (some ⟨v.heap.size + 1, 0, none⟩) 0 0) ([] : List Bool) := by
    have := own_empty (α := Bool) (sz := 1) (enc := encB) (v.alloc (.cells #[.slice A a.length cA, .int .i64 n, .int .i64 t, .int .i64 out, .int .i64 mg, .slice B l.length cB, .int .u64 sd] 64)) (v.heap.size + 1) 4 (by simp)
    rwa [World.size_alloc] at this
  have osz : v.heap.size + 1 ≤ ((v.alloc (.cells #[.slice A a.length cA, .int .i64 n, .int .i64 t, .int .i64 out, .int .i64 mg, .slice B l.length cB, .int .u64 sd] 64)).alloc (.cells #[] 4)).heap.size := by simp
  have oA := hA.keep (below_alloc q0.1 (.cells #[] 4))
  have oby : (([] : List Bool).length + a.length) * 1 ≤ 140737488355328 := by simp; omega
  go_enter Tryd.func8, Tryd.ntmps8
  go_wp2_with (first
    | (go_at_call 13; refine (cS _).mono ?_; rintro e w' ⟨rfl, rfl⟩)
    | (at_builtin; refine wpList_app rfl _ _ 43 rfl (v.heap.size + 1) 4 i0 _ 1 1 Tryd.underlying43 Hi.out Hz0.out Hz1.out Hz2.out rfl (by decide) encB_len encB_one _ ([] : List Bool) a _ cA v.heap.size rfl oe rfl oA na oby (by decide) osz ?_; intro v1 w1 own1 hb1; rw [List.nil_append] at own1; obtain ⟨AB, cB1, hv1, lB, mB, nB, arB⟩ := own1.form encB_len; subst hv1; have z1 := app_on hb1; have q1 := q0.on z1; obtain ⟨_, a0, a1, a2, a3, a4, a5, a6⟩ := q0.on z1)
    | (go_at_call 40; refine (s1 _).mono ?_; rintro e w2 ⟨v2, rfl, own2, hb2⟩; obtain ⟨A2, c2, hv2, _, _, _, ar2⟩ := own2.form encB_len; subst hv2; have q2 := q1.on hb2; obtain ⟨_, b0, b1, b2, b3, b4, b5, b6⟩ := q1.on hb2)
    | (go_at_call 41; refine (s2 _).mono ?_; rintro e w3 ⟨v3, rfl, own3, hb3⟩; obtain ⟨A3, c3, hv3, _, _, _, ar3⟩ := own3.form encB_len; subst hv3; have q3 := q2.on hb3; obtain ⟨_, e0, e1, e2, e3, e4, e5, e6⟩ := q2.on hb3)
    | (go_at_call 42; refine (p1 _ _ _ ((arB.on hb2).on hb3)).mono ?_; rintro e w4 ⟨v4, rfl, own4, hb4⟩; obtain ⟨A4, c4, hv4, _, _, _, ar4⟩ := own4.form encB_len; subst hv4; have q4 := q3.on hb4; obtain ⟨_, f0, f1, f2, f3, f4, f5, f6⟩ := q3.on hb4)
    | (go_at_call 43; refine (p2 _ _ _ (hA.on q4.1)).mono ?_; rintro e w5 ⟨v5, rfl, own5, hb5⟩; obtain ⟨A5, c5, hv5, _, _, _, ar5⟩ := own5.form encB_len; subst hv5; have q5 := q4.on hb5)
    | (go_at_call 44; refine Calls.on (args' := #[.slice A2 L1.length c2, .slice A3 L1.length c3]) rfl ?_; refine (Bools_same A2 A3 c2 c3 L1 w5 (((ar2.on hb3).on hb4).on hb5) ((ar3.on hb4).on hb5) lS).mono ?_; rintro e w6 ⟨rfl, hb6⟩; have q6 := q5.on hb6)
    | (go_at_call 44; refine Calls.on (args' := #[.slice A4 L2.length c4, .slice A5 L2.length c5]) rfl ?_; refine (Bools_same A4 A5 c4 c5 L2 w6 ((ar4.on hb5).on hb6) (ar5.on hb6) lP).mono ?_; rintro e w7 ⟨rfl, hb7⟩; have q7 := q6.on hb7; obtain ⟨_, g0, g1, g2, g3, g4, g5, g6⟩ := q6.on hb7; have arB7 := (((((arB.on hb2).on hb3).on hb4).on hb5).on hb6).on hb7)
    | (go_at_call 45; refine (r1 _ _ _ arB7 q7.1).mono ?_; rintro e w8 ⟨v8, rfl, own8, hb8⟩; obtain ⟨A8, c8, hv8, _, _, _, ar8⟩ := own8.form encB_len; subst hv8; have q8 := q7.on hb8; obtain ⟨_, h0, h1, h2, h3, h4, h5, h6⟩ := q7.on hb8)
    | (go_at_call 46; refine (r2 _ _ _ (hA.on q8.1) q8.1).mono ?_; rintro e w9 ⟨v9, rfl, own9, hb9⟩; obtain ⟨A9, c9, hv9, _, _, _, ar9⟩ := own9.form encB_len; subst hv9; have q9 := q8.on hb9)
    | (go_at_call 44; refine Calls.on (args' := #[.slice A8 L3.length c8, .slice A9 L3.length c9]) rfl ?_; refine (Bools_same A8 A9 c8 c9 L3 w9 (ar8.on hb9) ar9 lR).mono ?_; rintro e w10 ⟨rfl, hb10⟩; have q10 := q9.on hb10; obtain ⟨_, k0, k1, k2, k3, k4, k5, k6⟩ := q9.on hb10)
    | (go_at_call 44; refine Calls.on (args' := #[.slice AB a.length cB1, .slice A a.length cA]) rfl ?_; refine (Bools_same AB A cB1 cA a w10 (((arB7.on hb8).on hb9).on hb10) (hA.on q10.1) (by omega)).mono ?_; rintro e w11 ⟨rfl, hb11⟩; have q11 := q10.on hb11)
    | (go_at_call 14; refine (cK _ q11.1).mono ?_; rintro e w12 ⟨rfl, hb12⟩))
  go_ret
  exact ⟨rfl, below_trans q11.1 hb12⟩

set_option maxRecDepth 100000 in
theorem walk (A : Option Addr) (cA : Nat) (a : List Bool) (n t out mg : Int) (B : Option Addr) (cB : Nat) (l : List Itm) (sd : Int) (v : World) (ht : Tab v)
    (hA : Arr 1 encB v v.heap.size A a) (la : a.length ≤ cA) (ma : cA ≤ maxLen) (na : A = none → cA = 0) (_ : ∀ x ∈ a, True)
    (_ : (Lit.int .i64 n).wf = true) (_ : (Lit.int .i64 t).wf = true) (_ : (Lit.int .i64 out).wf = true) (_ : (Lit.int .i64 mg).wf = true)
    (hB : Arr 2 Itm.enc v v.heap.size B l) (_ : l.length ≤ cB) (_ : cB ≤ maxLen) (_ : B = none → cB = 0) (_ : ∀ x ∈ l, i64ok x.kind ∧ i64ok x.bits) (h3 : (Lit.int .u64 sd).wf = true) :
    Calls Tryd.prog 8 #[.agg #[.slice A a.length cA, .int .i64 n, .int .i64 t, .int .i64 out, .int .i64 mg, .slice B l.length cB, .int .u64 sd]] v fun e w' => e = .returned (.bool true) ∧ Below v.heap.size v w' := by
  have b3 := bounds_u64 h3
  obtain ⟨x, rfl⟩ : ∃ k : Nat, sd = (k : Int) := ⟨sd.toNat, by omega⟩
  by_cases h : ¬ (a.length ≤ 60 ∨ 512 < a.length) ∨ 600 < a.length ∨ 20 < l.length
  · exact go_early A cA a n t out mg B cB l x v ht h
  · exact go_main A cA a n t out mg B cB l x v ht hA hB na (by omega) (by omega) (by omega)

set_option maxRecDepth 100000 in
theorem lifted (os : Os) (started : os.Started) (H : Type) (enc : TypeId × Value → H) :
    ReturnsInHanded {} Tryd.checked os 8 .any (fun w args => (Rows.distilShortensSpec.pre enc Tryd.prog Tryd.f8 [] false w args ∧ laidMetH Tryd.prog laid3 w) ∧ sizedMet enc Tryd.prog Tryd.f8 (OpenSpec.ofChange Rows.distilShortensSpec) false w args) (Rows.distilShortensSpec.post enc Tryd.prog Tryd.f8 false true false false) := by
  refine returnsInHanded_of_change_and (C := Tryd.checked) (X := fun w _ => laidMetH Tryd.prog laid3 w) (fun _ _ _ hh h => h.of_heap hh) own started (by kernel_rfl) Tryd.func8
    (ChangeSpec.witness_shaped (enc := enc) (C := Tryd.checked) (os := os) (X := fun w _ => laidMetH Tryd.prog laid3 w) false (World.doorLaid Tryd.prog 400 os) #[.agg #[.slice none 0 0, .int .i64 0, .int .i64 0, .int .i64 0, .int .i64 0, .slice none 0 0, .int .u64 0]] 8 rfl (World.shaped_of_RefB (by kernel_rfl) (by kernel_rfl)) (by kernel_rfl) (by kernel_rfl) (by kernel_rfl) (door3 os _)) ?_
  intro W base args ds gs before hval0 hW _ hsz hL _
  have hval : ∀ (j : Nat) t v, Tryd.f8.params[j]? = some t → args[j]? = some v → Value.okWide Tryd.prog W .any base t v := hval0
  have hW' := hW
  obtain ⟨p, q, hA0, hV, rfl, hfz, hnd⟩ := hW
  have hA : DataW.TrodAll enc Tryd.prog W 0 (fun _ => true) true Tryd.f8.params.toList args.toList ds p := hA0
  rw [Tryd.params8] at hA hval
  obtain ⟨v0, vs0, d0, ds0, p0, q0, hargs, rfl, rfl, h0, r0⟩ := trodAll_cons hA
  obtain ⟨rfl, rfl, rfl⟩ := trodAll_nil r0
  obtain rfl : args = #[v0] := by cases args; simp_all
  obtain ⟨rfl, rfl⟩ := trodVars_none hV
  have lt0 : ∀ x ∈ p0, x.block < W.heap.size := by obtain ⟨m, hm⟩ := h0; exact DataW.trod_lt m _ _ _ hm
  have k0 := h0
  obtain ⟨cs0, rfl, hsz0⟩ := okWide_struct Tryd.underlying64 (hval 0 64 v0 rfl rfl)
  obtain ⟨c0_0, c0_1, c0_2, c0_3, c0_4, c0_5, c0_6, rfl⟩ := arr7 (hsz0.trans (show Tryd.prog.cellsOf 64 = 7 from by kernel_rfl))
  obtain ⟨fuel0, hf0⟩ := h0
  obtain ⟨_, n0', hd0⟩ := trod_fields Tryd.underlying64 (by kernel_rfl) (by kernel_rfl) hf0
  obtain ⟨_, hy0_0⟩ := hd0 0 _ c0_0 rfl rfl
  obtain ⟨A0_0, n0_0, l0_0, hcs0_0, hl0_0, hm0_0, hz0_0, ha0_0, ho0_0⟩ := open_arr (enc := encB) _ encB_len (by decide) Tryd.underlying43 (by kernel_rfl) (fun n cs y h => dec_bool h) hy0_0
  obtain rfl : c0_0 = .slice A0_0 l0_0.length n0_0 := by simpa using hcs0_0
  obtain ⟨_, hy0_1⟩ := hd0 1 _ c0_1 rfl rfl
  obtain ⟨x0_1, e0_1, _, w0_1⟩ := DataW.trod_int Tryd.underlying3 hy0_1
  obtain rfl : c0_1 = .int .i64 x0_1 := by simpa using e0_1
  obtain ⟨_, hy0_2⟩ := hd0 2 _ c0_2 rfl rfl
  obtain ⟨x0_2, e0_2, _, w0_2⟩ := DataW.trod_int Tryd.underlying3 hy0_2
  obtain rfl : c0_2 = .int .i64 x0_2 := by simpa using e0_2
  obtain ⟨_, hy0_3⟩ := hd0 3 _ c0_3 rfl rfl
  obtain ⟨x0_3, e0_3, _, w0_3⟩ := DataW.trod_int Tryd.underlying3 hy0_3
  obtain rfl : c0_3 = .int .i64 x0_3 := by simpa using e0_3
  obtain ⟨_, hy0_4⟩ := hd0 4 _ c0_4 rfl rfl
  obtain ⟨x0_4, e0_4, _, w0_4⟩ := DataW.trod_int Tryd.underlying3 hy0_4
  obtain rfl : c0_4 = .int .i64 x0_4 := by simpa using e0_4
  obtain ⟨_, hy0_5⟩ := hd0 5 _ c0_5 rfl rfl
  obtain ⟨A0_5, n0_5, l0_5, hcs0_5, hl0_5, hm0_5, hz0_5, ha0_5, ho0_5⟩ := open_arr (enc := Itm.enc) _ Itm.enc_len (by decide) Tryd.underlying22 (by kernel_rfl) (fun n cs y h => dec_item h) hy0_5
  obtain rfl : c0_5 = .slice A0_5 l0_5.length n0_5 := by simpa using hcs0_5
  obtain ⟨_, hy0_6⟩ := hd0 6 _ c0_6 rfl rfl
  obtain ⟨x0_6, e0_6, _, w0_6⟩ := DataW.trod_int Tryd.underlying45 hy0_6
  obtain rfl : c0_6 = .int .u64 x0_6 := by simpa using e0_6
  clear hA0 hval0
  have ht := tab3 hL
  refine (walk A0_0 n0_0 l0_0 x0_1 x0_2 x0_3 x0_4 A0_5 n0_5 l0_5 x0_6 W ht ha0_0 hl0_0 hm0_0 hz0_0 ho0_0 w0_1 w0_2 w0_3 w0_4 ha0_5 hl0_5 hm0_5 hz0_5 ho0_5 w0_6).mono fun e W' ⟨he, bel⟩ => ?_
  subst he
  exact ⟨_, rfl, _, _, _, [], _, [], hW', trodAll_mk1 (shut_bool Tryd.underlying4 _), (trodAll_cons_mk (Below.trod laidOut (by kernel_rfl) (of_decide_eq_true (by kernel_rfl)) k0 bel lt0) trodAll_mk0), rfl, bel.frame _, fun h => by cases h⟩

theorem over : Rows.distilShortensRow.holds Tryd.pinned (OpenSpec.ofChange Rows.distilShortensSpec) :=
  OpenClaim.holds_of_wide 8 Tryd.f8 rfl rfl rfl rfl rfl rfl rfl ⟨rfl, rfl, rfl, rfl, rfl⟩ rfl rfl rfl rfl rfl (by kernel_rfl) Tryd.func8 (by kernel_rfl)
    (of_decide_eq_true (by kernel_rfl)) (by unfold Func.isWrapper; first | (rw [if_pos (by decide +kernel)]; kernel_rfl) | (rw [if_neg (by decide +kernel)]; exact ⟨rfl, rfl⟩))
    (fun os started H enc _ => lifted os started H enc)

theorem proved : Rows.DistilShortensCardSaid :=
  Claim7.holds_tied_plain_at .later [] [.data, .data, .data] true _ true over (fun _ h => by cases h) (by kernel_rfl) (fun _ h => by cases h) distilShortens_row_tie rfl ⟨rfl, rfl⟩ (by kernel_rfl) rfl
    (fun f fn hf hfn => by
      obtain rfl : f = 8 := Option.some.inj ((show Tryd.prog.funcNamed "waveplate/waveplatelaw06.DistilShortens" = some 8 by kernel_rfl).symm.trans hf) |>.symm
      obtain rfl : fn = Tryd.f8 := (Option.some.inj (Tryd.func8.symm.trans hfn)).symm
      exact ⟨by kernel_rfl, fun j t ht => by
        rw [Tryd.params8] at ht
        have hm : t ∈ [64] := by simpa using Array.mem_of_getElem? ht
        have hall : ([64].all fun u => !Tryd.prog.wantsStandIn u) = true := by kernel_rfl
        exact (show Tryd.prog.wantsStandIn t = false by simpa using List.all_eq_true.1 hall t hm)⟩)
    (by kernel_rfl)
#print axioms proved
end Go.Proofs.YtliekcfcdfakjaaDoor.distilShortens
