/- The walk of the closed statement DistilKnown. -/
import Derived.Test.YtpejoghdmkpfcaaGreatDoorKnwP
import Derived.Test.YtpejoghdmkpfcaaGreatDoorPrsW
import Derived.Test.YtpejoghdmkpfcaaGreatDoorOncAll
namespace Go.Proofs.YtpejoghdmkpfcaaGreatDoor
open Go.RowKit Go.Maps
set_option linter.unusedVariables false
set_option linter.unusedSimpArgs false

theorem own_formB {w : World} {b n : Nat} {v : Value} (h : Own w b 4 1 (fun x => [Value.bool x]) v (List.replicate n false)) : ∃ A c, v = .slice A (List.replicate n false).length c ∧ (List.replicate n false).length ≤ c ∧ c ≤ maxLen ∧ (A = none → c = 0) ∧ Arr 1 encB w w.heap.size A (List.replicate n false) :=
  Own.form (enc := encB) h encB_len

theorem kw_used : usedS [] = [] := by simp [usedS]
set_option maxRecDepth 100000 in
set_option maxHeartbeats 32000000 in
theorem known_walk (v : World) (ht : Env v) : Calls Tryz.prog 5 #[] v fun e w' => e = .returned (.bool true) ∧ Below v.heap.size v w' := by
  obtain ⟨w0, rfl⟩ : ∃ w0, w0 = v := ⟨_, rfl⟩
  have q0 := Below.refl w0.heap.size w0
  have cE := Enter_any none 0 [] 1 3 w0 Arr.nil (by decide) (fun _ => rfl)
  rw [ex_ent1] at cE
  simp only [Ent.e, Ent.l] at cE
  go_enter Tryz.func5, Tryz.ntmps5
  go_wp2_with fail
  refine (cE).mono ?_
  rintro e w1 ⟨v1, rfl, o1, hb1⟩
  have q1 := below_trans q0 hb1
  obtain ⟨A1, k1, hv1, ll1, mm1, nn1, ar1⟩ := o1.form Itm.enc_len
  subst hv1
  clear cE
  have cE := Enter_any A1 k1 [⟨1, 3⟩] 1 4 w1 ar1 (by decide) nn1
  rw [ex_ent2] at cE
  simp only [Ent.e, Ent.l] at cE
  go_wp2_with fail
  refine (cE).mono ?_
  rintro e w2 ⟨v2, rfl, o2, hb2⟩
  have q2 := below_trans q1 hb2
  obtain ⟨A2, k2, hv2, ll2, mm2, nn2, ar2⟩ := o2.form Itm.enc_len
  subst hv2
  clear cE o1 ar1
  have cE := Enter_any A2 k2 [⟨1, 7⟩] 3 16 w2 ar2 (by decide) nn2
  rw [kw_ent3] at cE
  simp only [Ent.e, Ent.l] at cE
  go_wp2_with fail
  refine (cE).mono ?_
  rintro e w3 ⟨v3, rfl, o3, hb3⟩
  have q3 := below_trans q2 hb3
  obtain ⟨A3, k3, hv3, ll3, mm3, nn3, ar3⟩ := o3.form Itm.enc_len
  subst hv3
  clear cE o2 ar2
  have cE := Total_any A3 k3 [⟨1, 7⟩, ⟨3, 16⟩] w3 ar3 (by decide)
  rw [kw_led.1, kw_led.2.1] at cE
  go_wp2_with fail
  refine (cE).mono ?_
  rintro e w4 ⟨rfl, hb4⟩
  have q4 := below_trans q3 hb4
  have ar4 := ar3.on hb4
  clear cE o3
  have cE := dOf_any A3 k3 [⟨1, 7⟩, ⟨3, 16⟩] 3 w4 ar4 (by decide)
  rw [kw_led.2.2.1, kw_led.2.2.2] at cE
  go_wp2_with fail
  refine (cE).mono ?_
  rintro e w5 ⟨rfl, hb5⟩
  have q5 := below_trans q4 hb5
  have ar5 := ar4.on hb5
  clear cE ar4
  have cE := Text_any A3 k3 [⟨1, 7⟩, ⟨3, 16⟩] w5 ar5 (by decide) (ht.on q5).tab
  rw [kw_led.1, if_pos rfl, kw_text] at cE
  go_wp2_with fail
  refine (cE).mono ?_
  rintro e w6 ⟨rfl, hb6⟩
  have q6 := below_trans q5 hb6
  clear cE ar5 ar3
  have cE := Parse_any kwS w6 (by decide) (ht.on q6)
  go_wp2_with fail
  refine (cE).mono ?_
  rintro e w7 ⟨v7, E7, L7, rfl, o7, r7, l7, hb7⟩
  have q7 := below_trans q6 hb7
  obtain ⟨rfl, rfl⟩ := kw_read r7
  clear cE o7 r7 l7
  have cE := Parse_any [] w7 (by decide) (ht.on q7)
  go_wp2_with fail
  refine (cE).mono ?_
  rintro e w8 ⟨v8, E8, L8, rfl, o8, r8, l8, hb8⟩
  have q8 := below_trans q7 hb8
  obtain ⟨rfl, rfl⟩ := kw_read0 r8
  obtain ⟨A8, k8, hv8, _, _, _, _⟩ := o8.form Itm.enc_len
  subst hv8
  clear cE o8 r8 l8
  have cE := Cost_any 8 1 w8 (by decide) (by decide)
  rw [kw_cost.1] at cE
  generalize costE 8 = C8 at cE
  go_wp2_with fail
  refine (cE).mono ?_
  rintro e w9 ⟨rfl, hb9⟩
  have q9 := below_trans q8 hb9
  clear cE
  have cE := Cost_any 8 0 w9 (by decide) (by decide)
  rw [kw_cost.2.1] at cE
  generalize costE 8 = C8 at cE
  go_wp2_with fail
  refine (cE).mono ?_
  rintro e w10 ⟨rfl, hb10⟩
  have q10 := below_trans q9 hb10
  clear cE
  have cE := Cost_any 8 8 w10 (by decide) (by decide)
  rw [kw_cost.2.2] at cE
  generalize costE 8 = C8 at cE
  go_wp2_with fail
  refine (cE).mono ?_
  rintro e w11 ⟨rfl, hb11⟩
  have q11 := below_trans q10 hb11
  clear cE
  have hL := arr_lit (enc := Itm.enc) (sz := 2) w11 [⟨3, 16⟩] #[.int .i64 3, .int .i64 16] 65 rfl Itm.enc_len
  have cE := Length_any 64 0 _ 1 [⟨3, 16⟩] 60 _ hL (by decide)
  rw [kw_len] at cE
  generalize lenE 64 0 [⟨3, 16⟩] 60 = C9 at cE
  have qL := below_alloc q11 (.cells #[.int .i64 3, .int .i64 16] 65)
  go_wp2_with fail
  refine cE.mono ?_
  rintro e w12 ⟨rfl, hb12⟩
  have q12 := below_trans qL hb12
  clear cE hL qL
  obtain ⟨u0, hu0⟩ : ∃ u0, w12 = u0 := ⟨_, rfl⟩
  have qz := below_alloc q12 (.cells #[.bool false] 4)
  have az := arr_lit (enc := encB) (sz := 1) w12 [false] #[.bool false] 4 rfl encB_len
  have ao := arr_lit (enc := encB) (sz := 1) (w12.alloc (.cells #[.bool false] 4)) [true] #[.bool true] 4 rfl encB_len
  have az2 := az.on (below_alloc (Below.refl _ _) (.cells #[.bool true] 4))
  have qo := below_alloc qz (.cells #[.bool true] 4)
  have szo : (w12.alloc (.cells #[.bool false] 4)).heap.size = w12.heap.size + 1 := by simp
  rw [szo] at ao
  have hvz : w0.heap.size ≤ w12.heap.size := q12.size
  clear hu0 u0
  go_upto_region 18 with fail
  obtain ⟨B, hB⟩ : ∃ B, w12.heap.size = B := ⟨_, rfl⟩
  rw [hB] at az2 ao hvz ⊢
  obtain ⟨y0, hy0⟩ : ∃ y0, (w12.alloc (.cells #[.bool false] 4)).alloc (.cells #[.bool true] 4) = y0 := ⟨_, rfl⟩
  rw [hy0] at az2 ao qo ⊢
  clear hy0 hB az qz szo
  obtain ⟨w13, rfl⟩ : ∃ w13, w13 = y0 := ⟨_, rfl⟩
  have q13 := qo
  have z13 := az2
  have s13 := ao
  clear az2 ao qo
  have cE := Collisions_any 8 none 0 [] none 0 [] w13 Arr.nil (by decide) (by decide) Arr.nil (by decide) (by decide)
  rw [kw_col.1] at cE
  generalize colE 8 [] [] = C1 at cE
  go_wp2_with fail
  refine (cE).mono ?_
  rintro e w14 ⟨rfl, hb14⟩
  have q14 := below_trans q13 hb14
  clear cE
  have z14 := z13.on hb14
  have s14 := s13.on hb14
  clear z13 s13
  have cE := Collisions_any 8 _ 1 [false] _ 1 [true] w14 z14 (by decide) (by decide) s14 (by decide) (by decide)
  rw [kw_col.2.1] at cE
  generalize colE 8 [false] [true] = C2 at cE
  go_wp2_with fail
  refine (cE).mono ?_
  rintro e w15 ⟨rfl, hb15⟩
  have q15 := below_trans q14 hb15
  clear cE
  have z15 := z14.on hb15
  have s15 := s14.on hb15
  clear z14 s14
  have cE := Collisions_any 32 _ 1 [false] _ 1 [true] w15 z15 (by decide) (by decide) s15 (by decide) (by decide)
  rw [kw_col.2.2] at cE
  generalize colN 32 [false] [true] = C3 at cE
  go_wp2_with fail
  refine (cE).mono ?_
  rintro e w16 ⟨rfl, hb16⟩
  have q16 := below_trans q15 hb16
  clear cE
  have z16 := z15.on hb16
  have s16 := s15.on hb16
  clear z15 s15
  have cE := Number_any 1 8 w16 (by decide) (by decide)
  go_wp2_with fail
  refine (cE).mono ?_
  rintro e w17 ⟨vn, rfl, on_, hb17⟩
  have q17 := below_trans q16 hb17
  obtain ⟨An, kn, hvn, ln, mn, nn, arn⟩ := on_.form encB_len
  subst hvn
  clear cE on_
  have cE := Tag_any 8 2 5 An kn (numL 1 8) w17 arn ln mn
  rw [kw_tag.1, kw_tag.2] at cE
  have z17 := z16.on hb17
  have s17 := s16.on hb17
  clear z16 s16
  go_wp2_with fail
  refine (cE).mono ?_
  rintro e w18 ⟨rfl, hb18⟩
  have q18 := below_trans q17 hb18
  clear cE arn
  have z18 := z17.on hb18
  have s18 := s17.on hb18
  clear z17 s17
  have cE := Forgeries_any 8 7 7 _ 1 [false] _ 1 [false] w18 z18 (by decide) (by decide) z18 (by decide) (by decide)
  rw [kw_fr.1] at cE
  generalize frE 8 7 7 [false] [false] = D7 at cE
  go_wp2_with fail
  refine (cE).mono ?_
  rintro e w19 ⟨rfl, hb19⟩
  have q19 := below_trans q18 hb19
  clear cE
  have z19 := z18.on hb19
  have s19 := s18.on hb19
  clear z18 s18
  have cE := Forgeries_any 8 7 8 _ 1 [false] _ 1 [false] w19 z19 (by decide) (by decide) z19 (by decide) (by decide)
  rw [kw_fr.2] at cE
  generalize frE 8 7 8 [false] [false] = D8 at cE
  go_wp2_with fail
  refine (cE).mono ?_
  rintro e w20 ⟨rfl, hb20⟩
  have q20 := below_trans q19 hb20
  clear cE
  have z20 := z19.on hb20
  have s20 := s19.on hb20
  clear z19 s19
  obtain ⟨i0, hi, hz0, hz1, hz2⟩ := info_parts bool_info3
  have Hi := Lib.hid hi; have Hz0 := Lib.hid hz0; have Hz1 := Lib.hid hz1; have Hz2 := Lib.hid hz2
  clear hi hz0 hz1 hz2
  go_wp2_with (at_make; refine wpList_mk rfl _ _ 22 rfl 4 i0 _ 1 Tryz.underlying22 Hi.out Hz0.out Hz1.out Hz2.out rfl (fun b : Bool => Value.bool b) false rfl _ _ _ _ 40 rfl rfl rfl rfl (by omega) (by unfold maxLen; omega) ?_; intro w21 om hb21; obtain ⟨Am, km, hm, lm, mm, nm, arm⟩ := own_formB om; simp only [Value.slice.injEq] at hm; obtain ⟨hm1, hm2, hm3⟩ := hm; clear hm2; subst hm1 hm3)
  have q21 := below_trans q20 hb21
  have z21 := z20.on hb21
  have s21 := s20.on hb21
  clear z20 s20
  have hB1 : B + 1 < w21.heap.size := by obtain ⟨bb, oo, e, hlt, _⟩ := s21 (by simp); cases e; exact hlt
  have hvI := q21.size
  have cE := NewPool_in 8 (.inl rfl) _ 40 kwB w21 arm nm lm mm (by decide)
  rw [show kwB.length = 40 from rfl] at cE
  go_wp2_with fail
  refine (cE).mono ?_
  rintro e w22 ⟨b, nb, mb, rfl, pi, hb22⟩
  have q22 := below_trans q21 hb22
  have p0 := pi.p
  have hmb := pi.m1.1
  have hbb := pi.b1.1
  clear cE om arm pi lm mm nm
  have z22 := z21.on hb22
  have s22 := s21.on hb22
  clear z21 s21
  have cE := Room_any b nb mb 8 kwB [] w22 p0
  rw [kw_pool.1] at cE
  (try rw [show ((0 : Nat) : Int) = 0 from rfl] at cE); (try rw [show ((1 : Nat) : Int) = 1 from rfl] at cE); (try rw [show ((2 : Nat) : Int) = 2 from rfl] at cE); (try rw [show ((4 : Nat) : Int) = 4 from rfl] at cE)
  go_wp2_with fail
  refine (cE).mono ?_
  rintro e w23 ⟨rfl, hb23⟩
  have q23 := below_trans q22 hb23
  clear cE
  have z23 := z22.on hb23
  have s23 := s22.on hb23
  clear z22 s22
  have p23 := p0.on hb23
  clear p0
  have cE := Used_any b nb mb 8 kwB [] w23 p23
  rw [kw_used] at cE
  go_wp2_with fail
  refine (cE).mono ?_
  rintro e w24 ⟨vu, rfl, ou, hb24⟩
  have q24 := below_trans q23 hb24
  clear cE
  obtain ⟨Au, cu, hvu, _, _, _, _⟩ := ou.form encI_len
  subst hvu
  clear ou
  have z24 := z23.on hb24
  have s24 := s23.on hb24
  clear z23 s23
  have p24 := p23.on hb24
  clear p23
  have cE := Next_pool b nb mb 8 kwB [] 0 w24 p24
  rw [kw_pool.2.2.2.1, kw_pool.2.2.1] at cE
  (try rw [show ((0 : Nat) : Int) = 0 from rfl] at cE); (try rw [show ((1 : Nat) : Int) = 1 from rfl] at cE); (try rw [show ((2 : Nat) : Int) = 2 from rfl] at cE); (try rw [show ((4 : Nat) : Int) = 4 from rfl] at cE)
  go_wp2_with fail
  refine (cE).mono ?_
  rintro e w25 ⟨rfl, hb25⟩
  have q25 := below_trans q24 hb25
  clear cE
  have z25 := z24.on hb25
  have s25 := s24.on hb25
  clear z24 s24
  have p25 := p24.on hb25
  clear p24
  have cE := Next_pool b nb mb 8 kwB [] 1 w25 p25
  rw [kw_pool.2.2.2.2.2.1, kw_pool.2.2.2.2.1] at cE
  (try rw [show ((0 : Nat) : Int) = 0 from rfl] at cE); (try rw [show ((1 : Nat) : Int) = 1 from rfl] at cE); (try rw [show ((2 : Nat) : Int) = 2 from rfl] at cE); (try rw [show ((4 : Nat) : Int) = 4 from rfl] at cE)
  go_wp2_with fail
  refine (cE).mono ?_
  rintro e w26 ⟨rfl, hb26⟩
  have q26 := below_trans q25 hb26
  clear cE
  have z26 := z25.on hb26
  have s26 := s25.on hb26
  clear z25 s25
  have p26 := p25.on hb26
  clear p25
  have cE := Seal_any b nb mb 8 kwB [] 2 none 0 [] w26 p26 Arr.nil (by decide) (by decide)
  rw [kw_pool.2.2.2.2.2.2.1, if_neg (by decide)] at cE
  go_wp2_with fail
  refine (cE).mono ?_
  rintro e w27 ⟨rfl, hres⟩
  have hb27 : Below w26.heap.size w26 w27 := by
    rcases hres with ⟨_, h⟩ | ⟨h, _⟩
    · exact h
    · exact absurd h (by decide)
  clear cE hres
  have q27 := below_trans q26 hb27
  have z27 := z26.on hb27
  have s27 := s26.on hb27
  clear z26 s26
  have p27 := p26.on hb27
  clear p26
  have cE := Seal_any b nb mb 8 kwB [] 0 _ 1 [true] w27 p27 s27 (by decide) (by decide)
  rw [kw_pool.2.2.2.2.2.2.2.1, if_pos rfl] at cE
  generalize plT 8 kwB 0 [true] = T1 at cE
  go_wp2_with fail
  refine (cE).mono ?_
  rintro e w28 ⟨rfl, hres⟩
  have hres2 : PoolAt w28 b nb mb 8 kwB [0] ∧ w27.grownBy w28 (some mb) := by
    rcases hres with ⟨h, _⟩ | ⟨_, h1, h2⟩
    · exact (h rfl).elim
    · exact ⟨h1, h2⟩
  clear cE hres p27
  obtain ⟨pS, gS⟩ := hres2
  have q28 := q27.grown gS q27.size (fun g hg => by cases hg; omega)
  have z28 := arr_kept z27 gS (fun a ha => by cases ha; simp; omega)
  have s28 := arr_kept s27 gS (fun a ha => by cases ha; simp; omega)
  clear z27 s27 gS
  have cE := Seal_any b nb mb 8 kwB [0] 0 _ 1 [true] w28 pS s28 (by decide) (by decide)
  rw [kw_pool.2.2.2.2.2.2.2.2.1, if_neg (by decide)] at cE
  go_wp2_with fail
  refine (cE).mono ?_
  rintro e w29 ⟨rfl, hres⟩
  have hb29 : Below w28.heap.size w28 w29 := by
    rcases hres with ⟨_, h⟩ | ⟨h, _⟩
    · exact h
    · exact absurd h (by decide)
  clear cE hres
  have q29 := below_trans q28 hb29
  have z29 := z28.on hb29
  have s29 := s28.on hb29
  clear z28 s28
  have p29 := pS.on hb29
  clear pS
  have cE := Next_pool b nb mb 8 kwB [0] 0 w29 p29
  rw [kw_pool.2.2.2.2.2.2.2.2.2.1] at cE
  generalize nxI 8 kwB [0] 0 = N1 at cE
  go_wp2_with fail
  refine (cE).mono ?_
  rintro e w30 ⟨rfl, hb30⟩
  have q30 := below_trans q29 hb30
  clear cE
  have z30 := z29.on hb30
  have s30 := s29.on hb30
  clear z29 s29
  have p30 := p29.on hb30
  clear p29
  go_wp2_with (at_make; refine wpList_mk rfl _ _ 22 rfl 4 i0 _ 1 Tryz.underlying22 Hi.out Hz0.out Hz1.out Hz2.out rfl (fun b : Bool => Value.bool b) false rfl _ _ _ _ 24 rfl rfl rfl rfl (by omega) (by unfold maxLen; omega) ?_; intro w31 om2 hb31; obtain ⟨An2, kn2, hm, lm2, mm2, nm2, arm2⟩ := own_formB om2; simp only [Value.slice.injEq] at hm; obtain ⟨hm1, hm2, hm3⟩ := hm; clear hm2; subst hm1 hm3)
  have q31 := below_trans q30 hb31
  have z31 := z30.on hb31
  have s31 := s30.on hb31
  clear z30 s30
  have p31 := p30.on hb31
  clear p30
  have cE := Refill_any b nb mb 8 kwB [0] _ 24 (List.replicate 24 false) w31 p31 arm2 lm2 mm2 nm2 (by decide)
  rw [kw_pool.2.2.2.2.2.2.2.2.2.2.2.2, kw_bits, show (List.replicate 24 false).length = 24 from rfl] at cE
  go_wp2_with fail
  refine (cE).mono ?_
  rintro e w32 ⟨rfl, hres⟩
  have hres2 : PoolAt w32 b nb mb 8 kwC [0] ∧ w31.grownBy w32 (some b) := by
    rcases hres with ⟨h, _⟩ | ⟨_, h1, h2, _⟩
    · exact (h rfl).elim
    · exact ⟨h1, h2⟩
  clear cE hres p31 om2 arm2 lm2 mm2 nm2
  obtain ⟨pS, gS⟩ := hres2
  have q32 := q31.grown gS q31.size (fun g hg => by cases hg; omega)
  clear z31 s31 gS
  have cE := Next_pool b nb mb 8 kwC [0] 0 w32 pS
  rw [kw_pool.2.2.2.2.2.2.2.2.2.2.2.1, kw_pool.2.2.2.2.2.2.2.2.2.2.1] at cE
  (try rw [show ((0 : Nat) : Int) = 0 from rfl] at cE); (try rw [show ((1 : Nat) : Int) = 1 from rfl] at cE); (try rw [show ((2 : Nat) : Int) = 2 from rfl] at cE); (try rw [show ((4 : Nat) : Int) = 4 from rfl] at cE)
  go_wp2_with fail
  refine (cE).mono ?_
  rintro e w33 ⟨rfl, hb33⟩
  have q33 := below_trans q32 hb33
  clear cE
  have p33 := pS.on hb33
  clear pS
  have cE := Room_any b nb mb 8 kwC [0] w33 p33
  rw [kw_pool.2.1] at cE
  (try rw [show ((0 : Nat) : Int) = 0 from rfl] at cE); (try rw [show ((1 : Nat) : Int) = 1 from rfl] at cE); (try rw [show ((2 : Nat) : Int) = 2 from rfl] at cE); (try rw [show ((4 : Nat) : Int) = 4 from rfl] at cE)
  go_wp2_with fail
  refine (cE).mono ?_
  rintro e w34 ⟨rfl, hb34⟩
  have q34 := below_trans q33 hb34
  clear cE
  have cE := known_any w34 (ht.on q34).tab
  go_wp2_with fail
  refine (cE).mono ?_
  rintro e w35 ⟨rfl, hb35⟩
  have q35 := below_trans q34 hb35
  clear cE
  go_wp2_with fail
  go_ret
  exact ⟨rfl, q35⟩

end Go.Proofs.YtpejoghdmkpfcaaGreatDoor
