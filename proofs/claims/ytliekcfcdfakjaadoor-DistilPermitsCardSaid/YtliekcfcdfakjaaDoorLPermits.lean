/- The statement DistilPermits: for any three small numbers and any ledger the law returns true and its arguments read as they did. No condition but what the card ties: the listed tables are as the program's text lays them. -/
import Derived.Test.YtliekcfcdfakjaaDoorDoorD
import Derived.Test.YtliekcfcdfakjaaDoorKnownD
import Derived.Test.YtliekcfcdfakjaaDoorPermP
import Derived.Test.YtliekcfcdfakjaaDoorTie
import Derived.Test.YtliekcfcdfakjaaDoorCards
import Derived.SevenTiedAt
namespace Go.Proofs.YtliekcfcdfakjaaDoor.distilPermits
open Go.ChangeShapes Go.WideShapes Go.ChangeAt Go.RowKit Go.Deep Go.Joins
set_option linter.unusedVariables false
set_option linter.unusedSimpArgs false

theorem lenI_form {n t : Int} {l : List Itm} {m : Int} (hB : lenB n t m = true) (h : ledE l = 0) : ∃ o : Nat, lenI n t l m = (o : Int) ∧ (o : Int) ≤ n ∧ (0 < o → (o : Int) = n - costI n t - totE l - m) := by
  obtain ⟨_, h2, _⟩ := len_yes hB h
  obtain ⟨b1, b2, b3⟩ := lenB_yes hB
  have h1 := betw_in b1
  have h3 := betw_in b3
  have h4 := costI_bound t b1
  have h5 := totE_bound h
  refine ⟨(lenI n t l m).toNat, ?_, ?_, ?_⟩
  all_goals (rw [h2]; unfold lenV; split <;> omega)
theorem lenI_le {n t t' : Int} {l l' : List Itm} {m m' : Int} (hB : lenB n t m = true) (h : ledE l = 0) (hB' : lenB n t' m' = true) (h' : ledE l' = 0) (hc : costI n t ≤ costI n t') (ht : totE l ≤ totE l') (hm : m ≤ m') : lenI n t' l' m' ≤ lenI n t l m := by
  rw [(len_yes hB h).2.1, (len_yes hB' h').2.1]
  unfold lenV
  split <;> split <;> omega

set_option maxRecDepth 100000 in
set_option maxHeartbeats 4000000 in
theorem main (n t mg : Nat) (A : Option Addr) (c : Nat) (l : List Itm) (w : World) (ht : Tab w) (h : Arr 2 Itm.enc w w.heap.size A l) (hnil : A = none → c = 0) (hn : n < 256) (htt : t < 256) (hm : mg < 256) :
    Calls Tryd.prog 6 #[.int .u8 n, .int .u8 t, .int .u8 mg, .slice A l.length c] w fun e w' => e = .returned (.bool true) ∧ Below w.heap.size w w' := by
  have htl := ht.lt
  obtain ⟨N, hN, hN2⟩ : ∃ N : Nat, (n : Int) % 201 = (N : Int) ∧ N ≤ 200 := ⟨n % 201, by omega, by omega⟩
  obtain ⟨R, hR, hR2⟩ : ∃ R : Nat, (mg : Int) % 60 = (R : Int) ∧ R ≤ 59 := ⟨mg % 60, by omega, by omega⟩
  obtain ⟨t1, ht1, ht2⟩ : ∃ t1 : Nat, (t : Int) + 1 = (t1 : Int) ∧ t1 ≤ 256 := ⟨t + 1, by omega, by omega⟩
  obtain ⟨R1, hR1, hR3⟩ : ∃ R1 : Nat, (R : Int) + 1 = (R1 : Int) ∧ R1 ≤ 60 := ⟨R + 1, by omega, by omega⟩
  have B0 : lenB (N : Int) (t : Int) (R : Int) = true := by simp [lenB, betwB]; omega
  have B1 : lenB (N : Int) (t1 : Int) (R : Int) = true := by simp [lenB, betwB]; omega
  have B2 : lenB (N : Int) (t : Int) (R1 : Int) = true := by simp [lenB, betwB]; omega
  have bN := (lenB_yes B0).1
  by_cases hl : 10 < l.length
  · have d1 : decide (10 < (l.length : Int)) = true := by simp; omega
    clear B0 B1 B2 bN
    go_enter Tryd.func6, Tryd.ntmps6
    go_wp2_with (go_at_call 14; refine (known_any w ht).mono ?_; rintro e w5 ⟨rfl, hb5⟩)
    go_ret
    exact ⟨rfl, hb5⟩
  have d1 : decide (10 < (l.length : Int)) = false := by simp; omega
  have c1 := Length_any N t A c l R w h (by omega)
  have cT := fun w' (hb : Below w.heap.size w w') => Total_any A c l w' (h.on hb) (by omega)
  by_cases h0 : ledE l = 0
  case neg =>
    obtain ⟨f1, f2⟩ := len_led (n := N) (t := t) (m := R) B0 h0
    rw [f1, f2] at c1
    have h0' : (ledE l != 0) = true := by simpa using h0
    clear B0 B1 B2 bN f1 f2 h0
    go_enter Tryd.func6, Tryd.ntmps6
    go_wp2_with (first
      | (go_at_call 17; refine c1.mono ?_; rintro e w1 ⟨rfl, hb1⟩)
      | (go_at_call 21; refine (cT _ hb1).mono ?_; rintro e w2 ⟨rfl, hb2⟩; have q2 := below_trans hb1 hb2)
      | (go_at_call 14; refine (known_any _ (ht.on q2 htl)).mono ?_; rintro e w5 ⟨rfl, hb5⟩))
    go_ret
    exact ⟨rfl, below_trans q2 hb5⟩
  obtain ⟨o, ho1, ho2, ho3⟩ := lenI_form B0 h0
  obtain ⟨p, hp1, hp2, _⟩ := lenI_form B1 h0
  obtain ⟨q, hq1, hq2, _⟩ := lenI_form B2 h0
  have le1 := lenI_le B0 h0 B1 h0 (by rw [← ht1]; exact cost_mono _ bN) (Int.le_refl _) (Int.le_refl _)
  have le2 := lenI_le B0 h0 B2 h0 (Int.le_refl _) (Int.le_refl _) (by omega)
  rw [ho1, hp1] at le1
  rw [ho1, hq1] at le2
  have hE0 := (len_yes B0 h0).1
  have hE1 := (len_yes B1 h0).1
  have hE2 := (len_yes B2 h0).1
  obtain ⟨T0, T1⟩ := totE_bound h0
  obtain ⟨T, hT⟩ : ∃ T : Nat, totE l = (T : Int) := ⟨(totE l).toNat, by omega⟩
  have tb : T ≤ 65536000 := by omega
  rw [ho1, hE0] at c1
  have c2 := fun w' (hb : Below w.heap.size w w') => Length_any N t1 A c l R w' (h.on hb) (by omega)
  have c3 := fun w' (hb : Below w.heap.size w w') => Length_any N t A c l R1 w' (h.on hb) (by omega)
  have cE := fun w' (hb : Below w.heap.size w w') => Enter_any A c l 4 1 w' (h.on hb) (by omega) hnil
  simp only [hp1, hE1] at c2
  simp only [hq1, hE2] at c3
  simp only [hT, h0] at cT
  -- the entry
  obtain ⟨g, L, gL, hEnt⟩ : ∃ (g : Int) (L : List Itm) (r : Nat × Int), (ent l 4 1).e = g ∧ (ent l 4 1).l = L ∧ lenI N t L R = (r.1 : Int) ∧ lenE N t L R = r.2 ∧ L.length ≤ 11 ∧ ((g == 0) = false ∨ ((g == 0) = true ∧ r.2 = 0 ∧ r.1 ≤ o)) := by
    rcases ent_yes (l := l) (k := 4) (b := 1) h0 (by decide) (by decide) with ⟨e, he, hne⟩ | ⟨L, hL1, hL2, hL3, hL4⟩
    · obtain ⟨r, hr, _⟩ := lenI_form (l := []) B0 (by decide)
      rw [he]
      exact ⟨e, [], (r, 0), rfl, rfl, hr, (len_yes B0 (by decide)).1, by simp, .inl (by simpa using hne)⟩
    · obtain ⟨r, hr, _⟩ := lenI_form (l := L) B0 hL2
      have le3 := lenI_le B0 h0 B0 hL2 (Int.le_refl _) (by rw [ent_tot h0 hL2 hL4]; omega) (Int.le_refl _)
      rw [hr, ho1] at le3
      rw [hL1]
      exact ⟨0, L, (r, 0), rfl, rfl, hr, (len_yes B0 hL2).1, by omega, .inr ⟨rfl, rfl, by omega⟩⟩
  obtain ⟨r, r2⟩ := gL
  obtain ⟨hg, hLe, hr, hr2, hL11, hcs⟩ := hEnt
  simp only at hr hr2 hcs
  simp only [hg, hLe] at cE
  have cO := fun A' c' w' (hA : Arr 2 Itm.enc w' w'.heap.size A' L) => Length_any N t A' c' L R w' hA (by omega)
  simp only [hr, hr2] at cO
  clear hg hLe hr hr2
  have hsum : 0 < o → bitLen (ballN N t) + (o + T + R) = N := fun h => by
    have := ho3 h
    have hc : costI N t = (bitLen (ballN N t) : Int) := by unfold costI; rw [if_pos bN]; simp
    rw [hc, hT] at this
    omega
  have Hsum := Lib.hid hsum
  have HBs := Lib.hid (And.intro B0 (And.intro B1 (And.intro B2 bN)))
  have Hh0 := Lib.hid h0
  clear ho1 hp1 hq1 hE0 hE1 hE2 hsum ho3 B0 B1 B2 bN h0 hT T0 T1
  have n1 : o ≤ N := by omega
  have n2 : p ≤ o := by omega
  have n3 : q ≤ o := by omega
  have e1 : decide ((o : Int) < 0) = false := by simp
  have e2 : decide (N < o) = false := by simp; omega
  have e3 : decide (o < p) = false := by simp; omega
  have e4 : decide (o < q) = false := by simp; omega
  go_enter Tryd.func6, Tryd.ntmps6
  go_wp2_with fail
  refine c1.mono ?_
  rintro e w1 ⟨rfl, hb1⟩
  clear c1
  go_wp2_with fail
  refine (cT _ hb1).mono ?_
  rintro e w2 ⟨rfl, hb2⟩
  have q2 := below_trans hb1 hb2
  clear cT
  go_wp2_with fail
  refine (c2 _ q2).mono ?_
  rintro e w3 ⟨rfl, hb3⟩
  have q3 := below_trans q2 hb3
  clear c2
  go_wp2_with fail
  refine (c3 _ q3).mono ?_
  rintro e w4 ⟨rfl, hb4⟩
  have q4 := below_trans q3 hb4
  clear c3
  go_wp2_with fail
  refine (cE _ q4).mono ?_
  rintro e w5 ⟨v5, rfl, o5, hb5⟩
  have q5 := below_trans q4 hb5
  obtain ⟨A5, k5, hv5, _, _, _, ar5⟩ := o5.form Itm.enc_len
  subst hv5
  clear cE o5
  go_wp2_with fail
  refine (cO A5 k5 _ ar5).mono ?_
  rintro e w6 ⟨rfl, hb6⟩
  have q6 := below_trans q5 hb6
  clear cO ar5
  rcases hcs with d2 | ⟨d2, hr2, hro⟩
  · clear Hh0 HBs
    rcases Nat.eq_zero_or_pos o with ho | ho
    · have e5 : ((o : Int) == 0) = true := by simp; omega
      have Ho := Lib.hid ho
      clear ho
      go_wp2_with fail
      refine (known_any _ (ht.on q6 htl)).mono ?_
      rintro e w7 ⟨rfl, hb7⟩
      go_wp2_with fail
      go_ret
      exact ⟨rfl, below_trans q6 hb7⟩
    · have e5 : ((o : Int) == 0) = false := by simp; omega
      have hs := Hsum.out ho
      have hkey := ball_key (n := N) (t := t) hs
      obtain ⟨s1, hs1⟩ : ∃ s1 : Nat, (o : Int) + (T : Int) = (s1 : Int) := ⟨o + T, by omega⟩
      obtain ⟨s2, hs2⟩ : ∃ s2 : Nat, (s1 : Int) + (R : Int) = (s2 : Int) := ⟨s1 + R, by omega⟩
      have hs3 : o + T + R = s2 := by omega
      have s2n : s2 ≤ 200 := by omega
      have T2 : T ≤ 200 := by omega
      rw [hs3] at hkey
      have bn := ballN_le N t
      have lB : (limbs (ballN N t)).length ≤ 64 := limbs_len (k := 64) (m := N + 1) (Nat.lt_of_le_of_lt bn (Nat.pow_lt_pow_right (by decide) (by omega))) (by omega)
      have lP : (limbs (ballN N t * 2 ^ s2)).length ≤ 64 := limbs_len (k := 64) (m := N) hkey (by omega)
      have lS := pow_limbs (n := s2) (by omega)
      have lN := pow_limbs (n := N) (by omega)
      have cmp : Hid (cmpI (ballN N t * 2 ^ s2) (2 ^ N) = -1) := Lib.hid (cmpI_lt hkey)
      have cB := Ball_any N t w6 (by omega) (by omega) (by omega)
      have c2a := fun w' => two_any s2 w' (by omega)
      have c2b := fun w' => two_any N w' (by omega)
      have cM := fun A1 k1 A2 k2 w' (h1 : Nt w' A1 k1 (limbs (ballN N t))) (h2 : Nt w' A2 k2 (limbs (2 ^ s2))) => Mul_any A1 k1 _ A2 k2 _ w' h1 h2 lB lS (by rw [V_limbs, V_limbs]; exact lP)
      simp only [V_limbs] at cM
      have cC := fun A1 k1 A2 k2 w' (h1 : Nt w' A1 k1 (limbs (ballN N t * 2 ^ s2))) (h2 : Nt w' A2 k2 (limbs (2 ^ N))) => Compare_any A1 k1 _ A2 k2 _ w' h1 h2 lP lN
      simp only [V_limbs, cmp.out] at cC
      generalize ballN N t * 2 ^ s2 = PP at *
      generalize ballN N t = BB at *
      generalize 2 ^ s2 = P2 at *
      generalize 2 ^ N = PN at *
      clear hs hkey hs3 bn lB lP lS lN
      go_wp2_with fail
      refine cB.mono ?_
      rintro e w7 ⟨v7, rfl, b7, hb7⟩
      obtain ⟨A7, k7, hv7, n7⟩ := b7.nt
      subst hv7
      have q7 := below_trans q6 hb7
      clear cB
      go_wp2_with fail
      refine (c2a _).mono ?_
      rintro e w8 ⟨v8, rfl, b8, hb8⟩
      obtain ⟨A8, k8, hv8, n8⟩ := b8.nt
      subst hv8
      have q8 := below_trans q7 hb8
      clear c2a
      go_wp2_with fail
      refine (cM A7 k7 A8 k8 _ (n7.on hb8) n8).mono ?_
      rintro e w9 ⟨v9, rfl, b9, hb9⟩
      obtain ⟨A9, k9, hv9, n9⟩ := b9.nt
      subst hv9
      have q9 := below_trans q8 hb9
      clear cM
      go_wp2_with fail
      refine (c2b _).mono ?_
      rintro e wa ⟨va, rfl, ba, hba⟩
      obtain ⟨Aa, ka, hva, na⟩ := ba.nt
      subst hva
      have qa := below_trans q9 hba
      clear c2b
      go_wp2_with fail
      refine (cC A9 k9 Aa ka _ (n9.on hba) na).mono ?_
      rintro e wb ⟨rfl, hbb⟩
      have qb := below_trans qa hbb
      clear cC
      go_wp2_with fail
      refine (known_any _ (ht.on qb htl)).mono ?_
      rintro e wc ⟨rfl, hbc⟩
      go_wp2_with fail
      go_ret
      exact ⟨rfl, below_trans qb hbc⟩
  · subst hr2
    have e6 : decide (o < r) = false := by simp; omega
    clear Hh0 HBs
    rcases Nat.eq_zero_or_pos o with ho | ho
    · have e5 : ((o : Int) == 0) = true := by simp; omega
      have Ho := Lib.hid ho
      clear ho
      go_wp2_with fail
      refine (known_any _ (ht.on q6 htl)).mono ?_
      rintro e w7 ⟨rfl, hb7⟩
      go_wp2_with fail
      go_ret
      exact ⟨rfl, below_trans q6 hb7⟩
    · have e5 : ((o : Int) == 0) = false := by simp; omega
      have hs := Hsum.out ho
      have hkey := ball_key (n := N) (t := t) hs
      obtain ⟨s1, hs1⟩ : ∃ s1 : Nat, (o : Int) + (T : Int) = (s1 : Int) := ⟨o + T, by omega⟩
      obtain ⟨s2, hs2⟩ : ∃ s2 : Nat, (s1 : Int) + (R : Int) = (s2 : Int) := ⟨s1 + R, by omega⟩
      have hs3 : o + T + R = s2 := by omega
      have s2n : s2 ≤ 200 := by omega
      have T2 : T ≤ 200 := by omega
      rw [hs3] at hkey
      have bn := ballN_le N t
      have lB : (limbs (ballN N t)).length ≤ 64 := limbs_len (k := 64) (m := N + 1) (Nat.lt_of_le_of_lt bn (Nat.pow_lt_pow_right (by decide) (by omega))) (by omega)
      have lP : (limbs (ballN N t * 2 ^ s2)).length ≤ 64 := limbs_len (k := 64) (m := N) hkey (by omega)
      have lS := pow_limbs (n := s2) (by omega)
      have lN := pow_limbs (n := N) (by omega)
      have cmp : Hid (cmpI (ballN N t * 2 ^ s2) (2 ^ N) = -1) := Lib.hid (cmpI_lt hkey)
      have cB := Ball_any N t w6 (by omega) (by omega) (by omega)
      have c2a := fun w' => two_any s2 w' (by omega)
      have c2b := fun w' => two_any N w' (by omega)
      have cM := fun A1 k1 A2 k2 w' (h1 : Nt w' A1 k1 (limbs (ballN N t))) (h2 : Nt w' A2 k2 (limbs (2 ^ s2))) => Mul_any A1 k1 _ A2 k2 _ w' h1 h2 lB lS (by rw [V_limbs, V_limbs]; exact lP)
      simp only [V_limbs] at cM
      have cC := fun A1 k1 A2 k2 w' (h1 : Nt w' A1 k1 (limbs (ballN N t * 2 ^ s2))) (h2 : Nt w' A2 k2 (limbs (2 ^ N))) => Compare_any A1 k1 _ A2 k2 _ w' h1 h2 lP lN
      simp only [V_limbs, cmp.out] at cC
      generalize ballN N t * 2 ^ s2 = PP at *
      generalize ballN N t = BB at *
      generalize 2 ^ s2 = P2 at *
      generalize 2 ^ N = PN at *
      clear hs hkey hs3 bn lB lP lS lN
      go_wp2_with fail
      refine cB.mono ?_
      rintro e w7 ⟨v7, rfl, b7, hb7⟩
      obtain ⟨A7, k7, hv7, n7⟩ := b7.nt
      subst hv7
      have q7 := below_trans q6 hb7
      clear cB
      go_wp2_with fail
      refine (c2a _).mono ?_
      rintro e w8 ⟨v8, rfl, b8, hb8⟩
      obtain ⟨A8, k8, hv8, n8⟩ := b8.nt
      subst hv8
      have q8 := below_trans q7 hb8
      clear c2a
      go_wp2_with fail
      refine (cM A7 k7 A8 k8 _ (n7.on hb8) n8).mono ?_
      rintro e w9 ⟨v9, rfl, b9, hb9⟩
      obtain ⟨A9, k9, hv9, n9⟩ := b9.nt
      subst hv9
      have q9 := below_trans q8 hb9
      clear cM
      go_wp2_with fail
      refine (c2b _).mono ?_
      rintro e wa ⟨va, rfl, ba, hba⟩
      obtain ⟨Aa, ka, hva, na⟩ := ba.nt
      subst hva
      have qa := below_trans q9 hba
      clear c2b
      go_wp2_with fail
      refine (cC A9 k9 Aa ka _ (n9.on hba) na).mono ?_
      rintro e wb ⟨rfl, hbb⟩
      have qb := below_trans qa hbb
      clear cC
      go_wp2_with fail
      refine (known_any _ (ht.on qb htl)).mono ?_
      rintro e wc ⟨rfl, hbc⟩
      go_wp2_with fail
      go_ret
      exact ⟨rfl, below_trans qb hbc⟩

theorem walk (n t m : Int) (A : Option Addr) (c : Nat) (l : List Itm) (w : World) (ht : Tab w) (h1 : (Lit.int .u8 n).wf = true) (h2 : (Lit.int .u8 t).wf = true) (h3 : (Lit.int .u8 m).wf = true) (h : Arr 2 Itm.enc w w.heap.size A l) (hl : l.length ≤ c) (hc : c ≤ maxLen) (hnil : A = none → c = 0) (_ : ∀ x ∈ l, i64ok x.kind ∧ i64ok x.bits) :
    Calls Tryd.prog 6 #[.int .u8 n, .int .u8 t, .int .u8 m, .slice A l.length c] w fun e w' => e = .returned (.bool true) ∧ Below w.heap.size w w' := by
  have b1 := bounds_u8 h1
  have b2 := bounds_u8 h2
  have b3 := bounds_u8 h3
  obtain ⟨n, rfl⟩ := Int.eq_ofNat_of_zero_le b1.1
  obtain ⟨t, rfl⟩ := Int.eq_ofNat_of_zero_le b2.1
  obtain ⟨m, rfl⟩ := Int.eq_ofNat_of_zero_le b3.1
  exact main n t m A c l w ht h hnil (by omega) (by omega) (by omega)

set_option maxRecDepth 100000 in
theorem lifted (os : Os) (started : os.Started) (H : Type) (enc : TypeId × Value → H) :
    ReturnsInHanded {} Tryd.checked os 6 .any (fun w args => (Rows.distilPermitsSpec.pre enc Tryd.prog Tryd.f6 [] false w args ∧ laidMetH Tryd.prog laid3 w) ∧ sizedMet enc Tryd.prog Tryd.f6 (OpenSpec.ofChange Rows.distilPermitsSpec) false w args) (Rows.distilPermitsSpec.post enc Tryd.prog Tryd.f6 false true false false) := by
  refine returnsInHanded_of_change_and (C := Tryd.checked) (X := fun w _ => laidMetH Tryd.prog laid3 w) (fun _ _ _ hh h => h.of_heap hh) own started (by kernel_rfl) Tryd.func6
    (ChangeSpec.witness_shaped (enc := enc) (C := Tryd.checked) (os := os) (X := fun w _ => laidMetH Tryd.prog laid3 w) false (World.doorLaid Tryd.prog 400 os) #[.int .u8 0, .int .u8 0, .int .u8 0, .slice none 0 0] 8 rfl (World.shaped_of_RefB (by kernel_rfl) (by kernel_rfl)) (by kernel_rfl) (by kernel_rfl) (by kernel_rfl) (door3 os _)) ?_
  intro W base args ds gs before hval0 hW _ hsz hL _
  have hval : ∀ (j : Nat) t v, Tryd.f6.params[j]? = some t → args[j]? = some v → Value.okWide Tryd.prog W .any base t v := hval0
  have hW' := hW
  obtain ⟨p, q, hA0, hV, rfl, hfz, hnd⟩ := hW
  have hA : DataW.TrodAll enc Tryd.prog W 0 (fun _ => true) true Tryd.f6.params.toList args.toList ds p := hA0
  rw [Tryd.params6] at hA hval
  obtain ⟨v0, vs0, d0, ds0, p0, q0, hargs, rfl, rfl, h0, r0⟩ := trodAll_cons hA
  obtain ⟨v1, vs1, d1, ds1, p1, q1, rfl, rfl, rfl, h1, r1⟩ := trodAll_cons r0
  obtain ⟨v2, vs2, d2, ds2, p2, q2, rfl, rfl, rfl, h2, r2⟩ := trodAll_cons r1
  obtain ⟨v3, vs3, d3, ds3, p3, q3, rfl, rfl, rfl, h3, r3⟩ := trodAll_cons r2
  obtain ⟨rfl, rfl, rfl⟩ := trodAll_nil r3
  obtain rfl : args = #[v0, v1, v2, v3] := by cases args; simp_all
  obtain ⟨rfl, rfl⟩ := trodVars_none hV
  have lt0 : ∀ x ∈ p0, x.block < W.heap.size := by obtain ⟨m, hm⟩ := h0; exact DataW.trod_lt m _ _ _ hm
  have k0 := h0
  obtain ⟨x0, rfl, rfl, rfl, w0⟩ := open_int Tryd.underlying5 (hval 0 5 v0 rfl rfl) h0
  have lt1 : ∀ x ∈ p1, x.block < W.heap.size := by obtain ⟨m, hm⟩ := h1; exact DataW.trod_lt m _ _ _ hm
  have k1 := h1
  obtain ⟨x1, rfl, rfl, rfl, w1⟩ := open_int Tryd.underlying5 (hval 1 5 v1 rfl rfl) h1
  have lt2 : ∀ x ∈ p2, x.block < W.heap.size := by obtain ⟨m, hm⟩ := h2; exact DataW.trod_lt m _ _ _ hm
  have k2 := h2
  obtain ⟨x2, rfl, rfl, rfl, w2⟩ := open_int Tryd.underlying5 (hval 2 5 v2 rfl rfl) h2
  have lt3 : ∀ x ∈ p3, x.block < W.heap.size := by obtain ⟨m, hm⟩ := h3; exact DataW.trod_lt m _ _ _ hm
  have k3 := h3
  obtain ⟨A3, len3, n3, rfl⟩ := okWide_slice Tryd.underlying22 (hval 3 22 v3 rfl rfl)
  obtain ⟨fuel3, hf3⟩ := h3
  obtain ⟨A3', n3', l3, hcs3, hl3, hm3, hz3, ha3, ho3⟩ := open_arr (enc := Itm.enc) _ Itm.enc_len (by decide) Tryd.underlying22 (by kernel_rfl) (fun n cs y h => dec_item h) hf3
  simp [Value.cells] at hcs3
  obtain ⟨rfl, rfl, rfl⟩ := hcs3
  clear hA0 hval0
  have ht := tab3 hL
  refine (walk x0 x1 x2 A3 n3 l3 W ht w0 w1 w2 ha3 hl3 hm3 hz3 ho3).mono fun e W' ⟨he, bel⟩ => ?_
  subst he
  exact ⟨_, rfl, _, _, _, [], _, [], hW', trodAll_mk1 (shut_bool Tryd.underlying4 _), (trodAll_cons_mk (Below.trod laidOut (by kernel_rfl) (of_decide_eq_true (by kernel_rfl)) k0 bel lt0) (trodAll_cons_mk (Below.trod laidOut (by kernel_rfl) (of_decide_eq_true (by kernel_rfl)) k1 bel lt1) (trodAll_cons_mk (Below.trod laidOut (by kernel_rfl) (of_decide_eq_true (by kernel_rfl)) k2 bel lt2) (trodAll_cons_mk (Below.trod laidOut (by kernel_rfl) (of_decide_eq_true (by kernel_rfl)) k3 bel lt3) trodAll_mk0)))), rfl, bel.frame _, fun h => by cases h⟩

theorem over : Rows.distilPermitsRow.holds Tryd.pinned (OpenSpec.ofChange Rows.distilPermitsSpec) :=
  OpenClaim.holds_of_wide 6 Tryd.f6 rfl rfl rfl rfl rfl rfl rfl ⟨rfl, rfl, rfl, rfl, rfl⟩ rfl rfl rfl rfl rfl (by kernel_rfl) Tryd.func6 (by kernel_rfl)
    (of_decide_eq_true (by kernel_rfl)) (by unfold Func.isWrapper; first | (rw [if_pos (by decide +kernel)]; kernel_rfl) | (rw [if_neg (by decide +kernel)]; exact ⟨rfl, rfl⟩))
    (fun os started H enc _ => lifted os started H enc)

theorem proved : Rows.DistilPermitsCardSaid :=
  Claim7.holds_tied_plain_at .later [] [.data, .data, .data] true _ true over (fun _ h => by cases h) (by kernel_rfl) (fun _ h => by cases h) distilPermits_row_tie rfl ⟨rfl, rfl⟩ (by kernel_rfl) rfl
    (fun f fn hf hfn => by
      obtain rfl : f = 6 := Option.some.inj ((show Tryd.prog.funcNamed "waveplate/waveplatelaw06.DistilPermits" = some 6 by kernel_rfl).symm.trans hf) |>.symm
      obtain rfl : fn = Tryd.f6 := (Option.some.inj (Tryd.func6.symm.trans hfn)).symm
      exact ⟨by kernel_rfl, fun j t ht => by
        rw [Tryd.params6] at ht
        have hm : t ∈ [5, 5, 5, 22] := by simpa using Array.mem_of_getElem? ht
        have hall : ([5, 5, 5, 22].all fun u => !Tryd.prog.wantsStandIn u) = true := by kernel_rfl
        exact (show Tryd.prog.wantsStandIn t = false by simpa using List.all_eq_true.1 hall t hm)⟩)
    (by kernel_rfl)
#print axioms proved
end Go.Proofs.YtliekcfcdfakjaaDoor.distilPermits
