/- Contract of the law's ones; the law's walk of SiftSets. For numbers from 0 on. -/
import Derived.Test.YtfodlpiidlajeaaSetsP
import Derived.Test.YtfodlpiidlajeaaNatL
import Derived.Test.YtfodlpiidlajeaaKnown
namespace Go.Proofs.Ytfodlpiidlajeaa
open Go.RowKit
set_option linter.unusedVariables false
set_option linter.unusedSimpArgs false

theorem ones_le (n : Nat) : onesN n ≤ n := by
  induction n using Nat.strongRecOn with
  | ind n ih =>
    by_cases h : n = 0
    · subst h; rw [ones_zero]; exact Nat.le_refl _
    · rw [ones_step]; have := ih (n / 2) (by omega); omega

set_option maxHeartbeats 1000000 in
theorem ones_any (n : Nat) (w : World) (hn : n ≤ 1000000) :
    Calls Try.prog 43 #[.int .i64 n] w fun e w' => e = .returned (.int .i64 (onesN n)) ∧ w = w' := by
  have hle := ones_le n
  go_enter Try.func43, Try.ntmps43
  go_wp2
  go_loop [0, 3] (fun x k => ∃ a b : Nat, x = .int .i64 a ∧ k = .int .i64 b ∧ a ≤ n ∧ b + onesN a = onesN n) (fun x _ => (intOf x).toNat)
  case atStart => exact ⟨n, 0, rfl, rfl, Nat.le_refl _, by omega⟩
  case round =>
    obtain ⟨a, b, rfl, rfl, ha, hab⟩ := hrel
    have hbb : b ≤ 1000000 := by omega
    have Hab := Lib.hid hab
    clear hab
    rcases Nat.eq_zero_or_pos a with rfl | h0
    · go_wp2
      go_ret
      exact ⟨ret_int (by rw [← Hab.out, ones_zero]; rfl), rfl⟩
    · have hst := Lib.hid (ones_step a)
      obtain ⟨r, hr⟩ : ∃ r : Nat, (a : Int) % 2 = (r : Int) := ⟨a % 2, by omega⟩
      obtain ⟨q, hq⟩ : ∃ q : Nat, (a : Int) / 2 = (q : Int) := ⟨a / 2, by omega⟩
      have hre : Hid (r = a % 2 ∧ q = a / 2) := Lib.hid (by omega)
      have hqa : q < a := by omega
      have hr2 : r ≤ 1 := by omega
      go_wp2
      go_round
      case rel => exact ⟨q, b + r, rfl, by go_num, by omega, by have := Hab.out; rw [hst.out, ← hre.out.1, ← hre.out.2] at this; omega⟩
      case measure => (simp [intOf] <;> omega)

theorem pow_small {T : Nat} (h : T ≤ 10) : ∃ P : Nat, 2 ^ T = P ∧ 0 < P ∧ P ≤ 1024 ∧ wrap64 ((2 : Int) ^ T) = (P : Int) := by
  refine ⟨2 ^ T, rfl, Nat.pow_pos (by decide), ?_, ?_⟩
  · exact Nat.pow_le_pow_right (by decide : 0 < 2) h
  · have h2 : 2 ^ T ≤ 1024 := Nat.pow_le_pow_right (by decide : 0 < 2) h
    have e : (2 : Int) ^ T = ((2 ^ T : Nat) : Int) := by simp
    rw [e]
    generalize 2 ^ T = P at *
    exact IntWalk.wrap64_in _ (by omega)
theorem mod_nat (a b : Nat) (hb : 0 < b) : ∃ c : Nat, (a : Int) % (b : Int) = (c : Int) ∧ c < b := ⟨a % b, by simp, Nat.mod_lt _ hb⟩

theorem and_i64 (a b : Nat) (ha : a < 1000000) (hb : b < 1000000) : bits .and .i64 (a : Int) (b : Int) = ((a &&& b : Nat) : Int) := by
  have hx : a &&& b < 2 ^ 20 := Nat.and_lt_two_pow _ (by omega)
  have o : ∀ x : Nat, x < 1000000 → (BitVec.ofInt 64 (x : Int)).toNat = x := fun x hx => by
    rw [BitVec.ofInt_natCast, BitVec.toNat_ofNat]; exact Nat.mod_eq_of_lt (by omega)
  show IntKind.i64.wrap ((BitVec.ofInt 64 (a : Int) &&& BitVec.ofInt 64 (b : Int)).toNat : Int) = _
  rw [BitVec.toNat_and, o a ha, o b hb]
  exact IntWalk.i64_in _ (by omega)
theorem and_le_right (a b : Nat) : a &&& b ≤ b := Nat.and_le_right
theorem mul_small (a b A B : Nat) (ha : a ≤ A) (hb : b ≤ B) (hAB : A * B ≤ 1000000) : ∃ x : Nat, a * b = x ∧ IntKind.i64.wrap ((a : Int) * (b : Int)) = (x : Int) := by
  refine ⟨a * b, rfl, ?_⟩
  have := Nat.mul_le_mul ha hb
  have e : (a : Int) * (b : Int) = ((a * b : Nat) : Int) := by simp
  rw [e]
  generalize a * b = x at *
  generalize A * B = y at *
  exact IntWalk.i64_in _ (by omega)
theorem allN_succ (s y : Nat) : allN s (y + 1) = allN s y + (if onesN y = s then 1 else 0) := rfl
theorem fewN_succ (B s m y : Nat) : fewN B s m (y + 1) = fewN B s m y + (if onesN y = s ∧ onesN (y &&& B) ≤ m then 1 else 0) := rfl
theorem allN_le (s y : Nat) : allN s y ≤ y := by
  induction y with
  | zero => exact Nat.le_refl 0
  | succ y ih => rw [allN_succ]; split <;> omega
theorem fewN_le (B s m y : Nat) : fewN B s m y ≤ y := by
  induction y with
  | zero => exact Nat.le_refl 0
  | succ y ih => rw [fewN_succ]; split <;> omega

set_option maxRecDepth 100000 in
set_option maxHeartbeats 4000000 in
theorem sets_walk (n k sn wr0 p q : Nat) (w : World) (hn : n < 256) (hk : k < 256) (hs : sn < 256) (hw : wr0 < 65536) (hp : p < 256) (hq : q < 256) :
    Calls Try.prog 10 #[.int .u8 n, .int .u8 k, .int .u8 sn, .int .u16 wr0, .int .u8 p, .int .u8 q] w fun e w' => e = .returned (.bool true) ∧ Below w.heap.size w w' := by
  obtain ⟨T, hT, hT10⟩ : ∃ T : Nat, (n : Int) % 11 = (T : Int) ∧ T ≤ 10 := ⟨n % 11, by omega, by omega⟩
  obtain ⟨T1, hT1⟩ : ∃ T1 : Nat, (T : Int) + 1 = (T1 : Int) := ⟨T + 1, by omega⟩
  obtain ⟨S, hS, hST⟩ := mod_nat k T1 (by omega)
  obtain ⟨S1, hS1⟩ : ∃ S1 : Nat, (S : Int) + 1 = (S1 : Int) := ⟨S + 1, by omega⟩
  obtain ⟨M, hM, hMS⟩ := mod_nat sn S1 (by omega)
  have hST : S ≤ T := by omega
  have hMS : M ≤ S := by omega
  obtain ⟨D, hD⟩ : ∃ D : Nat, (p : Int) + (q : Int) + 1 = (D : Int) := ⟨p + q + 1, by omega⟩
  have hpD : p < D := by omega
  obtain ⟨P, hP, hP1, hP2, wP⟩ := pow_small hT10
  have HP := Lib.hid hP
  have HwP := Lib.hid wP
  clear hP wP
  obtain ⟨W, hW, hWP⟩ := mod_nat wr0 P hP1
  have T10 : (T1 : Int) ≠ 0 := by omega
  have S10 : (S1 : Int) ≠ 0 := by omega
  go_enter Try.func10, Try.ntmps10
  go_wp2_with fail
  refine (Of_any p w (by omega)).mono ?_
  rintro e w1 ⟨v1, rfl, b1, hb1⟩
  obtain ⟨A1, c1, hv1, n1⟩ := b1.nt
  rw [hv1]
  go_wp2_with fail
  refine (Of_any D w1 (by omega)).mono ?_
  rintro e w2 ⟨v2, rfl, b2, hb2⟩
  obtain ⟨A2, c2, hv2, n2⟩ := b2.nt
  rw [hv2]
  have q2 := below_trans hb1 hb2
  obtain ⟨f, hfe⟩ : ∃ f : Frc, f = ⟨A1, c1, limbs p, A2, c2, limbs D⟩ := ⟨_, rfl⟩
  have hfin : f.In w2 := by subst hfe; exact ⟨n1.on hb2, n2⟩
  have l1 := limbs_len (n := p) (k := 1) (m := 32) (by omega) (by decide)
  have l2 := limbs_len (n := D) (k := 1) (m := 32) (by omega) (by decide)
  have hval : validE [f] = 0 := by
    subst hfe
    refine validE_zero.2 ⟨?_, ?_⟩
    · simp [Frc.lng]; omega
    · simp [Frc.zro, V_limbs]; omega
  have hVl : V f.l = p := by subst hfe; exact V_limbs p
  have hVm : V f.m = D := by subst hfe; exact V_limbs D
  obtain ⟨hE, hI⟩ := boundE4 (t := T) (s := S) (n := M) hval (by omega) (by rw [hVl, hVm]; omega)
  simp only [Int.toNat_natCast] at hI
  rw [hVl, hVm] at hI
  have cR := Rate_any T S M f w2 hfin
  have hR : rateV T S M f = .agg #[.int .i64 T, .int .i64 S, .int .i64 M, .int .i64 (boundI T S M f), .int .i64 (boundI T S M f - M)] := by unfold rateV; rw [if_pos hE]
  rw [hR, hE, hI] at cR
  obtain ⟨hB1, hB2⟩ := bs_between (p := possB T S M p D) (lo := M) (hi := T) (by omega)
  have spec := bs_spec (p := possB T S M p D) (lo := M) (hi := T) (by omega) (fun b h1 h2 h3 => by
    unfold possB at *
    simp only [decide_eq_true_eq] at *
    have := ways_mono (t := T) (b := b) (s := S) (m := M) h2 (by omega)
    have := Nat.mul_le_mul_right D this
    omega) (by
    unfold possB
    simp only [decide_eq_true_eq]
    rw [ways_own (by omega) (by omega), Nat.mul_comm p]
    exact Nat.mul_lt_mul_of_pos_left hpD (ch_pos (by omega)))
  obtain ⟨B, hB⟩ : ∃ B, bs (possB T S M p D) M T = B := ⟨_, rfl⟩
  rw [hB] at cR hB1 hB2 spec
  obtain ⟨R, hRe⟩ : ∃ R : Nat, (B : Int) - (M : Int) = (R : Int) := ⟨B - M, by omega⟩
  rw [hRe] at cR
  unfold Frc.val at cR
  subst hfe
  have Spec := Lib.hid spec
  clear spec hR hE hI hB hVl hVm hval hv1 hv2
  have nB1 : decide (B < M) = false := by simp; omega
  have nB2 : decide (T < B) = false := by simp; omega
  go_wp2_with fail
  refine cR.mono ?_
  rintro e w3 ⟨rfl, hb3⟩
  have q3 := below_alloc (below_trans q2 hb3) (.cells #[.int .i64 T, .int .i64 S, .int .i64 M, .int .i64 B, .int .i64 R] 69)
  go_wp2_with fail
  · exfalso
    have := HwP.out
    simp_all
    done
  · rw [HwP.out, hW]
    go_loop [21, 22, 23] (fun a f x => ∃ y : Nat, y ≤ P ∧ x = .int .i64 y ∧ a = .int .i64 (allN S y) ∧ f = .int .i64 (fewN W S M y)) (fun _ _ x => P - (intOf x).toNat)
    case atStart => exact ⟨0, Nat.zero_le _, rfl, rfl, rfl⟩
    case round =>
      obtain ⟨y, hyP, rfl, rfl, rfl⟩ := hrel
      rcases Nat.lt_or_ge y P with hlt | hge
      · have hd : decide ((y : Int) < wrap64 (2 ^ T)) = true := by rw [HwP.out]; simp; omega
        have c1 := ones_any y
        go_wp2_with fail
        refine (ones_any y _ (by omega)).mono ?_
        rintro e wx ⟨rfl, rfl⟩
        have sA := Lib.hid (allN_succ S y)
        have sF := Lib.hid (fewN_succ W S M y)
        have lA := allN_le S y
        have lF := fewN_le W S M y
        by_cases h1 : onesN y = S
        · have d1 : ((onesN y : Int) != (S : Int)) = false := by simp [h1]
          have H1 := Lib.hid h1
          clear h1
          have hAnd := and_i64 y W (by omega) (by omega)
          have hAl : y &&& W ≤ W := and_le_right y W
          go_wp2_with fail
          refine (ones_any (y &&& W) _ (by omega)).mono ?_
          rintro e wx ⟨rfl, rfl⟩
          by_cases h2 : onesN (y &&& W) ≤ M
          · have d2 : decide (onesN (y &&& W) ≤ M) = true := by simp [h2]
            go_wp2_with fail
            go_round
            case rel => exact ⟨y + 1, by omega, by go_num, by rw [sA.out, if_pos H1.out]; go_num, by rw [sF.out, if_pos ⟨H1.out, h2⟩]; go_num⟩
            case measure => simp [intOf]; omega
          · have d2 : decide (onesN (y &&& W) ≤ M) = false := by simp; omega
            go_wp2_with fail
            go_round
            case rel => exact ⟨y + 1, by omega, by go_num, by rw [sA.out, if_pos H1.out]; go_num, by rw [sF.out, if_neg (fun h => h2 h.2)]; rfl⟩
            case measure => simp [intOf]; omega
        · have d1 : ((onesN y : Int) != (S : Int)) = true := by simp; omega
          go_wp2_with fail
          go_round
          case rel => exact ⟨y + 1, by omega, by go_num, by rw [sA.out, if_neg h1]; rfl, by rw [sF.out, if_neg (fun h => h1 h.1)]; rfl⟩
          case measure => simp [intOf]; omega
      · obtain rfl : y = P := by omega
        have hd : decide ((y : Int) < wrap64 (2 ^ T)) = false := by rw [HwP.out]; simp
        have vA : Hid (allN S y = ch T S) := Lib.hid (by rw [← HP.out]; exact all_val T S)
        have vF : Hid (fewN W S M y = waysN T (onesN W) S M) := Lib.hid (by rw [← HP.out]; exact few_val (by rw [HP.out]; exact hWP) hMS)
        have lA := allN_le S y
        have lF := fewN_le W S M y
        have oW : onesN W ≤ T := ones_lt (by rw [HP.out]; exact hWP)
        have fin1 : B < onesN W → fewN W S M y * D ≤ p * allN S y := fun h => by
          have := Spec.out.2 (onesN W) h oW
          unfold possB at this
          rw [vA.out, vF.out]
          simpa using this
        have fin2 : onesN W = B → p * allN S y < fewN W S M y * D := fun h => by
          have := Spec.out.1
          unfold possB at this
          rw [vA.out, vF.out, h]
          simpa using this
        obtain ⟨fa, hfa⟩ : ∃ fa, allN S y = fa := ⟨_, rfl⟩
        obtain ⟨ff, hff⟩ : ∃ ff, fewN W S M y = ff := ⟨_, rfl⟩
        obtain ⟨ow, how⟩ : ∃ ow, onesN W = ow := ⟨_, rfl⟩
        have cO : ∀ x : World, Calls Try.prog 43 #[.int .i64 W] x fun e w' => e = .returned (.int .i64 ow) ∧ x = w' := fun x => by rw [← how]; exact ones_any W x (by omega)
        rw [hfa, hff] at fin1 fin2
        rw [hfa] at lA
        rw [hff] at lF
        rw [how] at fin1 fin2 oW
        rw [hfa, hff]
        clear vA vF Spec hfa hff how
        obtain ⟨X, hX, wX⟩ := mul_small ff D 1024 600 (by omega) (by omega) (by decide)
        obtain ⟨Y, hY, wY⟩ := mul_small p fa 300 1024 (by omega) (by omega) (by decide)
        rw [hX, hY] at fin1 fin2
        clear hX hY
        have e3 := later_new (w := w3) (T := 69) (cs := #[.int .i64 T, .int .i64 S, .int .i64 M, .int .i64 B, .int .i64 R]) (j := 3) rfl
        have cL := fun (x : Later (w3.alloc (.cells #[.int .i64 T, .int .i64 S, .int .i64 M, .int .i64 B, .int .i64 R] 69))) => calls_later_same (cO x.w)
        have fin : (ow < B ∧ decide (B < ow) = false ∧ ((ow : Int) == (B : Int)) = false) ∨ (ow = B ∧ decide (B < ow) = false ∧ ((ow : Int) == (B : Int)) = true ∧ decide (X ≤ Y) = false) ∨ (B < ow ∧ decide (B < ow) = true ∧ ((ow : Int) == (B : Int)) = false ∧ decide (Y < X) = false) := by
          rcases Nat.lt_trichotomy ow B with h | h | h
          · exact .inl ⟨h, by simp; omega, by simp; omega⟩
          · exact .inr (.inl ⟨h, by simp; omega, by simp; omega, by have := fin2 h; simp; omega⟩)
          · exact .inr (.inr ⟨h, by simp; omega, by simp; omega, by have := fin1 h; simp; omega⟩)
        clear fin1 fin2
        go_wp2_with fail
        rcases fin with ⟨_, b1, b2⟩ | ⟨_, b1, b2, b3⟩ | ⟨_, b1, b2, b3⟩
        · (refine wp_region_later (by kernel_rfl) (by kernel_rfl) ?_; (repeat (go_big_quiet_step ((go_at_call 43; exact cL _)))); refine wpQuiet_nil ?_; rintro w4 ⟨⟨_, hb4⟩, rfl⟩)
          have f3 := later_cell (bel_cell hb4 (new_cell (w := w3) (T := 69) (cs := #[.int .i64 T, .int .i64 S, .int .i64 M, .int .i64 B, .int .i64 R]) (j := 3) rfl))
          have cM := fun (x : Later w4) => calls_later_same (cO x.w)
          clear e3 cL
          go_wp2_with fail
          (refine wp_region_later (by kernel_rfl) (by kernel_rfl) ?_; (repeat (go_big_quiet_step ((go_at_call 43; exact cM _)))); refine wpQuiet_nil ?_; rintro w5 ⟨⟨_, hb5⟩, rfl⟩)
          go_wp2_with fail
          refine (known_any _).mono ?_
          rintro e w6 ⟨rfl, hb6⟩
          go_wp2_with fail
          go_ret
          exact ⟨rfl, below_trans q3 (below_trans hb4 (below_trans hb5 hb6))⟩
        · (refine wp_region_later (by kernel_rfl) (by kernel_rfl) ?_; (repeat (go_big_quiet_step ((go_at_call 43; exact cL _)))); refine wpQuiet_nil ?_; rintro w4 ⟨⟨_, hb4⟩, rfl⟩)
          have f3 := later_cell (bel_cell hb4 (new_cell (w := w3) (T := 69) (cs := #[.int .i64 T, .int .i64 S, .int .i64 M, .int .i64 B, .int .i64 R]) (j := 3) rfl))
          have cM := fun (x : Later w4) => calls_later_same (cO x.w)
          clear e3 cL
          go_wp2_with fail
          (refine wp_region_later (by kernel_rfl) (by kernel_rfl) ?_; (repeat (go_big_quiet_step ((go_at_call 43; exact cM _)))); refine wpQuiet_nil ?_; rintro w5 ⟨⟨_, hb5⟩, rfl⟩)
          go_wp2_with fail
          refine (known_any _).mono ?_
          rintro e w6 ⟨rfl, hb6⟩
          go_wp2_with fail
          go_ret
          exact ⟨rfl, below_trans q3 (below_trans hb4 (below_trans hb5 hb6))⟩
        · (refine wp_region_later (by kernel_rfl) (by kernel_rfl) ?_; (repeat (go_big_quiet_step ((go_at_call 43; exact cL _)))); refine wpQuiet_nil ?_; rintro w4 ⟨⟨_, hb4⟩, rfl⟩)
          have f3 := later_cell (bel_cell hb4 (new_cell (w := w3) (T := 69) (cs := #[.int .i64 T, .int .i64 S, .int .i64 M, .int .i64 B, .int .i64 R]) (j := 3) rfl))
          have cM := fun (x : Later w4) => calls_later_same (cO x.w)
          clear e3 cL
          go_wp2_with fail
          (refine wp_region_later (by kernel_rfl) (by kernel_rfl) ?_; (repeat (go_big_quiet_step ((go_at_call 43; exact cM _)))); refine wpQuiet_nil ?_; rintro w5 ⟨⟨_, hb5⟩, rfl⟩)
          go_wp2_with fail
          refine (known_any _).mono ?_
          rintro e w6 ⟨rfl, hb6⟩
          go_wp2_with fail
          go_ret
          exact ⟨rfl, below_trans q3 (below_trans hb4 (below_trans hb5 hb6))⟩

end Go.Proofs.Ytfodlpiidlajeaa
