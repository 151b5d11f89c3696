/- The statement SiftBest: for any head and clicks the law returns true and its arguments read as they did. No condition. -/
import Derived.Test.YtfodlpiidlajeaaOpen
import Derived.Test.YtfodlpiidlajeaaKnown
import Derived.Test.YtfodlpiidlajeaaBestP
namespace Go.Proofs.Ytfodlpiidlajeaa.siftBest
open Go.ChangeShapes Go.WideShapes Go.ChangeAt Go.RowKit Go.Deep Go.Joins
set_option linter.unusedVariables false
set_option linter.unusedSimpArgs false

theorem both_zero {h : List Pls} {c : List Clk} (h1 : allE Pls.ok h = 0) (h2 : allE Clk.ok c = 0) : bothE h c = 0 := by simp [bothE, h1, h2]
theorem align_yes {h : List Pls} {c : List Clk} (hb : bothE h c = 0) (hx : 0 ≤ scS h c (bestF h c (shTo 16))) : alignV h c 0 = (bestF h c (shTo 16), 0) := by
  simp [alignV, hb, show betwB 0 0 4096 = true from rfl]; omega
theorem align_no {h : List Pls} {c : List Clk} (hb : bothE h c = 0) (hx : scS h c (bestF h c (shTo 16)) < 0) : alignV h c 0 = (0, 17) := by
  simp [alignV, hb, show betwB 0 0 4096 = true from rfl]; omega
theorem agr_in {h : List Pls} {c : List Clk} {x : Int} (hb : bothE h c = 0) (h1 : -16 ≤ x) (h2 : x ≤ 16) : agrV h c x = (scS h c x, 0) := agrV_ok hb (by simp [betwB]; omega)

set_option maxRecDepth 100000 in
set_option maxHeartbeats 4000000 in
theorem main (A : Option Addr) (n : Nat) (h : List Pls) (C : Option Addr) (m : Nat) (c : List Clk) (w : World)
    (hA : Arr 5 Pls.enc w w.heap.size A h) (hC : Arr 2 Clk.enc w w.heap.size C c) (h4 : ¬ 100 < h.length) (h5 : ¬ 100 < c.length) (hp : allE Pls.ok h = 0) (hq : allE Clk.ok c = 0) :
    Calls Try.prog 5 #[.slice A h.length n, .slice C c.length m] w fun e w' => e = .returned (.bool true) ∧ Below w.heap.size w w' := by
  have h4' : decide (100 < (h.length : Int)) = false := by simp; omega
  have h5' : decide (100 < (c.length : Int)) = false := by simp; omega
  have hb0 := both_zero hp hq
  have Hb := Lib.hid hb0
  have Hp := Lib.hid hp
  have Hq := Lib.hid hq
  have hbd := bestF_bd h c (shTo 16)
  obtain ⟨b, hbe⟩ : ∃ b, bestF h c (shTo 16) = b := ⟨_, rfl⟩
  have Hbe := Lib.hid hbe
  rw [hbe] at hbd
  clear hp hq hb0 hbe
  by_cases hx : 0 ≤ scS h c b
  · have Hal : Hid (alignV h c 0 = (b, 0)) := Lib.hid (by rw [← Hbe.out] at hx ⊢; exact align_yes Hb.out hx)
    have Hag : Hid (agrV h c b = (scS h c b, 0)) := Lib.hid (agr_in Hb.out hbd.1 hbd.2)
    obtain ⟨r1, r2⟩ := sq_bd hbd.1 hbd.2
    go_enter Try.func5, Try.ntmps5
    go_wp2_with (first
      | (go_at_call 25; refine (refPulses_any A n h _ hA (by omega)).mono ?_; rintro e w' ⟨rfl, rfl⟩; rw [Hp.out])
      | (go_at_call 26; refine (refClicks_any C m c _ hC (by omega)).mono ?_; rintro e w' ⟨rfl, rfl⟩; rw [Hq.out])
      | (go_at_call 21; refine (Align_any A n h C m c 0 _ hA hC (by omega) (by omega)).mono ?_; rintro e w2 ⟨rfl, hb2⟩; rw [Hal.out])
      | (go_at_call 19; refine (Agreement_any A n h C m c b _ (hA.on hb2) (hC.on hb2) (by omega) (by omega)).mono ?_; rintro e w3 ⟨rfl, hb3⟩; rw [Hag.out]))
    go_loopw [9] (fun i wr => ∃ x : Int, -16 ≤ x ∧ x ≤ 17 ∧ i = .int .i64 x ∧ Below w.heap.size w wr) (fun i _ => (17 - intOf i).toNat)
    case atStart => exact ⟨-16, by omega, by omega, rfl, below_trans hb2 hb3⟩
    case round =>
      obtain ⟨x, x1, x2, rfl, hb⟩ := hrel
      by_cases hlt : x ≤ 16
      · obtain ⟨q1, q2⟩ := sq_bd x1 hlt
        have hmost : scS h c x ≤ scS h c b := by rw [← Hbe.out]; exact best_most h c x1 hlt
        have Hagx : Hid (agrV h c x = (scS h c x, 0)) := Lib.hid (agr_in Hb.out x1 hlt)
        have g1 : decide (scS h c b < scS h c x) = false := by simp; omega
        by_cases heq : scS h c x = scS h c b
        · have g2 : (scS h c x == scS h c b) = true := by simpa using heq
          have hfi := best_first h c x1 hlt (by rw [Hbe.out]; exact heq)
          rw [Hbe.out] at hfi
          have g3 : decide (x * x < b * b) = false := by simpa using hfi.1
          clear heq
          by_cases he : x = -b
          · have g4 : (x == -b) = true := by simpa using he
            have g5 : decide (x < 0) = false := by have := hfi.2; simp; omega
            clear hfi he
            go_wp2_with (go_at_call 19; refine (Agreement_any A n h C m c x _ (hA.on hb) (hC.on hb) (by omega) (by omega)).mono ?_; rintro e w4 ⟨rfl, hb4⟩; rw [Hagx.out])
            go_roundw
            case rel => exact ⟨x + 1, by omega, by omega, by go_num, below_trans hb hb4⟩
            case measure => simp [intOf]; omega
          · have g4 : (x == -b) = false := by simpa using he
            clear hfi he
            go_wp2_with (go_at_call 19; refine (Agreement_any A n h C m c x _ (hA.on hb) (hC.on hb) (by omega) (by omega)).mono ?_; rintro e w4 ⟨rfl, hb4⟩; rw [Hagx.out])
            go_roundw
            case rel => exact ⟨x + 1, by omega, by omega, by go_num, below_trans hb hb4⟩
            case measure => simp [intOf]; omega
        · have g2 : (scS h c x == scS h c b) = false := by simpa using heq
          clear heq
          cases g3 : decide (x * x < b * b) <;> cases g4 : (x == -b) <;> cases g5 : decide (x < 0)
          all_goals
            go_wp2_with (go_at_call 19; refine (Agreement_any A n h C m c x _ (hA.on hb) (hC.on hb) (by omega) (by omega)).mono ?_; rintro e w4 ⟨rfl, hb4⟩; rw [Hagx.out])
            go_roundw
            case rel => exact ⟨x + 1, by omega, by omega, by go_num, below_trans hb hb4⟩
            case measure => simp [intOf]; omega
      · go_wp2_with (go_at_call 15; refine (known_any _).mono ?_; rintro e w5 ⟨rfl, hb5⟩)
        go_ret
        exact ⟨rfl, below_trans hb hb5⟩
  · have Hal : Hid (alignV h c 0 = (0, 17)) := Lib.hid (align_no Hb.out (by rw [Hbe.out]; omega))
    have Hag : Hid (agrV h c 0 = (scS h c 0, 0)) := Lib.hid (agr_in Hb.out (by omega) (by omega))
    go_enter Try.func5, Try.ntmps5
    go_wp2_with (first
      | (go_at_call 25; refine (refPulses_any A n h _ hA (by omega)).mono ?_; rintro e w' ⟨rfl, rfl⟩; rw [Hp.out])
      | (go_at_call 26; refine (refClicks_any C m c _ hC (by omega)).mono ?_; rintro e w' ⟨rfl, rfl⟩; rw [Hq.out])
      | (go_at_call 21; refine (Align_any A n h C m c 0 _ hA hC (by omega) (by omega)).mono ?_; rintro e w2 ⟨rfl, hb2⟩; rw [Hal.out])
      | (go_at_call 19; refine (Agreement_any A n h C m c 0 _ (hA.on hb2) (hC.on hb2) (by omega) (by omega)).mono ?_; rintro e w3 ⟨rfl, hb3⟩; rw [Hag.out]))
    go_loopw [9] (fun i wr => ∃ x : Int, -16 ≤ x ∧ x ≤ 17 ∧ i = .int .i64 x ∧ Below w.heap.size w wr) (fun i _ => (17 - intOf i).toNat)
    case atStart => exact ⟨-16, by omega, by omega, rfl, below_trans hb2 hb3⟩
    case round =>
      obtain ⟨x, x1, x2, rfl, hb⟩ := hrel
      by_cases hlt : x ≤ 16
      · obtain ⟨q1, q2⟩ := sq_bd x1 hlt
        have hmost : scS h c x ≤ scS h c b := by rw [← Hbe.out]; exact best_most h c x1 hlt
        have Hagx : Hid (agrV h c x = (scS h c x, 0)) := Lib.hid (agr_in Hb.out x1 hlt)
        have g1 : decide (0 ≤ scS h c x) = false := by simp; omega
        have g2 : decide (x * x < 0) = false := by simp; omega
        cases g4 : (x == 0) <;> cases g5 : decide (x < 0)
        all_goals
          go_wp2_with (go_at_call 19; refine (Agreement_any A n h C m c x _ (hA.on hb) (hC.on hb) (by omega) (by omega)).mono ?_; rintro e w4 ⟨rfl, hb4⟩; rw [Hagx.out])
          go_roundw
          case rel => exact ⟨x + 1, by omega, by omega, by go_num, below_trans hb hb4⟩
          case measure => simp [intOf]; omega
      · go_wp2_with (go_at_call 15; refine (known_any _).mono ?_; rintro e w5 ⟨rfl, hb5⟩)
        go_ret
        exact ⟨rfl, below_trans hb hb5⟩

set_option maxRecDepth 100000 in
set_option maxHeartbeats 2000000 in
theorem walk (A : Option Addr) (n : Nat) (h : List Pls) (C : Option Addr) (m : Nat) (c : List Clk) (w : World)
    (hA : Arr 5 Pls.enc w w.heap.size A h) (hl : h.length ≤ n) (hn : n ≤ maxLen) (hz : A = none → n = 0) (ho : ∀ x ∈ h, i64ok x.basis ∧ i64ok x.cls ∧ i64ok x.ph)
    (hC : Arr 2 Clk.enc w w.heap.size C c) (hlc : c.length ≤ m) (hm : m ≤ maxLen) (hzc : C = none → m = 0) (hoc : ∀ x ∈ c, i64ok x.basis ∧ i64ok x.kind) :
    Calls Try.prog 5 #[.slice A h.length n, .slice C c.length m] w fun e w' => e = .returned (.bool true) ∧ Below w.heap.size w w' := by
  unfold maxLen at hn hm
  clear ho hoc
  by_cases h4 : 100 < h.length
  · have h4' : decide (100 < (h.length : Int)) = true := by simp; omega
    go_enter Try.func5, Try.ntmps5
    go_wp2_with (go_at_call 15; refine (known_any _).mono ?_; rintro e w2 ⟨rfl, hb2⟩)
    go_ret
    exact ⟨rfl, hb2⟩
  by_cases h5 : 100 < c.length
  · have h4' : decide (100 < (h.length : Int)) = false := by simp; omega
    have h5' : decide (100 < (c.length : Int)) = true := by simp; omega
    go_enter Try.func5, Try.ntmps5
    go_wp2_with (go_at_call 15; refine (known_any _).mono ?_; rintro e w2 ⟨rfl, hb2⟩)
    go_ret
    exact ⟨rfl, hb2⟩
  by_cases hp : allE Pls.ok h = 0
  · by_cases hq : allE Clk.ok c = 0
    · exact main A n h C m c w hA hC h4 h5 hp hq
    · have h4' : decide (100 < (h.length : Int)) = false := by simp; omega
      have h5' : decide (100 < (c.length : Int)) = false := by simp; omega
      have Hp := Lib.hid hp
      have hq' : (allE Clk.ok c != 0) = true := by simpa using hq
      clear hp hq
      go_enter Try.func5, Try.ntmps5
      go_wp2_with (first
        | (go_at_call 25; refine (refPulses_any A n h _ hA (by omega)).mono ?_; rintro e w' ⟨rfl, rfl⟩; rw [Hp.out])
        | (go_at_call 26; refine (refClicks_any C m c _ hC (by omega)).mono ?_; rintro e w' ⟨rfl, rfl⟩)
        | (go_at_call 15; refine (known_any _).mono ?_; rintro e w2 ⟨rfl, hb2⟩))
      go_ret
      exact ⟨rfl, hb2⟩
  · have h4' : decide (100 < (h.length : Int)) = false := by simp; omega
    have h5' : decide (100 < (c.length : Int)) = false := by simp; omega
    have hp' : (allE Pls.ok h != 0) = true := by simpa using hp
    clear hp
    go_enter Try.func5, Try.ntmps5
    go_wp2_with (first
      | (go_at_call 25; refine (refPulses_any A n h _ hA (by omega)).mono ?_; rintro e w' ⟨rfl, rfl⟩)
      | (go_at_call 15; refine (known_any _).mono ?_; rintro e w2 ⟨rfl, hb2⟩))
    go_ret
    exact ⟨rfl, hb2⟩

theorem own : ownKnob Try.prog.godebug = none := by kernel_rfl
theorem laidOut : laidOutB Try.prog = true := by kernel_rfl

set_option maxRecDepth 100000 in
theorem lifted (os : Os) (started : os.Started) (H : Type) (enc : TypeId × Value → H) :
    ReturnsInHanded {} Try.checked os 5 .any (Rows.siftBestSpec.pre6 enc Try.prog Try.f5 Rows.siftBestRow.domain false) (Rows.siftBestSpec.post enc Try.prog Try.f5 false true false false) := by
  refine returnsInHanded_of_change (C := Try.checked) own started (by kernel_rfl) Try.func5
    (ChangeSpec.witness6 (enc := enc) (C := Try.checked) false ⟨#[], #[.slice none 0 0, .slice none 0 0], []⟩ 8 (by kernel_rfl) (by kernel_rfl) (by kernel_rfl) (by kernel_rfl)) ?_
  intro W base args ds gs before hval0 hW hcnd _
  have hval : ∀ (j : Nat) t v, Try.f5.params[j]? = some t → args[j]? = some v → Value.okWide Try.prog W .any base t v := hval0
  have hW' := hW
  obtain ⟨p, q, hA0, hV, rfl, hfz, hnd⟩ := hW
  have hA : DataW.TrodAll enc Try.prog W 0 (fun _ => true) true Try.f5.params.toList args.toList ds p := hA0
  rw [Try.params5] at hA hval
  obtain ⟨v0, vs0, d0, ds0, p0, q0, hargs, rfl, rfl, h0, r0⟩ := trodAll_cons hA
  obtain ⟨v1, vs1, d1, ds1, p1, q1, rfl, rfl, rfl, h1, r1⟩ := trodAll_cons r0
  obtain ⟨rfl, rfl, rfl⟩ := trodAll_nil r1
  obtain rfl : args = #[v0, v1] := by cases args; simp_all
  obtain ⟨rfl, rfl⟩ := trodVars_none hV
  have lt0 : ∀ x ∈ p0, x.block < W.heap.size := by obtain ⟨m, hm⟩ := h0; exact DataW.trod_lt m _ _ _ hm
  have k0 := h0
  obtain ⟨A0, len0, n0, rfl⟩ := okWide_slice Try.underlying32 (hval 0 32 v0 rfl rfl)
  obtain ⟨fuel0, hf0⟩ := h0
  obtain ⟨A0', n0', l0, hcs0, hl0, hm0, hz0, ha0, ho0⟩ := open_arr (enc := Pls.enc) _ Pls.enc_len (by decide) Try.underlying32 (by kernel_rfl) (fun n cs y h => dec_pulse h) hf0
  simp [Value.cells] at hcs0
  obtain ⟨rfl, rfl, rfl⟩ := hcs0
  have lt1 : ∀ x ∈ p1, x.block < W.heap.size := by obtain ⟨m, hm⟩ := h1; exact DataW.trod_lt m _ _ _ hm
  have k1 := h1
  obtain ⟨A1, len1, n1, rfl⟩ := okWide_slice Try.underlying22 (hval 1 22 v1 rfl rfl)
  obtain ⟨fuel1, hf1⟩ := h1
  obtain ⟨A1', n1', l1, hcs1, hl1, hm1, hz1, ha1, ho1⟩ := open_arr (enc := Clk.enc) _ Clk.enc_len (by decide) Try.underlying22 (by kernel_rfl) (fun n cs y h => dec_click h) hf1
  simp [Value.cells] at hcs1
  obtain ⟨rfl, rfl, rfl⟩ := hcs1
  clear hA0 hval0
  refine (walk A0 n0 l0 A1 n1 l1 W ha0 hl0 hm0 hz0 ho0 ha1 hl1 hm1 hz1 ho1).mono fun e W' ⟨he, bel⟩ => ?_
  subst he
  exact ⟨_, rfl, _, _, _, [], _, [], hW', trodAll_mk1 (shut_bool Try.underlying4 _), (trodAll_cons_mk (Below.trod laidOut (by kernel_rfl) (of_decide_eq_true (by kernel_rfl)) k0 bel lt0) (trodAll_cons_mk (Below.trod laidOut (by kernel_rfl) (of_decide_eq_true (by kernel_rfl)) k1 bel lt1) trodAll_mk0)), rfl, bel.frame _, fun h => by cases h⟩

theorem over : Rows.siftBestRow.holds Try.pinned (OpenSpec.ofChange Rows.siftBestSpec) :=
  OpenClaim.holds_of_wide 5 Try.f5 rfl rfl rfl rfl rfl rfl rfl ⟨rfl, rfl, rfl, rfl, rfl⟩ rfl rfl rfl rfl rfl (by kernel_rfl) Try.func5 (by kernel_rfl)
    (of_decide_eq_true (by kernel_rfl)) (by unfold Func.isWrapper; first | (rw [if_pos (by decide +kernel)]; kernel_rfl) | (rw [if_neg (by decide +kernel)]; exact ⟨rfl, rfl⟩))
    (fun os started H enc _ => lifted os started H enc)

theorem proved : Rows.SiftBestSaid := over
#print axioms proved
end Go.Proofs.Ytfodlpiidlajeaa.siftBest
