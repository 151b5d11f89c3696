/- The statement SiftSpied: for any pulses, notes and slots the law returns true and its arguments read as they did. No condition. -/
import Derived.Test.YtfodlpiidlajeaaOpen
import Derived.Test.YtfodlpiidlajeaaKnown
import Derived.Test.YtfodlpiidlajeaaSpy3
import Derived.Test.YtfodlpiidlajeaaSpy4
namespace Go.Proofs.Ytfodlpiidlajeaa.siftSpied
open Go.ChangeShapes Go.WideShapes Go.ChangeAt Go.RowKit Go.Deep Go.Joins
set_option linter.unusedVariables false
set_option linter.unusedSimpArgs false

theorem dec_note {H : Type} {en : TypeId × Value → H} {w : World} {base : Nat} {spare : Nat → Bool} {held : Bool} {n : Nat} {cs : List Value} {y : DataW H × List MemPlace} (h : DataW.trod en Try.prog w base spare held n 128 cs = some y) : ∃ x : Nte, cs = x.enc ∧ (i64ok x.slot ∧ i64ok x.how ∧ i64ok x.basis) := by
  obtain ⟨hlen, n', hf⟩ := trod_fields Try.underlying128 (by kernel_rfl) (by kernel_rfl) h
  match cs, hlen with
  | [c0, c1, c2, c3], _ =>
    obtain ⟨_, h0⟩ := hf 0 _ c0 rfl rfl
    obtain ⟨_, h1⟩ := hf 1 _ c1 rfl rfl
    obtain ⟨_, h2⟩ := hf 2 _ c2 rfl rfl
    obtain ⟨_, h3⟩ := hf 3 _ c3 rfl rfl
    obtain ⟨a, e0, _, w0⟩ := DataW.trod_int Try.underlying3 h0
    obtain ⟨b, e1, _, w1⟩ := DataW.trod_int Try.underlying3 h1
    obtain ⟨c, e2, _, w2⟩ := DataW.trod_int Try.underlying3 h2
    obtain ⟨d, e3, _⟩ := DataW.trod_bool Try.underlying4 h3
    simp at e0 e1 e2 e3; subst e0 e1 e2 e3
    exact ⟨⟨a, b, c, d⟩, rfl, i64ok_of w0, i64ok_of w1, i64ok_of w2⟩

theorem knwS {p : List Pls} {l : List Nte} {s : List Int} (h : sntE p s ≠ 0) : knwE p l s = sntE p s ∧ knwN p l s = 0 := by simp [knwN, knwE, h]
theorem snt_all {p : List Pls} {s : List Int} (h : sntE p s = 0) : allE Pls.ok p = 0 := by
  by_cases h0 : allE Pls.ok p = 0
  · exact h0
  · rw [(sntE1 h0).1] at h; exact (h0 h).elim
theorem knwK {p : List Pls} {l : List Nte} {s : List Int} (h : sntE p s = 0) (hk : kwE p l ≠ 0) : knwE p l s = kwE p l ∧ knwN p l s = 0 := by
  have e := (kw_yes (l := l) (snt_all h)).1
  have : knwE p l s = kwE p l := by rw [e]; simp [knwE, h]
  exact ⟨this, by unfold knwN; rw [if_neg (by rw [this]; exact hk)]⟩
theorem knwG {p : List Pls} {l : List Nte} {s : List Int} (h : sntE p s = 0) (hk : kwE p l = 0) : knwE p l s = 0 ∧ knwN p l s = cntTo (kwL p l) s s.length := by
  have e := kw_yes (l := l) (snt_all h)
  have : knwE p l s = 0 := by rw [e.1] at hk; simp [knwE, h, hk]
  exact ⟨this, by unfold knwN; rw [if_pos this, e.2]⟩

set_option maxRecDepth 100000 in
set_option maxHeartbeats 4000000 in
theorem walk (A : Option Addr) (n : Nat) (p : List Pls) (C : Option Addr) (m : Nat) (l : List Nte) (D : Option Addr) (o : Nat) (s : List Int) (w : World)
    (hA : Arr 5 Pls.enc w w.heap.size A p) (hl : p.length ≤ n) (hn : n ≤ maxLen) (hz : A = none → n = 0) (ho : ∀ x ∈ p, i64ok x.basis ∧ i64ok x.cls ∧ i64ok x.ph)
    (hC : Arr 4 Nte.enc w w.heap.size C l) (hlc : l.length ≤ m) (hm : m ≤ maxLen) (hzc : C = none → m = 0) (hoc : ∀ x ∈ l, i64ok x.slot ∧ i64ok x.how ∧ i64ok x.basis)
    (hD : Arr 1 encI w w.heap.size D s) (hld : s.length ≤ o) (hmd : o ≤ maxLen) (hzd : D = none → o = 0) (hod : ∀ x ∈ s, i64ok x) :
    Calls Try.prog 9 #[.slice A p.length n, .slice C l.length m, .slice D s.length o] w fun e w' => e = .returned (.bool true) ∧ Below w.heap.size w w' := by
  unfold maxLen at hn hm hmd
  clear ho hoc hod
  by_cases h4 : 400 < p.length
  · have h4' : decide (400 < (p.length : Int)) = true := by simp; omega
    go_enter Try.func9, Try.ntmps9
    go_wp2_with (go_at_call 15; refine (known_any _).mono ?_; rintro e w2 ⟨rfl, hb2⟩)
    go_ret
    exact ⟨rfl, hb2⟩
  have h4' : decide (400 < (p.length : Int)) = false := by simp; omega
  by_cases h5 : 400 < l.length
  · have h5' : decide (400 < (l.length : Int)) = true := by simp; omega
    go_enter Try.func9, Try.ntmps9
    go_wp2_with (go_at_call 15; refine (known_any _).mono ?_; rintro e w2 ⟨rfl, hb2⟩)
    go_ret
    exact ⟨rfl, hb2⟩
  have h5' : decide (400 < (l.length : Int)) = false := by simp; omega
  by_cases h6 : 400 < s.length
  · have h6' : decide (400 < (s.length : Int)) = true := by simp; omega
    go_enter Try.func9, Try.ntmps9
    go_wp2_with (go_at_call 15; refine (known_any _).mono ?_; rintro e w2 ⟨rfl, hb2⟩)
    go_ret
    exact ⟨rfl, hb2⟩
  have h6' : decide (400 < (s.length : Int)) = false := by simp; omega
  have hll := kwL_le p l
  by_cases hf : sntE p s = 0
  · by_cases hg : kwE p l = 0
    · have Hk := Lib.hid (knwG hf hg)
      have Hf := Lib.hid hf; have Hg := Lib.hid hg
      clear hf hg
      obtain ⟨L, hL⟩ : ∃ L, kwL p l = L := ⟨_, rfl⟩
      rw [hL] at hll Hk
      have HL := Lib.hid hL
      clear hL
      go_enter Try.func9, Try.ntmps9
      go_wp2_with (first
        | (go_at_call 39; refine (Known_any A n p C m l D o s _ hA hC hD (by omega) (by omega) (by omega)).mono ?_; rintro e w1 ⟨rfl, hb1⟩; rw [Hk.out.1, Hk.out.2])
        | (go_at_call 35; refine (refSent_any A n p D o s _ (hA.on hb1) (hD.on hb1) (by omega) (by omega)).mono ?_; rintro e w2 ⟨v2, rfl, hown2, hb2⟩; rw [Hf.out]; have q2 := below_trans hb1 hb2)
        | (go_at_call 40; refine (refKnows_any A n p C m l _ (hA.on q2) (hC.on q2) (by omega) (by omega)).mono ?_; rintro e w3 ⟨v3, rfl, hown3, hb3⟩; rw [Hg.out]; have q3 := below_trans q2 hb3; rw [HL.out] at hown3; obtain ⟨E, c3, rfl, _, _, _, hE⟩ := Own.form hown3 encI_len))
      clear hown2 hown3
      go_loopw [13, 14] (fun v i wr => ∃ j : Nat, j ≤ s.length ∧ i = .int .i64 j ∧ v = .int .i64 (cntTo L s j : Nat) ∧ Below w3.heap.size w3 wr) (fun _ i _ => s.length - (intOf i).toNat)
      case atStart => exact ⟨0, Nat.zero_le _, rfl, by rw [cntTo_zero]; rfl, Below.refl _ _⟩
      case round =>
        obtain ⟨j, hj, rfl, rfl, hb4⟩ := hrel
        have hcl : cntTo L s j ≤ 4096 * 4096 := Nat.le_trans (cntTo_le L s j) (Nat.mul_le_mul (by omega) (by omega))
        by_cases hlt : j < s.length
        · obtain ⟨bk, off, x, rfl, hbb, hq, c0⟩ := hD.int hlt (Below.refl _ _)
          have Hq := Lib.hid hq.out; clear hq
          have Hcq := Lib.hid c0; clear c0
          go_wp2
          go_loopw [13, 15] (fun v i wr => ∃ k : Nat, k ≤ L.length ∧ i = .int .i64 k ∧ v = .int .i64 (cntTo L s j + (L.take k).count x : Nat) ∧ Below w3.heap.size w3 wr) (fun _ i _ => L.length - (intOf i).toNat)
          case atStart => exact ⟨0, Nat.zero_le _, rfl, by simp, hb4⟩
          case round =>
            clear hb4
            obtain ⟨k, hk, rfl, rfl, hb4⟩ := hrel
            have hkc : (L.take k).count x ≤ L.length := Nat.le_trans List.count_le_length (by simp; omega)
            by_cases hkl : k < L.length
            · obtain ⟨bk2, off2, y, rfl, hbb2, hq2, d0⟩ := hE.int hkl hb4
              have e0 := later_cell d0
              have e1 := later_cell (bel_cell (below_trans q3 hb4) Hcq.out)
              have Hq2 := Lib.hid hq2.out
              clear d0 hq2
              by_cases hxy : y = x
              · subst hxy
                have Hc : Hid ((L.take (k + 1)).count y = (L.take k).count y + 1) := Lib.hid (by rw [count_take Hq2.out, if_pos rfl])
                go_wp2
                (refine wp_region_later (by kernel_rfl) (by kernel_rfl) ?_; (repeat (go_big_quiet_step (fail))); refine wpQuiet_nil ?_; rintro w5 ⟨⟨_, hb5⟩, rfl⟩)
                go_wp2
                go_roundw
                case rel => exact ⟨k + 1, by omega, by go_num, by rw [Hc.out]; go_num, below_trans hb4 hb5⟩
                case measure => simp [intOf]; omega
              · have g : (y == x) = false := by simpa using hxy
                have Hc : Hid ((L.take (k + 1)).count x = (L.take k).count x) := Lib.hid (by rw [count_take Hq2.out, if_neg hxy, Nat.add_zero])
                go_wp2
                (refine wp_region_later (by kernel_rfl) (by kernel_rfl) ?_; (repeat (go_big_quiet_step (fail))); refine wpQuiet_nil ?_; rintro w5 ⟨⟨_, hb5⟩, rfl⟩)
                go_wp2
                go_roundw
                case rel => exact ⟨k + 1, by omega, by go_num, by rw [Hc.out], below_trans hb4 hb5⟩
                case measure => simp [intOf]; omega
            · obtain rfl : k = L.length := by omega
              go_wp2
              go_roundw
              case rel => exact ⟨j + 1, by omega, by go_num, by rw [cntTo_succ Hq.out, List.take_of_length_le (Nat.le_refl _)], hb4⟩
              case measure => simp [intOf]; omega
        · obtain rfl : j = s.length := by omega
          go_wp2_with (go_at_call 15; refine (known_any _).mono ?_; rintro e w6 ⟨rfl, hb6⟩)
          go_ret
          exact ⟨rfl, below_trans (below_trans q3 hb4) hb6⟩
    · have Hk := Lib.hid (knwK hf hg)
      have Hf := Lib.hid hf
      have hg' : (kwE p l != 0) = true := by simpa using hg
      clear hf hg
      go_enter Try.func9, Try.ntmps9
      go_wp2_with (first
        | (go_at_call 39; refine (Known_any A n p C m l D o s _ hA hC hD (by omega) (by omega) (by omega)).mono ?_; rintro e w1 ⟨rfl, hb1⟩; rw [Hk.out.1, Hk.out.2])
        | (go_at_call 35; refine (refSent_any A n p D o s _ (hA.on hb1) (hD.on hb1) (by omega) (by omega)).mono ?_; rintro e w2 ⟨v2, rfl, hown2, hb2⟩; rw [Hf.out]; have q2 := below_trans hb1 hb2)
        | (go_at_call 40; refine (refKnows_any A n p C m l _ (hA.on q2) (hC.on q2) (by omega) (by omega)).mono ?_; rintro e w3 ⟨v3, rfl, hown3, hb3⟩; have q3 := below_trans q2 hb3)
        | (go_at_call 15; refine (known_any _).mono ?_; rintro e w6 ⟨rfl, hb6⟩))
      go_ret
      exact ⟨rfl, below_trans q3 hb6⟩
  · have Hk := Lib.hid (knwS (l := l) hf)
    have hf' : (sntE p s != 0) = true := by simpa using hf
    clear hf
    go_enter Try.func9, Try.ntmps9
    go_wp2_with (first
      | (go_at_call 39; refine (Known_any A n p C m l D o s _ hA hC hD (by omega) (by omega) (by omega)).mono ?_; rintro e w1 ⟨rfl, hb1⟩; rw [Hk.out.1, Hk.out.2])
      | (go_at_call 35; refine (refSent_any A n p D o s _ (hA.on hb1) (hD.on hb1) (by omega) (by omega)).mono ?_; rintro e w2 ⟨v2, rfl, hown2, hb2⟩; have q2 := below_trans hb1 hb2)
      | (go_at_call 40; refine (refKnows_any A n p C m l _ (hA.on q2) (hC.on q2) (by omega) (by omega)).mono ?_; rintro e w3 ⟨v3, rfl, hown3, hb3⟩; have q3 := below_trans q2 hb3)
      | (go_at_call 15; refine (known_any _).mono ?_; rintro e w6 ⟨rfl, hb6⟩))
    go_ret
    exact ⟨rfl, below_trans q3 hb6⟩

theorem own : ownKnob Try.prog.godebug = none := by kernel_rfl
theorem laidOut : laidOutB Try.prog = true := by kernel_rfl

set_option maxRecDepth 100000 in
theorem lifted (os : Os) (started : os.Started) (H : Type) (enc : TypeId × Value → H) :
    ReturnsInHanded {} Try.checked os 9 .any (Rows.siftSpiedSpec.pre6 enc Try.prog Try.f9 Rows.siftSpiedRow.domain false) (Rows.siftSpiedSpec.post enc Try.prog Try.f9 false true false false) := by
  refine returnsInHanded_of_change (C := Try.checked) own started (by kernel_rfl) Try.func9
    (ChangeSpec.witness6 (enc := enc) (C := Try.checked) false ⟨#[], #[.slice none 0 0, .slice none 0 0, .slice none 0 0], []⟩ 8 (by kernel_rfl) (by kernel_rfl) (by kernel_rfl) (by kernel_rfl)) ?_
  intro W base args ds gs before hval0 hW hcnd _
  have hval : ∀ (j : Nat) t v, Try.f9.params[j]? = some t → args[j]? = some v → Value.okWide Try.prog W .any base t v := hval0
  have hW' := hW
  obtain ⟨p, q, hA0, hV, rfl, hfz, hnd⟩ := hW
  have hA : DataW.TrodAll enc Try.prog W 0 (fun _ => true) true Try.f9.params.toList args.toList ds p := hA0
  rw [Try.params9] at hA hval
  obtain ⟨v0, vs0, d0, ds0, p0, q0, hargs, rfl, rfl, h0, r0⟩ := trodAll_cons hA
  obtain ⟨v1, vs1, d1, ds1, p1, q1, rfl, rfl, rfl, h1, r1⟩ := trodAll_cons r0
  obtain ⟨v2, vs2, d2, ds2, p2, q2, rfl, rfl, rfl, h2, r2⟩ := trodAll_cons r1
  obtain ⟨rfl, rfl, rfl⟩ := trodAll_nil r2
  obtain rfl : args = #[v0, v1, v2] := by cases args; simp_all
  obtain ⟨rfl, rfl⟩ := trodVars_none hV
  have lt0 : ∀ x ∈ p0, x.block < W.heap.size := by obtain ⟨m, hm⟩ := h0; exact DataW.trod_lt m _ _ _ hm
  have k0 := h0
  obtain ⟨A0, len0, n0, rfl⟩ := okWide_slice Try.underlying32 (hval 0 32 v0 rfl rfl)
  obtain ⟨fuel0, hf0⟩ := h0
  obtain ⟨A0', n0', l0, hcs0, hl0, hm0, hz0, ha0, ho0⟩ := open_arr (enc := Pls.enc) _ Pls.enc_len (by decide) Try.underlying32 (by kernel_rfl) (fun n cs y h => dec_pulse h) hf0
  simp [Value.cells] at hcs0
  obtain ⟨rfl, rfl, rfl⟩ := hcs0
  have lt1 : ∀ x ∈ p1, x.block < W.heap.size := by obtain ⟨m, hm⟩ := h1; exact DataW.trod_lt m _ _ _ hm
  have k1 := h1
  obtain ⟨A1, len1, n1, rfl⟩ := okWide_slice Try.underlying63 (hval 1 63 v1 rfl rfl)
  obtain ⟨fuel1, hf1⟩ := h1
  obtain ⟨A1', n1', l1, hcs1, hl1, hm1, hz1, ha1, ho1⟩ := open_arr (enc := Nte.enc) _ Nte.enc_len (by decide) Try.underlying63 (by kernel_rfl) (fun n cs y h => dec_note h) hf1
  simp [Value.cells] at hcs1
  obtain ⟨rfl, rfl, rfl⟩ := hcs1
  have lt2 : ∀ x ∈ p2, x.block < W.heap.size := by obtain ⟨m, hm⟩ := h2; exact DataW.trod_lt m _ _ _ hm
  have k2 := h2
  obtain ⟨A2, len2, n2, rfl⟩ := okWide_slice Try.underlying41 (hval 2 41 v2 rfl rfl)
  obtain ⟨fuel2, hf2⟩ := h2
  obtain ⟨A2', n2', l2, hcs2, hl2, hm2, hz2, ha2, ho2⟩ := open_arr (enc := encI) _ encI_len (by decide) Try.underlying41 (by kernel_rfl) (fun n cs y h => dec_int h) hf2
  simp [Value.cells] at hcs2
  obtain ⟨rfl, rfl, rfl⟩ := hcs2
  clear hA0 hval0
  refine (walk A0 n0 l0 A1 n1 l1 A2 n2 l2 W ha0 hl0 hm0 hz0 ho0 ha1 hl1 hm1 hz1 ho1 ha2 hl2 hm2 hz2 ho2).mono fun e W' ⟨he, bel⟩ => ?_
  subst he
  exact ⟨_, rfl, _, _, _, [], _, [], hW', trodAll_mk1 (shut_bool Try.underlying4 _), (trodAll_cons_mk (Below.trod laidOut (by kernel_rfl) (of_decide_eq_true (by kernel_rfl)) k0 bel lt0) (trodAll_cons_mk (Below.trod laidOut (by kernel_rfl) (of_decide_eq_true (by kernel_rfl)) k1 bel lt1) (trodAll_cons_mk (Below.trod laidOut (by kernel_rfl) (of_decide_eq_true (by kernel_rfl)) k2 bel lt2) trodAll_mk0))), rfl, bel.frame _, fun h => by cases h⟩

theorem over : Rows.siftSpiedRow.holds Try.pinned (OpenSpec.ofChange Rows.siftSpiedSpec) :=
  OpenClaim.holds_of_wide 9 Try.f9 rfl rfl rfl rfl rfl rfl rfl ⟨rfl, rfl, rfl, rfl, rfl⟩ rfl rfl rfl rfl rfl (by kernel_rfl) Try.func9 (by kernel_rfl)
    (of_decide_eq_true (by kernel_rfl)) (by unfold Func.isWrapper; first | (rw [if_pos (by decide +kernel)]; kernel_rfl) | (rw [if_neg (by decide +kernel)]; exact ⟨rfl, rfl⟩))
    (fun os started H enc _ => lifted os started H enc)

theorem proved : Rows.SiftSpiedSaid := over
#print axioms proved
end Go.Proofs.Ytfodlpiidlajeaa.siftSpied
