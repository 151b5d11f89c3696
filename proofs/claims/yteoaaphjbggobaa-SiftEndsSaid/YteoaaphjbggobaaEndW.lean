/- The walk of SiftEnds: for any arrangement, rules, number, seeds and first slot it returns true. -/
import Derived.Test.YteoaaphjbggobaaEndA
import Derived.Test.YteoaaphjbggobaaKnown
namespace Go.Proofs.Yteoaaphjbggobaa
open Go.RowKit
set_option linter.unusedVariables false
set_option linter.unusedSimpArgs false

/-- The argument in its box. -/
def FliAt (W : World) (X : Nat) (o : Opt) (r : Value) (n8 s0 s1 s2 f8 : Nat) : Prop := W.heap[X]? = some (.cells (o.cs ++ #[r, .int .u8 n8, .int .u64 s0, .int .u64 s1, .int .u64 s2, .int .u8 f8]) 31 (0, 0))
section
variable {W W' : World} {X : Nat} {o : Opt} {r : Value} {n8 s0 s1 s2 f8 : Nat}
theorem FliAt.on (h : FliAt W X o r n8 s0 s1 s2 f8) (hb : Below W.heap.size W W') : FliAt W' X o r n8 s0 s1 s2 f8 := (hb.block _ (Array.getElem?_eq_some_iff.1 h).1).trans h
theorem FliAt.op (h : FliAt W X o r n8 s0 s1 s2 f8) : ∀ j v, o.cs[j]? = some v → W.cell? ⟨X, j, none⟩ = some v := fun j v hv => by
  rw [cell_of_row _ _ _ _ _ _ h, Array.getElem?_append_left (Array.getElem?_eq_some_iff.1 hv).1]
  exact hv
theorem FliAt.c18 (h : FliAt W X o r n8 s0 s1 s2 f8) : W.cell? ⟨X, 18, none⟩ = some r := by rw [cell_of_row _ _ _ _ _ _ h]; rfl
theorem FliAt.c19 (h : FliAt W X o r n8 s0 s1 s2 f8) : W.cell? ⟨X, 19, none⟩ = some (.int .u8 n8) := by rw [cell_of_row _ _ _ _ _ _ h]; rfl
theorem FliAt.c20 (h : FliAt W X o r n8 s0 s1 s2 f8) : W.cell? ⟨X, 20, none⟩ = some (.int .u64 s0) := by rw [cell_of_row _ _ _ _ _ _ h]; rfl
theorem FliAt.c21 (h : FliAt W X o r n8 s0 s1 s2 f8) : W.cell? ⟨X, 21, none⟩ = some (.int .u64 s1) := by rw [cell_of_row _ _ _ _ _ _ h]; rfl
theorem FliAt.c22 (h : FliAt W X o r n8 s0 s1 s2 f8) : W.cell? ⟨X, 22, none⟩ = some (.int .u64 s2) := by rw [cell_of_row _ _ _ _ _ _ h]; rfl
theorem FliAt.c23 (h : FliAt W X o r n8 s0 s1 s2 f8) : W.cell? ⟨X, 23, none⟩ = some (.int .u8 f8) := by rw [cell_of_row _ _ _ _ _ _ h]; rfl
theorem FliAt.new (w : World) (o : Opt) (r : Value) (n8 s0 s1 s2 f8 : Nat) : FliAt (w.alloc (.cells #[.int .i64 o.k, .int .i64 o.c0, .int .i64 o.c1, .int .i64 o.c2, .int .i64 o.v0, .int .i64 o.v1, .int .i64 o.v2, .int .i64 o.v3, .int .i64 o.w0, .int .i64 o.w1, .int .i64 o.w2, .int .i64 o.w3, .int .i64 o.s0, .int .i64 o.s1, .int .i64 o.s2, .int .i64 o.s3, .int .i64 o.eta, .int .i64 o.dark, r, .int .u8 n8, .int .u64 s0, .int .u64 s1, .int .u64 s2, .int .u8 f8] 31)) w.heap.size o r n8 s0 s1 s2 f8 := World.alloc_heap_new w _
end

theorem fil_step {K : List Int} {k : Nat} {x : Int} (h : K[k]? = some x) (b : Int → Bool) : (K.take (k + 1)).filter b = (K.take k).filter b ++ (if b x = true then [x] else []) := by
  rw [take_snoc h, List.filter_append]
  by_cases hx : b x = true <;> simp [hx]
set_option maxRecDepth 100000 in
set_option maxHeartbeats 16000000 in
theorem ends_any (o : Opt) (A : Option Addr) (cA : Nat) (l : List Rul) (n8 s0 s1 s2 f8 : Nat) (w : World) (hA : Arr 5 Rul.enc w w.heap.size A l) (hl : l.length ≤ cA) (hm : cA ≤ maxLen) (hn8 : n8 < 256) (hf8 : f8 < 256) :
    Calls Try.prog 3 #[.agg #[.int .i64 o.k, .int .i64 o.c0, .int .i64 o.c1, .int .i64 o.c2, .int .i64 o.v0, .int .i64 o.v1, .int .i64 o.v2, .int .i64 o.v3, .int .i64 o.w0, .int .i64 o.w1, .int .i64 o.w2, .int .i64 o.w3, .int .i64 o.s0, .int .i64 o.s1, .int .i64 o.s2, .int .i64 o.s3, .int .i64 o.eta, .int .i64 o.dark, .slice A l.length cA, .int .u8 n8, .int .u64 s0, .int .u64 s1, .int .u64 s2, .int .u8 f8]] w fun e w' => e = .returned (.bool true) ∧ Below w.heap.size w w' := by
  unfold maxLen at hm
  have X0 := FliAt.new w o (.slice A l.length cA) n8 s0 s1 s2 f8
  have hb0 := below_alloc (Below.refl w.heap.size w) (.cells #[.int .i64 o.k, .int .i64 o.c0, .int .i64 o.c1, .int .i64 o.c2, .int .i64 o.v0, .int .i64 o.v1, .int .i64 o.v2, .int .i64 o.v3, .int .i64 o.w0, .int .i64 o.w1, .int .i64 o.w2, .int .i64 o.w3, .int .i64 o.s0, .int .i64 o.s1, .int .i64 o.s2, .int .i64 o.s3, .int .i64 o.eta, .int .i64 o.dark, .slice A l.length cA, .int .u8 n8, .int .u64 s0, .int .u64 s1, .int .u64 s2, .int .u8 f8] 31)
  obtain ⟨n, hn⟩ : ∃ n, n8 % 201 = n := ⟨_, rfl⟩
  have hnl : n < 201 := by rw [← hn]; exact Nat.mod_lt _ (by decide)
  have e1 : (n8 : Int) % 201 = (n : Int) := by omega
  have e2 : (n8 : Int).tmod 201 = (n : Int) := by rw [Int.tmod_eq_emod_of_nonneg (by omega)]; exact e1
  clear hn
  go_enter Try.func3, Try.ntmps3
  go_upto_region 1 with fail
  obtain ⟨W0, hW0⟩ : ∃ W0, w.alloc (.cells #[.int .i64 o.k, .int .i64 o.c0, .int .i64 o.c1, .int .i64 o.c2, .int .i64 o.v0, .int .i64 o.v1, .int .i64 o.v2, .int .i64 o.v3, .int .i64 o.w0, .int .i64 o.w1, .int .i64 o.w2, .int .i64 o.w3, .int .i64 o.s0, .int .i64 o.s1, .int .i64 o.s2, .int .i64 o.s3, .int .i64 o.eta, .int .i64 o.dark, .slice A l.length cA, .int .u8 n8, .int .u64 s0, .int .u64 s1, .int .u64 s2, .int .u8 f8] 31) = W0 := ⟨_, rfl⟩
  rw [hW0] at X0 hb0 ⊢
  clear hW0
  have x18 := X0.c18; have x19 := X0.c19; have x20 := X0.c20; have x21 := X0.c21; have x22 := X0.c22; have x23 := X0.c23
  have xo := Lib.hid X0.op
  go_upto_region 3 with fail
  obtain ⟨f, hfe, hfn⟩ : ∃ f : Nat, (if n < f8 then (n : Int) else (f8 : Int)) = (f : Int) ∧ f ≤ n := by
    by_cases h : n < f8
    · exact ⟨n, by rw [if_pos h], Nat.le_refl _⟩
    · exact ⟨f8, by rw [if_neg h], by omega⟩
  rw [hfe]
  clear hfe e1 e2 hn8 hf8
  rcases (Bool.eq_false_or_eq_true (optB o)).symm with ho | ho
  · have cR := Run_no1 o A cA l n s0 s1 s2 W0 ho
    have e0 : optE o = 2 := by unfold optE; rw [if_neg (by simp [ho])]
    unfold Opt.val Opt.cs at cR
    go_wp2_with (refine wpList_load_sub rfl 26 _ rfl w.heap.size rfl o.cs _ xo.out Try.underlying26 rfl (by kernel_rfl) ?_)
    refine cR.mono ?_
    rintro e w1 ⟨rfl, hb1⟩
    have X1 := (X0.on hb1).on (below_alloc (Below.refl _ _) (.cells #[.slice none 0 0, .slice none 0 0, .slice none 0 0, .int .i64 0] 36))
    have q1 := below_alloc (below_trans hb0 hb1) (.cells #[.slice none 0 0, .slice none 0 0, .slice none 0 0, .int .i64 0] 36)
    have xo1 := Lib.hid X1.op
    have y18 := X1.c18
    have cK := rCheck_any o (w1.alloc (.cells #[.slice none 0 0, .slice none 0 0, .slice none 0 0, .int .i64 0] 36))
    rw [e0] at cK
    unfold Opt.val Opt.cs at cK
    clear cR X0 hb0 hb1 xo x18 x19 x20 x21 x22 x23 e0 ho
    go_wp2_with (refine wpList_load_sub rfl 26 _ rfl w.heap.size rfl o.cs _ xo1.out Try.underlying26 rfl (by kernel_rfl) ?_)
    refine cK.mono ?_
    rintro e w2 ⟨rfl, hb2⟩
    go_wp2_with (go_at_call 8; refine (known_any _).mono ?_; rintro e w3 ⟨rfl, hb3⟩)
    go_ret
    exact ⟨rfl, below_trans (below_trans q1 hb2) hb3⟩
  · by_cases hr : rulesE l = 0
    · have hr2 : l.all ruleB = true ∧ l.length ≤ 32 := by
        unfold rulesE at hr
        by_cases h1 : 32 < l.length
        · rw [if_pos h1] at hr; cases hr
        · rw [if_neg h1] at hr
          by_cases h2 : l.all ruleB = false
          · rw [if_pos h2] at hr; cases hr
          · exact ⟨by simpa using h2, by omega⟩
      have cR := Run_any o A cA l n s0 s1 s2 W0 ho (hA.on hb0) hr hr2.1 hr2.2 (by omega)
      have hp : allE Pls.ok (emX o s0 n).1 = 0 := allE_zero.2 ⟨by rw [emX_len]; omega, emX_ok o s0 n⟩
      have hpl : (emX o s0 n).1.length = n := emX_len o s0 n
      have hcl : (detX o.eta o.dark (carX l (emX o s0 n).1 s1 n).1 (shfX l) s2 n).1.length = n := detX_len _ _ _ _ _ _
      have hc : allE Clk.ok (detX o.eta o.dark (carX l (emX o s0 n).1 s1 n).1 (shfX l) s2 n).1 = 0 := allE_zero.2 ⟨by rw [hcl]; omega, detX_ok _ _ _ _ _ _⟩
      have hs := shfX_ok hr2.1
      generalize (detX o.eta o.dark (carX l (emX o s0 n).1 s1 n).1 (shfX l) s2 n).1 = c at *
      generalize (carX l (emX o s0 n).1 s1 n).2.2 = ns at *
      generalize (emX o s0 n).1 = p at *
      generalize shfX l = s at *
      obtain ⟨p1, p2, p3, p4, p5, p6, p7⟩ := ends_plain p c s f n hp hc hpl hcl hs hfn
      have p8 := dif_eq p c s n f
      have hs2 : -16 ≤ s ∧ s ≤ 16 := by simpa [betwB] using hs
      have kle : (sncL (agrTo p c s n) f).length ≤ n := Nat.le_trans (sncL_le _ _) (agrTo_le _ _ _ _)
      have ale := agrTo_le p c s n
      have wle := wrgTo_le p c s n
      have ane : (annL c s f n).length ≤ n := by
        unfold annL
        split
        · simp
        · have := annTo_le c s f n c.length; omega
      obtain ⟨K, hK⟩ : ∃ K, sncL (agrTo p c s n) f = K := ⟨_, rfl⟩
      rw [hK] at p3 p4 p5 p6 p7 p8 kle
      have HK := Lib.hid hK
      have P1 := Lib.hid p1; have P2 := Lib.hid p2; have P3 := Lib.hid p3; have P4 := Lib.hid p4; have P5 := Lib.hid p5; have P6 := Lib.hid p6; have P7 := Lib.hid p7; have P8 := Lib.hid p8
      have Hp := Lib.hid hp; have Hc := Lib.hid hc; have Hpl := Lib.hid hpl; have Hcl := Lib.hid hcl
      unfold Opt.val Opt.cs at cR
      clear p1 p2 p3 p4 p5 p6 p7 p8 hK hp hc hpl hcl hs hr hr2 ho
      go_wp2_with (refine wpList_load_sub rfl 26 _ rfl w.heap.size rfl o.cs _ xo.out Try.underlying26 rfl (by kernel_rfl) ?_)
      refine cR.mono ?_
      rintro e w1 ⟨v1, v2, v3, rfl, own1, own2, own3, hb1⟩
      obtain ⟨A1, c1, rfl, _, _, _, _⟩ := own1.form Pls.enc_len
      obtain ⟨A2, c2, rfl, _, _, _, _⟩ := own2.form Clk.enc_len
      obtain ⟨A3, c3, rfl, _, _, _, _⟩ := own3.form Nte.enc_len
      have Y3 : FltAt (w1.alloc (.cells #[.slice A1 p.length c1, .slice A2 c.length c2, .slice A3 ns.length c3, .int .i64 s] 36)) w1.heap.size (.slice A1 p.length c1) (.slice A2 c.length c2) (.slice A3 ns.length c3) (.int .i64 s) := World.alloc_heap_new _ _
      have q3 := below_alloc (below_trans hb0 hb1) (.cells #[.slice A1 p.length c1, .slice A2 c.length c2, .slice A3 ns.length c3, .int .i64 s] 36)
      have own1 := own1.alloc (.cells #[.slice A1 p.length c1, .slice A2 c.length c2, .slice A3 ns.length c3, .int .i64 s] 36)
      have own2 := own2.alloc (.cells #[.slice A1 p.length c1, .slice A2 c.length c2, .slice A3 ns.length c3, .int .i64 s] 36)
      clear cR X0 hb0 hb1 xo x18 x19 x20 x21 x22 x23 own3
      obtain ⟨_, _, hv1, _, _, _, ar1⟩ := own1.form Pls.enc_len
      cases hv1
      obtain ⟨_, _, hv2, _, _, _, ar2⟩ := own2.form Clk.enc_len
      cases hv2
      clear own1 own2
      go_upto_region 4 with fail
      obtain ⟨W3, hW3⟩ : ∃ W3, w1.alloc (.cells #[.slice A1 p.length c1, .slice A2 c.length c2, .slice A3 ns.length c3, .int .i64 s] 36) = W3 := ⟨_, rfl⟩
      obtain ⟨Y, hY⟩ : ∃ Y, w1.heap.size = Y := ⟨_, rfl⟩
      rw [hW3, hY] at Y3
      rw [hW3] at q3 ar1 ar2
      rw [hW3, hY]
      clear hW3 hY
      have y0 := Y3.c0; have y1 := Y3.c1; have y3 := Y3.c3
      go_wp2_with fail
      refine (oAgree_any A1 c1 p A2 c2 c s W3 ar1 ar2 Hp.out Hc.out hs2.1 hs2.2).mono ?_
      rintro e w4 ⟨u1, u2, rfl, o1, o2, hb4⟩
      rw [Hpl.out] at o1 o2
      have Y4 := Y3.on hb4
      have b1 := ar1.on hb4
      have b2 := ar2.on hb4
      have q4 := below_trans q3 hb4
      obtain ⟨U1, d1, rfl, _, _, _, g1⟩ := o1.form encI_len
      obtain ⟨U2, d2, rfl, _, _, _, g2⟩ := o2.form encI_len
      clear Y3 ar1 ar2 q3 hb4 o1 o2 y0 y1 y3
      have y0 := Y4.c0; have y1 := Y4.c1; have y3 := Y4.c3
      go_wp2_with fail
      refine (Announce_any A2 c2 c s f n w4 b2 (by rw [Hcl.out]; omega)).mono ?_
      rintro e w5 ⟨u3, rfl, o3, hb5⟩
      rw [P1.out]
      obtain ⟨U3, d3, rfl, _, _, _, g3⟩ := o3.form Hrd.enc_len
      have Y5 := Y4.on hb5
      have b1 := b1.on hb5
      have b2 := b2.on hb5
      have g1 := g1.on hb5
      have g2 := g2.on hb5
      have q5 := below_trans q4 hb5
      clear Y4 q4 hb5 o3 y0 y1 y3
      have y0 := Y5.c0; have y1 := Y5.c1; have y3 := Y5.c3
      go_wp2_with fail
      refine (Match_any A1 c1 p U3 d3 (annL c s f n) f w5 b1 g3 (by rw [Hpl.out]; omega) (by omega)).mono ?_
      rintro e w6 ⟨u4, rfl, o4, hb6⟩
      rw [P2.out]
      rw [P3.out] at o4
      obtain ⟨U4, d4, rfl, _, _, _, g4⟩ := o4.form encI_len
      have Y6 := Y5.on hb6
      have b1 := b1.on hb6
      have b2 := b2.on hb6
      have g1 := g1.on hb6
      have g2 := g2.on hb6
      have q6 := below_trans q5 hb6
      clear Y5 q5 hb6 o4 g3 y0 y1 y3
      go_wp2_with fail
      refine (since_any U1 d1 (agrTo p c s n) f w6 g1 (by omega)).mono ?_
      rintro e w7 ⟨u5, rfl, o5, hb7⟩
      rw [HK.out] at o5
      obtain ⟨U5, d5, rfl, _, _, _, g5⟩ := o5.form encI_len
      have Y7 := Y6.on hb7
      have b1 := b1.on hb7
      have b2 := b2.on hb7
      have g2 := g2.on hb7
      have g4 := g4.on hb7
      have q7 := below_trans q6 hb7
      clear Y6 q6 hb7 o5 g1
      go_wp2_with fail
      refine (Ints_same U4 U5 d4 d5 K w7 g4 g5 (by omega)).mono ?_
      rintro e w8 ⟨rfl, hb8⟩
      have Y8 := Y7.on hb8
      have b1 := b1.on hb8
      have b2 := b2.on hb8
      have g2 := g2.on hb8
      have g4 := g4.on hb8
      have q8 := below_trans q7 hb8
      clear Y7 q7 hb8 g5
      have y0 := Y8.c0; have y1 := Y8.c1; have y3 := Y8.c3
      go_wp2_with fail
      refine (Sent_any A1 c1 p U4 d4 K w8 b1 g4 (by rw [Hpl.out]; omega) (by omega)).mono ?_
      rintro e w9 ⟨u6, rfl, o6, hb9⟩
      rw [P4.out]
      rw [P5.out] at o6
      obtain ⟨U6, d6, rfl, _, _, _, g6⟩ := o6.form encB_len
      have Y9 := Y8.on hb9
      have b2 := b2.on hb9
      have g2 := g2.on hb9
      have g4 := g4.on hb9
      have q9 := below_trans q8 hb9
      clear Y8 q8 hb9 o6 b1 y0 y1 y3
      have y1 := Y9.c1; have y3 := Y9.c3
      go_wp2_with fail
      refine (Received_any A2 c2 c s U4 d4 K w9 b2 g4 (by rw [Hcl.out]; omega) (by omega)).mono ?_
      rintro e w10 ⟨u7, rfl, o7, hb10⟩
      rw [P6.out]
      rw [P7.out] at o7
      obtain ⟨U7, d7, rfl, _, _, _, g7⟩ := o7.form encB_len
      have g2 := g2.on hb10
      have g4 := g4.on hb10
      have g6 := g6.on hb10
      have q10 := below_trans q9 hb10
      clear Y9 q9 hb10 o7 b2 y1 y3
      rw [List.length_map]
      go_wp2_with fail
      obtain ⟨i0, hi, hz0, hz1, hz2⟩ := info_parts int_info7
      have Hi := Lib.hid hi; have Hz0 := Lib.hid hz0; have Hz1 := Lib.hid hz1; have Hz2 := Lib.hid hz2
      clear hi hz0 hz1 hz2
      go_loopw [16, 17] (fun v i wr => ∃ k : Nat, k ≤ K.length ∧ i = .int .i64 k ∧ Own wr w10.heap.size 3 1 encI v ((K.take k).filter (difB p c s)) ∧ Below w10.heap.size w10 wr) (fun _ i _ => K.length - (intOf i).toNat)
      case atStart => exact ⟨0, Nat.zero_le _, rfl, Own.nil, Below.refl _ _⟩
      case round =>
        obtain ⟨k, hk, rfl, ow, hb⟩ := hrel
        obtain ⟨wi, rfl⟩ : ∃ wi, wi = wr := ⟨_, rfl⟩
        have hle : ((K.take k).filter (difB p c s)).length ≤ 4096 := by have := List.length_filter_le (difB p c s) (K.take k); rw [List.length_take] at this; omega
        have hbs := hb.size
        rcases Nat.lt_or_ge k K.length with hlt | hge
        · obtain ⟨b4, f4, x, rfl, hbb, hx, c0⟩ := g4.int hlt hb
          have l6 : k < (K.map (bitAt p)).length := by rw [List.length_map]; exact hlt
          have l7 : k < (K.map (rcvB c s)).length := by rw [List.length_map]; exact hlt
          obtain ⟨b6, f6, ta, rfl, hbb6, hx6, c6⟩ := g6.bool l6 hb
          obtain ⟨b7, f7, tb, rfl, hbb7, hx7, c7⟩ := g7.bool l7 hb
          have hta : bitAt p x = ta := by have h := hx6.out; rw [List.getElem?_map, hx.out] at h; simpa using h
          have htb : rcvB c s x = tb := by have h := hx7.out; rw [List.getElem?_map, hx.out] at h; simpa using h
          have hst := Lib.hid (fil_step hx.out (difB p c s))
          have hd : Hid (difB p c s x = (ta != tb)) := Lib.hid (by unfold difB; rw [hta, htb])
          have by1 : (((K.take k).filter (difB p c s)).length + 1) * 8 ≤ 140737488355328 := by omega
          have r0 := later_cell c0; have r6 := later_cell c6; have r7 := later_cell c7
          clear hta htb hx6 hx7 l6 l7 hle
          go_upto_region 19 with fail
          cases ta <;> cases tb
          · have hs2 : Hid ((K.take (k + 1)).filter (difB p c s) = (K.take k).filter (difB p c s)) := Lib.hid (by rw [hst.out, hd.out]; simp)
            clear hst hd
            (refine wp_region_later (by kernel_rfl) (by kernel_rfl) ?_; (repeat (go_big_quiet_step (fail))); refine wpQuiet_nil ?_; rintro w2 ⟨⟨_, hb2⟩, rfl⟩)
            go_wp2_with fail
            exact ⟨⟨k + 1, by omega, by go_num, by rw [hs2.out]; exact ow.below hb2, hb.trans (hb2.mono hbs)⟩, by simp [intOf]; omega⟩
          · have hs2 : Hid ((K.take (k + 1)).filter (difB p c s) = (K.take k).filter (difB p c s) ++ [x]) := Lib.hid (by rw [hst.out, hd.out]; simp)
            clear hst hd
            (refine wp_region_later (by kernel_rfl) (by kernel_rfl) ?_; (repeat (go_big_quiet_step (fail))); refine wpQuiet_nil ?_; rintro w2 ⟨⟨_, hb2⟩, rfl⟩)
            have ow2 := ow.below hb2
            have z0 := bel_cell hb2 c0
            have hbs2 : w10.heap.size ≤ w2.heap.size := Nat.le_trans hbs hb2.size
            go_wp2_with (at_builtin; refine wpList_snoc (g := w2.heap.size) rfl _ _ 43 rfl w10.heap.size 3 i0 _ 1 8 Try.underlying43 Hi.out Hz0.out Hz1.out Hz2.out rfl (by decide) _ ((K.take k).filter (difB p c s)) x #[.int .i64 x] 3 rfl ow2 rfl rfl rfl (encI_one _) by1 (by decide) hbs2 rfl ?_; intro v5 w5 own5 hb5)
            exact ⟨⟨k + 1, by omega, by go_num, by rw [hs2.out]; exact own5, (hb.trans (hb2.mono hbs)).trans hb5⟩, by simp [intOf]; omega⟩
          · have hs2 : Hid ((K.take (k + 1)).filter (difB p c s) = (K.take k).filter (difB p c s) ++ [x]) := Lib.hid (by rw [hst.out, hd.out]; simp)
            clear hst hd
            (refine wp_region_later (by kernel_rfl) (by kernel_rfl) ?_; (repeat (go_big_quiet_step (fail))); refine wpQuiet_nil ?_; rintro w2 ⟨⟨_, hb2⟩, rfl⟩)
            have ow2 := ow.below hb2
            have z0 := bel_cell hb2 c0
            have hbs2 : w10.heap.size ≤ w2.heap.size := Nat.le_trans hbs hb2.size
            go_wp2_with (at_builtin; refine wpList_snoc (g := w2.heap.size) rfl _ _ 43 rfl w10.heap.size 3 i0 _ 1 8 Try.underlying43 Hi.out Hz0.out Hz1.out Hz2.out rfl (by decide) _ ((K.take k).filter (difB p c s)) x #[.int .i64 x] 3 rfl ow2 rfl rfl rfl (encI_one _) by1 (by decide) hbs2 rfl ?_; intro v5 w5 own5 hb5)
            exact ⟨⟨k + 1, by omega, by go_num, by rw [hs2.out]; exact own5, (hb.trans (hb2.mono hbs)).trans hb5⟩, by simp [intOf]; omega⟩
          · have hs2 : Hid ((K.take (k + 1)).filter (difB p c s) = (K.take k).filter (difB p c s)) := Lib.hid (by rw [hst.out, hd.out]; simp)
            clear hst hd
            (refine wp_region_later (by kernel_rfl) (by kernel_rfl) ?_; (repeat (go_big_quiet_step (fail))); refine wpQuiet_nil ?_; rintro w2 ⟨⟨_, hb2⟩, rfl⟩)
            go_wp2_with fail
            exact ⟨⟨k + 1, by omega, by go_num, by rw [hs2.out]; exact ow.below hb2, hb.trans (hb2.mono hbs)⟩, by simp [intOf]; omega⟩
        · obtain rfl : k = K.length := by omega
          rw [List.take_length, P8.out] at ow
          obtain ⟨U8, d8, rfl, _, _, _, g8⟩ := ow.form encI_len
          have g2 := g2.on hb
          have q11 := below_trans q10 hb
          clear g4 g6 g7 ow hb hle
          go_wp2_with fail
          refine (since_any U2 d2 (wrgTo p c s n) f wi g2 (by omega)).mono ?_
          rintro e w12 ⟨u9, rfl, o9, hb12⟩
          obtain ⟨U9, d9, rfl, _, _, _, g9⟩ := o9.form encI_len
          have g8 := g8.on hb12
          have q12 := below_trans q11 hb12
          have sle := sncL_le (wrgTo p c s n) f
          clear o9 hb12 q11 g2
          go_wp2_with fail
          refine (Ints_same U8 U9 d8 d9 (sncL (wrgTo p c s n) f) w12 g8 g9 (by omega)).mono ?_
          rintro e w13 ⟨rfl, hb13⟩
          go_wp2_with (go_at_call 8; refine (known_any _).mono ?_; rintro e w14 ⟨rfl, hb14⟩)
          go_ret
          exact ⟨rfl, below_trans (below_trans q12 hb13) hb14⟩
    · have cR := Run_no2 o A cA l n s0 s1 s2 W0 ho (hA.on hb0) (by omega) hr
      have e0 : optE o = 0 := by unfold optE; rw [if_pos ho]
      obtain ⟨E, hE⟩ : ∃ E, rulesE l = E := ⟨_, rfl⟩
      rw [hE] at cR hr
      have HE := Lib.hid hE
      have d1 : (E != 0) = true := by simpa using hr
      have d2 : (E == 0) = false := by simpa using hr
      unfold Opt.val Opt.cs at cR
      clear hE hr
      go_wp2_with (refine wpList_load_sub rfl 26 _ rfl w.heap.size rfl o.cs _ xo.out Try.underlying26 rfl (by kernel_rfl) ?_)
      refine cR.mono ?_
      rintro e w1 ⟨rfl, hb1⟩
      have X1 := (X0.on hb1).on (below_alloc (Below.refl _ _) (.cells #[.slice none 0 0, .slice none 0 0, .slice none 0 0, .int .i64 0] 36))
      have q1 := below_alloc (below_trans hb0 hb1) (.cells #[.slice none 0 0, .slice none 0 0, .slice none 0 0, .int .i64 0] 36)
      have xo1 := Lib.hid X1.op
      have cK := rCheck_any o (w1.alloc (.cells #[.slice none 0 0, .slice none 0 0, .slice none 0 0, .int .i64 0] 36))
      rw [e0] at cK
      unfold Opt.val Opt.cs at cK
      clear cR X0 hb0 hb1 xo x18 x19 x20 x21 x22 x23 e0 ho
      go_wp2_with (refine wpList_load_sub rfl 26 _ rfl w.heap.size rfl o.cs _ xo1.out Try.underlying26 rfl (by kernel_rfl) ?_)
      refine cK.mono ?_
      rintro e w2 ⟨rfl, hb2⟩
      have X2 := X1.on hb2
      have q2 := below_trans q1 hb2
      have y18 := X2.c18
      have cU := rRules_any A cA l w2 (hA.on q2) (by omega)
      rw [HE.out] at cU
      clear cK xo1 X1 q1 hb2
      go_wp2_with fail
      refine cU.mono ?_
      rintro e w3 ⟨rfl, hb3⟩
      go_wp2_with (go_at_call 8; refine (known_any _).mono ?_; rintro e w4 ⟨rfl, hb4⟩)
      go_ret
      exact ⟨rfl, below_trans (below_trans q2 hb3) hb4⟩

end Go.Proofs.Yteoaaphjbggobaa
