/- Contract of the reference's Gains. For at most 4096 slots. -/
import Derived.Test.YtfodlpiidlajeaaGain2
namespace Go.Proofs.Ytfodlpiidlajeaa
open Go.RowKit
set_option linter.unusedVariables false
set_option linter.unusedSimpArgs false

set_option maxRecDepth 100000 in
set_option maxHeartbeats 8000000 in
theorem refGains_main (A : Option Addr) (n : Nat) (p : List Pls) (C : Option Addr) (m : Nat) (s : List Int) (D : Option Addr) (o : Nat) (b : List Bool) (f : Int) (w : World) (hA : Arr 5 Pls.enc w w.heap.size A p) (hC : Arr 1 encI w w.heap.size C s) (hD : Arr 1 encB w w.heap.size D b)
    (hs : s.length ≤ 4096) (hd : b.length ≤ 4611686018427387904) (h0 : allE Pls.ok p = 0) (h1 : betwB f 0 4096 = true) (h2 : slotsE s 0 (p.length - 1) = 0) :
    Calls Try.prog 31 #[.slice A p.length n, .slice C s.length m, .slice D b.length o, .int .i64 f] w fun e w' => e = .returned (.tuple #[agg9 (gnG p s b f), .int .i64 (gnE p s b f)]) ∧ Below w.heap.size w w' := by
  have hb0 := below_alloc (below_alloc (Below.refl w.heap.size w) (.cells #[.int .i64 0, .int .i64 0, .int .i64 0, .int .i64 0, .int .i64 0, .int .i64 0, .int .i64 0, .int .i64 0, .int .i64 0] 51)) (.cells #[.int .i64 0, .int .i64 0, .int .i64 0, .int .i64 0, .int .i64 0, .int .i64 0, .int .i64 0, .int .i64 0, .int .i64 0] 51)
  have hlen := (allE_zero.1 h0).1
  have H0 := Lib.hid h0; have H1 := Lib.hid h1; have H2 := Lib.hid h2
  have Hcls : Hid (∀ (k : Nat) (x : Pls), p[k]? = some x → 0 ≤ x.cls ∧ x.cls ≤ 2) := Lib.hid (fun k x hx => cls_ok h0 hx)
  simp only [betwB, decide_eq_true_eq] at h1
  obtain ⟨f1, f2⟩ := h1
  clear h0 h2
  go_enter Try.func31, Try.ntmps31
  go_wp2_with (first
    | (go_at_call 25; refine (refPulses_any A n p _ (hA.on hb0) (by omega)).mono ?_; rintro e w' ⟨rfl, rfl⟩; rw [H0.out])
    | (go_at_call 67; refine (within_any _ _ _).mono ?_; rintro e w' ⟨rfl, rfl⟩; rw [H1.out])
    | (go_at_call 77; refine (refSlots_any C m s 0 _ _ (hC.on hb0) (by omega)).mono ?_; rintro e w2 ⟨rfl, hb2⟩; rw [H2.out]; have oA := Own.below (Own.alloc (own9 w w.heap.size w.heap.size 51 (Nat.le_refl _) rfl) _) hb2; have oB := Own.below (own9 (w.alloc _) w.heap.size (w.heap.size + 1) 51 (by simp) (by simp)) hb2; obtain ⟨a0, a1, a2, a3, a4, a5, a6, a7, a8⟩ := nine oA; obtain ⟨b0, b1, b2, b3, b4, b5, b6, b7, b8⟩ := nineF oA rfl; obtain ⟨c0, c1, c2, c3, c4, c5, c6, c7, c8⟩ := nine oB))
  have q2 := below_trans hb0 hb2
  go_loop [11] (fun i => ∃ k : Nat, k ≤ s.length ∧ i = .int .i64 k ∧ (s.take k).all (lateB f) = true) (fun i => s.length - (intOf i).toNat)
  case atStart => exact ⟨0, Nat.zero_le _, rfl, by simp⟩
  case round =>
    obtain ⟨k, hk, rfl, hall⟩ := hrel
    have Hall := Lib.hid hall; clear hall
    by_cases hlt : k < s.length
    · obtain ⟨bk, off, x, rfl, hbb, hq, e0⟩ := hC.int hlt q2
      by_cases hx : x < f
      · have Hg := Lib.hid (gn4 (b := b) H0.out H1.out H2.out (all_no hq.out (show lateB f x = false by simp [lateB]; omega)))
        go_wp2
        (try simp only [Exit.inBlock, Exit.then]); refine bodyPost_ret (v := .tuple #[.agg #[.int .i64 0, .int .i64 0, .int .i64 0, .int .i64 0, .int .i64 0, .int .i64 0, .int .i64 0, .int .i64 0, .int .i64 0], .int .i64 (3)]) ?_ rfl ⟨by rw [Hg.out.1, Hg.out.2]; rfl, below_set9 (q2) (Nat.le_refl _)⟩; rw [results_cell_tmp rfl]; go_simp
      · have Hx : Hid (lateB f x = true) := Lib.hid (by simp [lateB]; omega)
        go_wp2
        go_round
        case rel => exact ⟨k + 1, by omega, by go_num, all_take hq.out Hall.out Hx.out⟩
        case measure => simp [intOf]; omega
    · have H3 : Hid (s.all (lateB f) = true) := Lib.hid (by have := Hall.out; rw [List.take_of_length_le (by omega)] at this; exact this)
      clear Hall
      by_cases h4 : s.length = b.length
      · have H4 := Lib.hid h4
        have g4 : ((s.length : Int) != (b.length : Int)) = false := by simp [h4]
        have H6 : Hid (s.all (seenAt p) = false → gnE p s b f = 11 ∧ gnG p s b f = zero9) := Lib.hid (fun h5 => gn6 H0.out H1.out H2.out H3.out h4 h5)
        have H7 : Hid (s.all (seenAt p) = true → gnE p s b f = 0 ∧ gnG p s b f = ghTo p s b (gsTo p f p.length) s.length) := Lib.hid (fun h5 => gn7 H0.out H1.out H2.out H3.out h4 h5)
        clear h4
        go_wp2
        go_loop [12] (fun i => ∃ k : Nat, k ≤ s.length ∧ i = .int .i64 k ∧ (s.take k).all (seenAt p) = true) (fun i => s.length - (intOf i).toNat)
        case atStart => exact ⟨0, Nat.zero_le _, rfl, by simp⟩
        case round =>
          clear hlt hk
          obtain ⟨k, hk, rfl, hall⟩ := hrel
          have Hall := Lib.hid hall; clear hall
          by_cases hlt : k < s.length
          · obtain ⟨bk, off, x, rfl, hbb, hq, e0⟩ := hC.int hlt q2
            have hr := rise_range H2.out hq.out
            obtain ⟨j, rfl⟩ : ∃ j : Nat, x = (j : Int) := ⟨x.toNat, by simp [idI] at hr; omega⟩
            have hjl : j < p.length := by simp [idI] at hr; omega
            clear hr
            obtain ⟨bk2, off2, pb, pbit, pc, pph, ps, rfl, hbb2, hp, p0, p1, p2, p3, p4⟩ := hA.pls hjl q2
            have Hse := Lib.hid (seenAt_of hp.out)
            cases ps
            · have Hg := Lib.hid (H6.out (all_no hq.out Hse.out))
              go_wp2
              (try simp only [Exit.inBlock, Exit.then]); refine bodyPost_ret (v := .tuple #[.agg #[.int .i64 0, .int .i64 0, .int .i64 0, .int .i64 0, .int .i64 0, .int .i64 0, .int .i64 0, .int .i64 0, .int .i64 0], .int .i64 (11)]) ?_ rfl ⟨by rw [Hg.out.1, Hg.out.2]; rfl, below_set9 (q2) (Nat.le_refl _)⟩; rw [results_cell_tmp rfl]; go_simp
            · go_wp2
              go_round
              case rel => exact ⟨k + 1, by omega, by go_num, all_take hq.out Hall.out Hse.out⟩
              case measure => simp [intOf]; omega
          · have Hg := Lib.hid (H7.out (by have := Hall.out; rw [List.take_of_length_le (by omega)] at this; exact this))
            clear Hall a0 a1 a2 a3 a4 a5 a6 a7 a8 b0 b1 b2 b3 b4 b5 b6 b7 b8 c0 c1 c2 c3 c4 c5 c6 c7 c8 H6 H7
            obtain ⟨F, rfl⟩ : ∃ F : Nat, f = (F : Int) := ⟨f.toNat, by omega⟩
            go_wp2
            go_loopw [13] (fun i wr => ∃ k : Nat, k ≤ 8192 ∧ (F : Int) ≤ (k : Int) ∧ i = .int .i64 k ∧ Own wr w.heap.size 51 1 (fun x => [encInt x]) (.slice (some ⟨w.heap.size, 0, none⟩) 9 9) zero9 ∧ Own wr w.heap.size 51 1 (fun x => [encInt x]) (.slice (some ⟨w.heap.size + 1, 0, none⟩) 9 9) (gsTo p F k) ∧ Below w.heap.size w wr) (fun i _ => p.length - (intOf i).toNat)
            case atStart => exact ⟨F, by omega, by omega, rfl, oA, by rw [gsTo_first (by omega)]; exact oB, q2⟩
            case round =>
              clear oA oB hlt hk
              obtain ⟨k, hk, hF, rfl, oA, oB, hb⟩ := hrel
              have hgl := Lib.hid (gsTo_len p F k)
              by_cases hlt : k < p.length
              · obtain ⟨bk, off, pb, pbit, pc, pph, ps, rfl, hbb, hq, p0, p1, p2, p3, p4⟩ := hA.pls hlt hb
                cases ps
                · go_wp2
                  go_roundw
                  case rel => exact ⟨k + 1, by omega, by omega, by go_num, oA, by rw [gsTo_unseen hq.out rfl]; exact oB, hb⟩
                  case measure => simp [intOf]; omega
                · have hc := Hcls.out k _ hq.out
                  simp only at hc
                  obtain ⟨j, rfl⟩ : ∃ j : Nat, pc = (j : Int) := ⟨pc.toNat, by omega⟩
                  have hj3 : j < 3 := by omega
                  clear hc
                  obtain ⟨x, hx⟩ := get_some hgl.out (k := j * 3) (by omega)
                  have hbd := gsTo_bnd p F k _ _ hx
                  have Hn : Hid (gsTo p F (k + 1) = (gsTo p F k).set (j * 3) (x + 1)) := Lib.hid (by rw [gsTo_hit hq.out hF rfl]; exact bump_of hx)
                  have e0 := Own.at1 (f := encInt) oB hgl.out hx
                  have e1 := Own.fr1 (f := encInt) oB hgl.out (j * 3)
                  have Hs := Lib.hid (Own.set1 (f := encInt) oB hgl.out (j * 3) (x + 1))
                  have Ho := Lib.hid (Own.other (k := j * 3) (x := encInt (x + 1)) oA oB hgl.out (by omega))
                  unfold encInt at e0
                  clear hx
                  go_wp2
                  go_roundw
                  case rel => exact ⟨k + 1, by omega, by omega, by go_num, Ho.out, by rw [Hn.out]; exact Hs.out, hb.setCell (Nat.le_succ _) _⟩
                  case measure => simp [intOf]; omega
              · rw [gsTo_ge (by omega)] at oB hgl
                have HGb := Lib.hid (gsTo_bnd p F p.length)
                obtain ⟨G, hG⟩ : ∃ G, gsTo p F p.length = G := ⟨_, rfl⟩
                rw [hG] at oB Hg HGb hgl
                clear hG
                go_wp2
                go_loopw [14] (fun i wr => ∃ k : Nat, k ≤ s.length ∧ i = .int .i64 k ∧ Own wr w.heap.size 51 1 (fun x => [encInt x]) (.slice (some ⟨w.heap.size, 0, none⟩) 9 9) zero9 ∧ Own wr w.heap.size 51 1 (fun x => [encInt x]) (.slice (some ⟨w.heap.size + 1, 0, none⟩) 9 9) (ghTo p s b G k) ∧ Below w.heap.size w wr) (fun i _ => s.length - (intOf i).toNat)
                case atStart => exact ⟨0, Nat.zero_le _, rfl, oA, oB, hb⟩
                case round =>
                  clear oA oB hb hlt hk hF
                  obtain ⟨k, hk, rfl, oA, oB, hb⟩ := hrel
                  have hhl : Hid ((ghTo p s b G k).length = 9) := Lib.hid ((ghTo_len p s b G k).trans hgl.out)
                  by_cases hlt : k < s.length
                  · obtain ⟨bk, off, x, rfl, hbb, hq, c0⟩ := hC.int hlt hb
                    have hr := rise_range H2.out hq.out
                    obtain ⟨i, rfl⟩ : ∃ i : Nat, x = (i : Int) := ⟨x.toNat, by simp [idI] at hr; omega⟩
                    have hil : i < p.length := by simp [idI] at hr; omega
                    clear hr
                    obtain ⟨bk2, off2, pb, pbit, pc, pph, ps, rfl, hbb2, hp, p0, p1, p2, p3, p4⟩ := hA.pls hil hb
                    have hc := Hcls.out i _ hp.out
                    simp only at hc
                    obtain ⟨j, rfl⟩ : ∃ j : Nat, pc = (j : Int) := ⟨pc.toNat, by omega⟩
                    have hj3 : j < 3 := by omega
                    clear hc
                    obtain ⟨x, hx⟩ := get_some hhl.out (k := j * 3 + 1) (by omega)
                    have hbd := ghTo_bnd p s b G HGb.out k _ _ hx
                    have hlB : Hid (((ghTo p s b G k).set (j * 3 + 1) (x + 1)).length = 9) := Lib.hid (by rw [List.length_set]; exact hhl.out)
                    obtain ⟨y, hy⟩ := get_some hlB.out (k := j * 3 + 2) (by omega)
                    have hbd2 : 0 ≤ y ∧ y ≤ ((p.length + 2 * k + 1 : Nat) : Int) := by
                      rw [← bump_of hx] at hy
                      exact ((ghTo_bnd p s b G HGb.out k).bump (j * 3 + 1)) _ _ hy
                    have hgl1 := oB.g_lt
                    have hkb : k < b.length := by have := H4.out; omega
                    have oB2 := oB.alloc (.cells #[.int .i64 pb, .bool pbit, .int .i64 (j : Int), .int .i64 pph, .bool ps] 112)
                    have e0 := Own.at1 (f := encInt) oB2 hhl.out hx
                    have e1 := Own.fr1 (f := encInt) oB2 hhl.out (j * 3 + 1)
                    have Hs := Lib.hid ((Own.set1 (f := encInt) oB hhl.out (j * 3 + 1) (x + 1)).alloc (.cells #[.int .i64 pb, .bool pbit, .int .i64 (j : Int), .int .i64 pph, .bool ps] 112))
                    have Ho := Lib.hid ((Own.other (k := j * 3 + 1) (x := encInt (x + 1)) oA oB hhl.out (by omega)).alloc (.cells #[.int .i64 pb, .bool pbit, .int .i64 (j : Int), .int .i64 pph, .bool ps] 112))
                    have hbW : Below w.heap.size w ((wr.setCell ⟨w.heap.size + 1, j * 3 + 1, none⟩ (.int .i64 (x + 1))).alloc (.cells #[.int .i64 pb, .bool pbit, .int .i64 (j : Int), .int .i64 pph, .bool ps] 112)) := below_alloc (hb.setCell (Nat.le_succ _) _) _
                    obtain ⟨bk3, off3, bb, rfl, hbb3, hbq, f0⟩ := hD.bool (k := k) hkb hbW
                    have hsz : (wr.setCell ⟨w.heap.size + 1, j * 3 + 1, none⟩ (.int .i64 (x + 1))).heap.size = wr.heap.size := by simp
                    have f1 : ((wr.setCell ⟨w.heap.size + 1, j * 3 + 1, none⟩ (.int .i64 (x + 1))).alloc (.cells #[.int .i64 pb, .bool pbit, .int .i64 (j : Int), .int .i64 pph, .bool ps] 112)).cell? ⟨wr.heap.size, 1, none⟩ = some (.bool pbit) := by
                      rw [← hsz]; exact new_cell rfl
                    have f2 : ((wr.setCell ⟨w.heap.size + 1, j * 3 + 1, none⟩ (.int .i64 (x + 1))).alloc (.cells #[.int .i64 pb, .bool pbit, .int .i64 (j : Int), .int .i64 pph, .bool ps] 112)).cell? ⟨wr.heap.size, 2, none⟩ = some (.int .i64 (j : Int)) := by
                      rw [← hsz]; exact new_cell rfl
                    clear hsz
                    have l0 := later_cell f0
                    have l1 := later_cell f1
                    have F2 := Lib.hid f2
                    have Hy := Lib.hid hy
                    have Hp : Hid (p[((i : Int)).toNat]? = some ⟨pb, pbit, (j : Int), pph, ps⟩) := Lib.hid hp.out
                    have Hx := Lib.hid hx
                    unfold encInt at e0
                    clear oB2 hx hy f0 f1 f2
                    by_cases hbit : pbit = bb
                    · have Hn : Hid (ghTo p s b G (k + 1) = (ghTo p s b G k).set (j * 3 + 1) (x + 1)) := Lib.hid (by rw [ghTo_same hq.out hbq.out Hp.out hbit]; exact bump_of Hx.out)
                      subst hbit
                      go_wp2
                      (refine wp_region_later (by kernel_rfl) (by kernel_rfl) ?_; (repeat (go_big_quiet_step (fail))); refine wpQuiet_nil ?_; rintro w4 ⟨⟨_, hb4⟩, rfl⟩)
                      go_wp2
                      go_roundw
                      case rel => exact ⟨k + 1, by omega, by go_num, Ho.out.below hb4, by rw [Hn.out]; exact Hs.out.below hb4, hbW.trans (hb4.mono hbW.size)⟩
                      case measure => simp [intOf]; omega
                    · have Hn : Hid (ghTo p s b G (k + 1) = ((ghTo p s b G k).set (j * 3 + 1) (x + 1)).set (j * 3 + 2) (y + 1)) := Lib.hid (by rw [ghTo_other hq.out hbq.out Hp.out hbit, ← bump_of Hx.out]; exact bump_of (G := bump (ghTo p s b G k) (j * 3 + 1)) (i := j * 3 + 2) (by rw [bump_of Hx.out]; exact Hy.out))
                      obtain rfl : bb = !pbit := by cases pbit <;> cases bb <;> simp_all
                      clear hbit
                      go_wp2
                      (refine wp_region_later (by kernel_rfl) (by kernel_rfl) ?_; (repeat (go_big_quiet_step (fail))); refine wpQuiet_nil ?_; rintro w4 ⟨⟨_, hb4⟩, rfl⟩)
                      have m0 := bel_cell hb4 F2.out
                      have oB4 := Hs.out.below hb4
                      have m1 := Own.at1 (f := encInt) oB4 hlB.out Hy.out
                      have m2 := Own.fr1 (f := encInt) oB4 hlB.out (j * 3 + 2)
                      have Hs2 := Lib.hid (Own.set1 (f := encInt) oB4 hlB.out (j * 3 + 2) (y + 1))
                      have Ho2 := Lib.hid (Own.other (k := j * 3 + 2) (x := encInt (y + 1)) (Ho.out.below hb4) oB4 hlB.out (by omega))
                      unfold encInt at m1
                      clear oB4
                      go_wp2
                      go_roundw
                      case rel => exact ⟨k + 1, by omega, by go_num, Ho2.out, by rw [Hn.out]; exact Hs2.out, (hbW.trans (hb4.mono hbW.size)).setCell (Nat.le_succ _) _⟩
                      case measure => simp [intOf]; omega
                  · obtain rfl : k = s.length := by omega
                    obtain ⟨g0, g1, g2, g3, g4', g5, g6, g7, g8, hG9⟩ := list9 hhl.out
                    rw [hG9] at oB Hg
                    obtain ⟨a0, a1, a2, a3, a4, a5, a6, a7, a8⟩ := nine oA
                    obtain ⟨b0, b1, b2, b3, b4, b5, b6, b7, b8⟩ := nineF oA rfl
                    obtain ⟨c0, c1, c2, c3, c4, c5, c6, c7, c8⟩ := nine oB
                    clear hG9
                    go_wp2
                    (try simp only [Exit.inBlock, Exit.then])
                    refine bodyPost_ret (v := .tuple #[.agg #[.int .i64 g0, .int .i64 g1, .int .i64 g2, .int .i64 g3, .int .i64 g4', .int .i64 g5, .int .i64 g6, .int .i64 g7, .int .i64 g8], .int .i64 0]) ?_ rfl ⟨by rw [Hg.out.1, Hg.out.2]; rfl, below_set9 hb (Nat.le_refl _)⟩
                    rw [results_cell_tmp rfl]
                    go_simp
      · have Hg := Lib.hid (gn5 H0.out H1.out H2.out H3.out h4)
        have g4 : ((s.length : Int) != (b.length : Int)) = true := by simp; omega
        clear h4
        go_wp2
        (try simp only [Exit.inBlock, Exit.then]); refine bodyPost_ret (v := .tuple #[.agg #[.int .i64 0, .int .i64 0, .int .i64 0, .int .i64 0, .int .i64 0, .int .i64 0, .int .i64 0, .int .i64 0, .int .i64 0], .int .i64 (22)]) ?_ rfl ⟨by rw [Hg.out.1, Hg.out.2]; rfl, below_set9 (q2) (Nat.le_refl _)⟩; rw [results_cell_tmp rfl]; go_simp

theorem refGains_any (A : Option Addr) (n : Nat) (p : List Pls) (C : Option Addr) (m : Nat) (s : List Int) (D : Option Addr) (o : Nat) (b : List Bool) (f : Int) (w : World) (hA : Arr 5 Pls.enc w w.heap.size A p) (hC : Arr 1 encI w w.heap.size C s) (hD : Arr 1 encB w w.heap.size D b)
    (hp : p.length ≤ 4611686018427387904) (hs : s.length ≤ 4096) (hd : b.length ≤ 4611686018427387904) :
    Calls Try.prog 31 #[.slice A p.length n, .slice C s.length m, .slice D b.length o, .int .i64 f] w fun e w' => e = .returned (.tuple #[agg9 (gnG p s b f), .int .i64 (gnE p s b f)]) ∧ Below w.heap.size w w' := by
  by_cases h : allE Pls.ok p = 0 ∧ betwB f 0 4096 = true ∧ slotsE s 0 (p.length - 1) = 0
  · obtain ⟨h0, h1, h2⟩ := h
    exact refGains_main A n p C m s D o b f w hA hC hD hs hd h0 h1 h2
  · exact refGains_err A n p C m s D o b f w hA hC hD hp hs hd h

end Go.Proofs.Ytfodlpiidlajeaa
