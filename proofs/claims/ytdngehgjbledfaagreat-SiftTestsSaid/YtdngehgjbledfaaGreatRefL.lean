/- Contract of the reference's Bound. For any three numbers, a fraction of at most 900000 limbs. -/
import Derived.Test.YtdngehgjbledfaaGreatRefK
namespace Go.Proofs.YtdngehgjbledfaaGreat
open Go.RowKit
set_option linter.unusedVariables false
set_option linter.unusedSimpArgs false

set_option maxRecDepth 100000 in
set_option maxHeartbeats 4000000 in
theorem rBound_main (total sample seen : Nat) (f : Frc) (w : World) (hf : f.In w) (ht : total ≤ 512) (hs : sample ≤ total) (hn : seen ≤ sample) (hv : validE [f] = 0) (hlt : V f.l < V f.m) :
    Calls Tryz.prog 39 #[.int .i64 total, .int .i64 sample, .int .i64 seen, f.val] w fun e w' => e = .returned (.tuple #[.int .i64 (bs (possB total sample seen (V f.l) (V f.m)) seen total : Nat), .int .i64 0]) ∧ Below w.heap.size w w' := by
  have hb0 := below_alloc (Below.refl w.heap.size w) (.cells #[.slice f.A f.l.length f.c, .slice f.C f.m.length f.d] 29)
  have cC := rCheckFrac_any f _ (hf.on hb0)
  obtain ⟨s1, s2⟩ := short1 hv
  have lfl : (dg (V f.l)).length ≤ 256 := dg_limbs_len hf.n.dig (by omega)
  have lfm : (dg (V f.m)).length ≤ 256 := dg_limbs_len hf.d.dig (by omega)
  rw [hv] at cC
  unfold Frc.val at *
  go_enter Tryz.func39, Tryz.ntmps39
  go_wp2_with fail
  refine cC.mono ?_
  rintro e w3 ⟨rfl, hb3⟩
  have q3 := below_trans hb0 hb3
  have k0 := (blk_new hb3 rfl (j := 0) rfl).1
  have k1 := (blk_new hb3 rfl (j := 1) rfl).1
  have k0' : w3.cell? ⟨w.heap.size, 0, none⟩ = some (.slice f.A f.l.length f.c) := k0
  have k1' : w3.cell? ⟨w.heap.size, 1, none⟩ = some (.slice f.C f.m.length f.d) := k1
  have L0 := fun w' (hb : Below w3.heap.size w3 w') => bel_cell hb k0'
  have L1 := fun w' (hb : Below w3.heap.size w3 w') => bel_cell hb k1'
  have c1 := fun w' (hb : Below w3.heap.size w3 w') => digits_any f.A f.c f.l w' (hf.on (below_trans q3 hb)).n (by omega)
  have c2 := fun w' (hb : Below w3.heap.size w3 w') => digits_any f.C f.d f.m w' (hf.on (below_trans q3 hb)).d (by omega)
  have c3 := fun w' A c A' c' (h1 : Dn w' A c (dg (V f.l))) (h2 : Dn w' A' c' (dg (V f.m))) => rcmp_any A c _ A' c' _ w' h1 h2 (by omega) (by omega)
  rw [cmpI_lt hlt] at c3
  clear cC hv k0 k1
  go_wp2_with fail
  go_region_held3 (fun w' => Below w3.heap.size w3 w')
    (first | (exact (Below.refl _ _).drew) | (refine below_trans ?_ hx1; assumption) | (refine below_trans ?_ hx2; assumption) | (refine below_trans ?_ hx3; assumption))
    (first | (go_at_call 63; refine Calls.on (args' := #[.slice f.A f.l.length f.c]) rfl ?_; refine (c1 _ ?hB).mono ?_; (case hB => assumption); rintro e y1 ⟨v1, rfl, b1, hx1⟩; obtain ⟨A1, e1, hv1, n1⟩ := b1.dn; rw [hv1]) | (go_at_call 63; refine Calls.on (args' := #[.slice f.C f.m.length f.d]) rfl ?_; refine (c2 _ ?hB).mono ?_; (case hB => assumption); rintro e y2 ⟨v2, rfl, b2, hx2⟩; obtain ⟨A2, e2, hv2, n2⟩ := b2.dn; rw [hv2]) | (go_at_call 62; refine (c3 _ _ _ _ _ (n1.on hx2) n2).mono ?_; rintro e y3 ⟨rfl, hx3⟩))
  have B3 : Below w3.heap.size w3 y3 := below_trans (below_trans (below_trans (Below.refl _ _).drew hx1) hx2) hx3
  have M0 := L0 y3 B3
  have M1 := L1 y3 B3
  go_wp2_with fail
  refine (c1 _ B3).mono ?_
  rintro e y4 ⟨v4, rfl, b4, hx4⟩
  obtain ⟨A4, e4, hv4, n4⟩ := b4.dn
  rw [hv4]
  go_wp2_with fail
  refine (row_any total _ ht).mono ?_
  rintro e y5 ⟨v5, rfl, r5, hx5⟩
  obtain ⟨g5, cp5, hv5, g51, g52, get5⟩ := r5.form
  rw [hv5]
  obtain ⟨A5, c5, k5, n5⟩ := get5 sample (by omega)
  have lch := dgch_len (n := total) (k := sample) ht
  have i5 : (sample : Int) < (total : Int) + 1 := by omega
  go_wp2_with fail
  have cM := rmul_any A4 e4 _ A5 c5 _ y5 (n4.on hx5) n5 (by omega) (by omega)
  rw [dg_val, dg_val] at cM
  refine cM.mono ?_
  rintro e y6 ⟨v6, rfl, b6, hx6⟩
  obtain ⟨A6, e6, hv6, n6⟩ := b6.dn
  rw [hv6]
  have B6 : Below w3.heap.size w3 y6 := below_trans (below_trans (below_trans B3 hx4) hx5) hx6
  have l6 := dg_mul (V f.l) (ch total sample)
  have m1 := L1 y6 B6
  clear cM get5 hv4 hv5 hv6 M0 M1 L0 L1 k0' k1' c3 c1
  go_wp2_with fail
  go_loopw [12, 13] (fun a b wr => ∃ lo hi : Nat, lo ≤ hi ∧ hi ≤ total ∧ a = .int .i64 lo ∧ b = .int .i64 hi ∧ bs (possB total sample seen (V f.l) (V f.m)) lo hi = bs (possB total sample seen (V f.l) (V f.m)) seen total ∧ Below y6.heap.size y6 wr) (fun a b _ => (intOf b).toNat - (intOf a).toNat)
  case atStart => exact ⟨seen, total, by omega, Nat.le_refl _, rfl, rfl, rfl, Below.refl _ _⟩
  case round =>
    obtain ⟨lo, hi, h1, h2, rfl, rfl, hv, hb⟩ := hrel
    have Hv := Lib.hid hv
    clear hv
    by_cases hlh : lo < hi
    · obtain ⟨s, hs1⟩ : ∃ s : Nat, (lo : Int) + (hi : Int) + 1 = (s : Int) := ⟨lo + hi + 1, by omega⟩
      obtain ⟨mid, hm1⟩ : ∃ mid : Nat, (s : Int) / 2 = (mid : Int) := ⟨s / 2, by omega⟩
      have hme : Hid ((lo + hi + 1) / 2 = mid) := Lib.hid (by omega)
      have hm2 : mid ≤ total := by omega
      have Br : Below w3.heap.size w3 wr := below_trans B6 hb
      have m1r := bel_cell hb m1
      have R1 := fun w' (hb' : Below wr.heap.size wr w') => bel_cell hb' m1r
      have cW := fun w' => rways_any total mid sample seen w' ht hm2 hs hn
      have cD := fun w' (hb' : Below wr.heap.size wr w') => c2 w' (below_trans Br hb')
      have lw : (dg (waysN total mid sample seen)).length ≤ 67 := dways_len hm2 ht (by omega)
      have lp := dg_mul (waysN total mid sample seen) (V f.m)
      have cM := fun w' A c A' c' (h1 : Dn w' A c (dg (waysN total mid sample seen))) (h2 : Dn w' A' c' (dg (V f.m))) => rmul_any A c _ A' c' _ w' h1 h2 (by omega) (by omega)
      simp only [dg_val] at cM
      have cC := fun w' (hb' : Below wr.heap.size wr w') A c (h1 : Dn w' A c (dg (waysN total mid sample seen * V f.m))) => rcmp_any A c _ A6 e6 _ w' h1 ((n6.on hb).on hb') (by omega) (by omega)
      go_wp2_with fail
      go_region_held3 (fun w' => Below wr.heap.size wr w')
        (first | (exact (Below.refl _ _).drew) | (refine below_trans ?_ hw1; assumption) | (refine below_trans ?_ hw2; assumption) | (refine below_trans ?_ hw3; assumption) | (refine below_trans ?_ hw4; assumption))
        (first | (go_at_call 66; refine (cW _).mono ?_; rintro e z1 ⟨u1, rfl, d1, hw1⟩; obtain ⟨P1, p1, hu1, t1⟩ := d1.dn; rw [hu1]) | (go_at_call 63; refine (cD _ ?hB).mono ?_; (case hB => assumption); rintro e z2 ⟨u2, rfl, d2, hw2⟩; obtain ⟨P2, p2, hu2, t2⟩ := d2.dn; rw [hu2]) | (go_at_call 64; refine (cM _ _ _ _ _ (t1.on hw2) t2).mono ?_; rintro e z3 ⟨u3, rfl, d3, hw3⟩; obtain ⟨P3, p3, hu3, t3⟩ := d3.dn; rw [hu3]) | (go_at_call 62; refine (cC _ ?hB _ _ t3).mono ?_; (case hB => assumption); rintro e z4 ⟨rfl, hw4⟩))
      have B4 : Below wr.heap.size wr z4 := below_trans (below_trans (below_trans (below_trans (Below.refl _ _).drew hw1) hw2) hw3) hw4
      have bz := below_trans hb B4
      clear cW cD cM cC R1
      cases hp : possB total sample seen (V f.l) (V f.m) mid
      · have hst := bs_no (p := possB total sample seen (V f.l) (V f.m)) hlh (by rw [hme.out]; exact hp)
        rw [hme.out] at hst
        have Hst := Lib.hid hst
        obtain ⟨cv, hcv, hcv0⟩ : ∃ cv, cmpI (waysN total mid sample seen * V f.m) (V f.l * ch total sample) = cv ∧ cv ≤ 0 := ⟨_, rfl, by
          unfold possB at hp; simp only [decide_eq_false_iff_not] at hp
          unfold cmpI; split <;> (try split) <;> omega⟩
        rw [hcv]
        clear hst hp hcv
        go_wp2_with fail
        go_roundw
        case rel => first | exact ⟨lo, mid - 1, by have := hme.out; omega, by omega, rfl, by go_num, by rw [← Hst.out]; exact Hv.out, bz⟩ | ((repeat apply Exists.intro); exact ⟨⟨lo, mid - 1, by have := hme.out; omega, by omega, rfl, by go_num, by rw [← Hst.out]; exact Hv.out, bz⟩, rfl⟩)
        case measure => (simp [intOf] <;> omega)
      · have hst := bs_yes (p := possB total sample seen (V f.l) (V f.m)) hlh (by rw [hme.out]; exact hp)
        rw [hme.out] at hst
        have Hst := Lib.hid hst
        have hgt : V f.l * ch total sample < waysN total mid sample seen * V f.m := by unfold possB at hp; simpa using hp
        rw [cmpI_gt hgt]
        clear hst hp hgt
        go_wp2_with fail
        go_roundw
        case rel => first | exact ⟨mid, hi, by have := hme.out; omega, h2, rfl, rfl, by rw [← Hst.out]; exact Hv.out, bz⟩ | ((repeat apply Exists.intro); exact ⟨⟨mid, hi, by have := hme.out; omega, h2, rfl, rfl, by rw [← Hst.out]; exact Hv.out, bz⟩, rfl⟩)
        case measure => (simp [intOf] <;> omega)
    · obtain rfl : lo = hi := by omega
      go_wp2_with fail
      go_ret2
      have := Hv.out
      rw [bs_end (Nat.le_refl _)] at this
      exact ⟨by rw [← this]; rfl, below_trans (below_trans q3 B6) hb⟩

end Go.Proofs.YtdngehgjbledfaaGreat
