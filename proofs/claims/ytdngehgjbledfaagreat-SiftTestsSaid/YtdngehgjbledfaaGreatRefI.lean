/- Contract of the reference's ways. For at most 512 things. -/
import Derived.Test.YtdngehgjbledfaaGreatRefAll
import Derived.Test.YtdngehgjbledfaaGreatNatI
namespace Go.Proofs.YtdngehgjbledfaaGreat
open Go.RowKit
set_option linter.unusedVariables false
set_option linter.unusedSimpArgs false

theorem dg_zero (w : World) (base : Nat) : Dg w base (.slice none 0 0) 0 := by unfold Dg dg; rw [digB_zero]; exact Own.nil
theorem dways_len {total bad sample k : Nat} (hb : bad ≤ total) (ht : total ≤ 512) (hk : k ≤ 513) : (dg (sumTo (wterm total bad sample) k)).length ≤ 67 := by
  have h := ways_le (total := total) (bad := bad) (sample := sample) (seen := k) hb
  rw [ways_sum] at h
  have h1 : sumTo (wterm total bad sample) k ≤ sumTo (wterm total bad sample) (k + 1) := sumTo_mono _ (by omega)
  refine dg_len (m := total + 10) ?_ (by omega)
  have h2 : (k + 1) * 2 ^ total < 1024 * 2 ^ total := Nat.mul_lt_mul_of_pos_right (by omega) (Nat.pow_pos (by decide))
  rw [Nat.pow_add, Nat.mul_comm (2 ^ total)]
  change _ < 1024 * 2 ^ total
  omega

set_option maxRecDepth 100000 in
set_option maxHeartbeats 4000000 in
theorem rways_any (total bad sample seen : Nat) (w : World) (ht : total ≤ 512) (hb : bad ≤ total) (hs : sample ≤ total) (hse : seen ≤ sample) :
    Calls Tryz.prog 66 #[.int .i64 total, .int .i64 bad, .int .i64 sample, .int .i64 seen] w fun e w' => ∃ v, e = .returned v ∧ Dg w' w.heap.size v (waysN total bad sample seen) ∧ Below w.heap.size w w' := by
  obtain ⟨N, hN⟩ : ∃ N : Nat, (total : Int) - (bad : Int) = (N : Int) := ⟨total - bad, by omega⟩
  have hNe : Hid (N = total - bad) := Lib.hid (by omega)
  have hN5 : N ≤ 512 := by omega
  go_enter Tryz.func66, Tryz.ntmps66
  go_wp2_with fail
  refine (row_any bad _ (by omega)).mono ?_
  rintro e w1 ⟨va, rfl, ra, hb1⟩
  go_wp2_with fail
  refine (row_any N _ hN5).mono ?_
  rintro e w2 ⟨vb, rfl, rb, hb2⟩
  obtain ⟨ga, ca, rfl, ga1, ga2, geta⟩ := (ra.on hb2).form
  obtain ⟨gb, cb, rfl, gb1, gb2, getb⟩ := rb.form
  have q2 := below_trans hb1 hb2
  have Geta := Lib.hid geta; have Getb := Lib.hid getb
  clear geta getb ra rb
  go_wp2_with fail
  go_loopw [11, 12] (fun v i wr => ∃ j : Nat, j ≤ seen + 1 ∧ j ≤ bad + 1 ∧ i = .int .i64 j ∧ Dg wr w.heap.size v (sumTo (wterm total bad sample) j) ∧ Below w2.heap.size w2 wr) (fun _ i _ => seen + 1 - (intOf i).toNat)
  case atStart => exact ⟨0, by omega, by omega, rfl, dg_zero _ _, Below.refl _ _⟩
  case round =>
    obtain ⟨j, hj1, hj2, rfl, hd, hb3⟩ := hrel
    have hs2 := q2.size
    have hs3 := hb3.size
    by_cases h1 : j ≤ seen
    · by_cases h2 : j ≤ bad
      · obtain ⟨m, hm⟩ : ∃ m : Nat, (sample : Int) - (j : Int) = (m : Int) := ⟨sample - j, by omega⟩
        have hme : Hid (m = sample - j) := Lib.hid (by omega)
        have wm : IntKind.i64.wrap (m : Int) = (m : Int) := IntWalk.i64_in _ (by omega)
        have h3' : j ≤ sample := by omega
        by_cases h3 : m ≤ N
        · obtain ⟨As, cs, rfl, ns⟩ := hd.dn
          obtain ⟨A1, c1, k1, n1⟩ := Geta.out j (by omega)
          obtain ⟨A2, c2, k2, n2⟩ := Getb.out m (by omega)
          have L1 := fun w' (hb' : Below wr.heap.size wr w') => bel_cell hb' (bel_cell hb3 k1)
          have L2 := fun w' (hb' : Below wr.heap.size wr w') => bel_cell hb' (bel_cell hb3 k2)
          have la := dgch_len (n := bad) (k := j) (by omega)
          have lb := dgch_len (n := N) (k := m) hN5
          have ls := dways_len (total := total) (bad := bad) (sample := sample) (k := j) hb ht (by omega)
          have lp := dg_mul (ch bad j) (ch N m)
          have hst : Hid (sumTo (wterm total bad sample) j + ch bad j * ch N m = sumTo (wterm total bad sample) (j + 1)) := Lib.hid (by rw [hNe.out, hme.out]; rfl)
          have cM := fun w' (hb' : Below wr.heap.size wr w') => rmul_any A1 c1 _ A2 c2 _ w' ((n1.on hb3).on hb') ((n2.on hb3).on hb') (by omega) (by omega)
          have cA := fun w' (hb' : Below wr.heap.size wr w') A c (hA : Dn w' A c (dg (ch bad j * ch N m))) => radd_any As cs _ A c _ w' (ns.on hb') hA (by omega) (by omega)
          simp only [dg_val] at cM cA
          simp only [hst.out] at cA
          have i1 : (j : Int) < (bad : Int) + 1 := by omega
          have i2 : (m : Int) < (N : Int) + 1 := by omega
          go_wp2_with fail
          go_region_held3 (fun w' => Below wr.heap.size wr w')
            (first | (exact (Below.refl _ _).drew) | (refine below_trans ?_ hx1; assumption) | (refine below_trans ?_ hx2; assumption))
            (first | (go_at_call 64; refine (cM _ ?hB).mono ?_; (case hB => assumption); rintro e y1 ⟨v1, rfl, b1, hx1⟩; obtain ⟨A3, c3, hv3, n3⟩ := b1.dn; rw [hv3]) | (go_at_call 88; refine (cA _ ?hB _ _ n3).mono ?_; (case hB => assumption); rintro e y2 ⟨v2, rfl, b2, hx2⟩))
          have B2 : Below wr.heap.size wr y2 := below_trans (below_trans (Below.refl _ _).drew hx1) hx2
          have s1 := (below_trans (Below.refl wr.heap.size wr).drew hx1).size
          clear cM cA L1 L2
          go_wp2_with fail
          go_roundw
          case rel => first | exact ⟨j + 1, by omega, by omega, by go_num, b2.down (by omega), hb3.trans (B2.mono hs3)⟩ | ((repeat apply Exists.intro); exact ⟨⟨j + 1, by omega, by omega, by go_num, b2.down (by omega), hb3.trans (B2.mono hs3)⟩, rfl⟩)
          case measure => (simp [intOf] <;> omega)
        · have hz : Hid (sumTo (wterm total bad sample) (j + 1) = sumTo (wterm total bad sample) j) := Lib.hid (by
            rw [sumTo, wterm_low (by have := hNe.out; have := hme.out; omega)]; rfl)
          go_wp2_with fail
          go_roundw
          case rel => first | exact ⟨j + 1, by omega, by omega, by go_num, by rw [hz.out]; exact hd, hb3⟩ | ((repeat apply Exists.intro); exact ⟨⟨j + 1, by omega, by omega, by go_num, by rw [hz.out]; exact hd, hb3⟩, rfl⟩)
          case measure => (simp [intOf] <;> omega)
      · obtain rfl : j = bad + 1 := by omega
        have hfin : Hid (sumTo (wterm total bad sample) (bad + 1) = waysN total bad sample seen) := Lib.hid (sum_all (.inr ⟨by omega, rfl⟩))
        go_wp2_with fail
        go_ret
        exact ⟨_, rfl, by rw [← hfin.out]; exact hd, hb1.trans ((hb2.trans (hb3.mono hb2.size)).mono hb1.size)⟩
    · obtain rfl : j = seen + 1 := by omega
      go_wp2_with fail
      go_ret
      exact ⟨_, rfl, hd, hb1.trans ((hb2.trans (hb3.mono hb2.size)).mono hb1.size)⟩

end Go.Proofs.YtdngehgjbledfaaGreat
