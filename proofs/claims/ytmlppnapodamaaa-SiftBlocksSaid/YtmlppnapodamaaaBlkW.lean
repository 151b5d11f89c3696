/- The walk of the statement SiftBlocks. For any numbers, size, sample and seed. -/
import Derived.Test.YtmlppnapodamaaaBlkB
import Derived.Test.YtmlppnapodamaaaPrmD
import Derived.Test.YtmlppnapodamaaaMatch
import Derived.Test.YtmlppnapodamaaaKnown
namespace Go.Proofs.Ytmlppnapodamaaa
open Go.RowKit
set_option linter.unusedVariables false
set_option linter.unusedSimpArgs false

theorem nb_le {l : List Int} {z : Int} (h : bkE l.length z = 0) : (bkL l z).length = l.length / z.toNat ∧ ∀ (r : Nat) (row : List Int), (bkL l z)[r]? = some row → row = (l.drop (r * z.toNat)).take z.toNat ∧ row.length = z.toNat ∧ r < l.length / z.toNat := by
  have e : bkL l z = blk l z.toNat (l.length / z.toNat) := by unfold bkL; rw [if_pos h]
  obtain ⟨z1, z2, n1⟩ := bk_ok h
  refine ⟨by rw [e, blk_len], fun r row hr => ?_⟩
  rw [e] at hr
  have hlt : r < l.length / z.toNat := by have := (List.getElem?_eq_some_iff.1 hr).1; rwa [blk_len] at this
  rw [blk_at hlt] at hr
  obtain rfl := Option.some.inj hr
  refine ⟨rfl, ?_, hlt⟩
  rw [List.length_take, List.length_drop]
  have h1 : (r + 1) * z.toNat ≤ l.length / z.toNat * z.toNat := Nat.mul_le_mul_right _ (by omega)
  have h2 := Nat.div_mul_le_self l.length z.toNat
  rw [Nat.add_mul, Nat.one_mul] at h1
  omega
theorem sm_len (s : Nat) (n k : Int) : (smL s n k).length ≤ 512 ∧ (rsL s n k).length ≤ 512 := by
  by_cases h : smE n k = 0
  · obtain ⟨n0, n1, k0, k1⟩ := smE_ok h
    unfold smL rsL
    rw [if_pos h, if_pos h]
    refine ⟨?_, Nat.le_trans (rst_len _ _) (by omega)⟩
    rw [smpL_len (by omega)]; omega
  · obtain ⟨_, h2, h3⟩ := sm_bad (s := s) h
    rw [h2, h3]; simp
set_option maxRecDepth 100000 in
set_option maxHeartbeats 8000000 in
theorem blocks_walk (A : Option Addr) (n c : Nat) (l : List Int) (z N K : Int) (sd : Nat) (v : World) (hn : l.length = n) (hA : Arr 1 encI v v.heap.size A l) (hc : n ≤ c) (hm : c ≤ maxLen) (hnil : A = none → c = 0) :
    Calls Try.prog 3 #[.slice A n c, .int .i64 z, .agg #[.int .i64 N, .int .i64 K, .int .u64 sd]] v fun e w' => e = .returned (.bool true) ∧ Below v.heap.size v w' := by
  have cK := fun w' => known_any w'
  have mm : c ≤ 9223372036854775807 := by unfold maxLen at hm; omega
  by_cases h1 : 300 < n ∨ (300 < N ∧ N ≤ 512)
  · have ways : decide (300 < (n : Int)) = true ∨ (decide (300 < (n : Int)) = false ∧ decide (300 < N) = true ∧ decide (N ≤ 512) = true) := by simp; omega
    clear h1
    rcases ways with d1 | ⟨d1, d2, d3⟩
    all_goals (
      go_enter Try.func3, Try.ntmps3
      go_wp2_with (go_at_call 8; refine (cK _).mono ?_; rintro e w5 ⟨rfl, hb5⟩)
      go_ret
      exact ⟨rfl, below_trans (below_alloc (Below.refl _ _) _) hb5⟩)
  have ways : decide (300 < (n : Int)) = false ∧ (decide (300 < N) = false ∨ (decide (300 < N) = true ∧ decide (N ≤ 512) = false)) := by
    simp at h1 ⊢; omega
  obtain ⟨d1, ways⟩ := ways
  have b0 := below_alloc (Below.refl v.heap.size v) (.cells #[.int .i64 N, .int .i64 K, .int .u64 sd] 25)
  have cB := Blocks_any A n c l z _ hn (hA.on b0) hc hm hnil
  have cR := fun w' (hb : Below v.heap.size v w') => rBlocks_any A n c l z w' hn (hA.on hb) hc hm hnil
  have Hn := Lib.hid hn
  have n3 : n ≤ 300 := by omega
  clear h1 hn
  rcases ways with d2 | ⟨d2, d3⟩
  all_goals (
    go_enter Try.func3, Try.ntmps3
    go_wp2_with fail
    refine cB.mono ?_
    rintro e w1 ⟨v1, it1, rfl, bk1, hb1⟩
    have q1 := below_trans b0 hb1
    have x0 : w1.cell? ⟨v.heap.size, 0, none⟩ = some (.int .i64 N) := bel_cell hb1 (new_cell rfl)
    have x1 : w1.cell? ⟨v.heap.size, 1, none⟩ = some (.int .i64 K) := bel_cell hb1 (new_cell rfl)
    have x2 : w1.cell? ⟨v.heap.size, 2, none⟩ = some (.int .u64 sd) := bel_cell hb1 (new_cell rfl)
    go_wp2_with fail
    refine (cR _ q1).mono ?_
    rintro e w2 ⟨v2, it2, rfl, bk2, hb2⟩
    have q2 := below_trans q1 hb2
    have bk1' := bk1.below hb2
    have y0 := bel_cell hb2 x0; have y1 := bel_cell hb2 x1; have y2 := bel_cell hb2 x2
    have G1 := Lib.hid (fun (r : Nat) (it : It) (row : List Int) (h : it1[r]? = some it) (h2 : (bkL l z)[r]? = some row) (g : Nat) (hg : it.enc.ownBlock = some g) => ((World.ownsRow.lt (bk1.row r it row h h2).1 g hg).2 : g < w1.heap.size))
    clear cB cR x0 x1 x2 y0 y1 y2 bk1
    have hl1 := bk1'.len
    have hl2 := bk2.len
    obtain ⟨A1, c1, rfl, lc1, mc1, _, _⟩ := bk1'.own.form (fun _ => rfl)
    obtain ⟨A2, c2, rfl, lc2, mc2, _, _⟩ := bk2.own.form (fun _ => rfl)
    rw [hl1] at lc1 bk1' ⊢
    rw [hl2] at lc2 bk2 ⊢
    obtain ⟨wb, hwb⟩ : ∃ wb, v.alloc (.cells #[.int .i64 N, .int .i64 K, .int .u64 sd] 25) = wb := ⟨_, rfl⟩
    have X0 : wb.cell? ⟨v.heap.size, 0, none⟩ = some (.int .i64 N) := by rw [← hwb]; exact new_cell rfl
    have X1 : wb.cell? ⟨v.heap.size, 1, none⟩ = some (.int .i64 K) := by rw [← hwb]; exact new_cell rfl
    have X2 : wb.cell? ⟨v.heap.size, 2, none⟩ = some (.int .u64 sd) := by rw [← hwb]; exact new_cell rfl
    rw [hwb] at b0 hb1 bk1'
    have qb : Below wb.heap.size wb w2 := below_trans hb1 hb2
    have B12 : wb.heap.size ≤ w1.heap.size := hb1.size
    clear hwb q1 q2 hb1
    by_cases hE : bkE l.length z = 0
    · obtain ⟨z1, z2, _⟩ := bk_ok hE
      obtain ⟨z, rfl⟩ := Int.eq_ofNat_of_zero_le (show 0 ≤ z by omega)
      obtain ⟨e1, e2⟩ := nb_le hE
      rw [Int.toNat_natCast] at e1 e2
      rw [hE]
      obtain ⟨L, hL⟩ : ∃ L, bkL l (z : Int) = L := ⟨_, rfl⟩
      rw [hL] at bk1' bk2 hl1 hl2 lc1 lc2 e1 e2 G1 ⊢
      obtain ⟨nb, hnb⟩ : ∃ nb, L.length = nb := ⟨_, rfl⟩
      rw [hnb] at bk1' bk2 hl1 hl2 lc1 lc2 e1 ⊢
      have hP : nb * z ≤ n := by rw [e1, ← Hn.out]; exact Nat.div_mul_le_self _ _
      have nb3 : nb ≤ 300 := by
        have : nb * 1 ≤ nb * z := Nat.mul_le_mul_left _ (by omega)
        omega
      obtain ⟨P, hPz⟩ : ∃ P, nb * z = P := ⟨_, rfl⟩
      have hPI : (nb : Int) * (z : Int) = (P : Int) := by rw [← hPz]; simp
      rw [hPz] at hP
      have E2 := Lib.hid e2
      have Hnb := Lib.hid hnb; have Hl1 := Lib.hid hl1; have Hl2 := Lib.hid hl2; have HPz := Lib.hid hPz
      clear e1 e2 hE hL hnb hl1 hl2 hPz
      go_wp2_with fail
      go_loopw [11] (fun iv wr => ∃ (i : Nat) (M : List (List Int)), iv = .int .i64 i ∧ i ≤ nb ∧ Hid (∀ r, i ≤ r → M[r]? = L[r]?) ∧ Blk wr wb.heap.size (.slice A1 nb c1) it1 M ∧ Blk wr w1.heap.size (.slice A2 nb c2) it2 L ∧ Below wb.heap.size wb wr) (fun iv _ => nb - (intOf iv).toNat)
      case atStart => exact ⟨0, L, rfl, Nat.zero_le _, Lib.hid (fun _ _ => rfl), bk1', bk2, qb⟩
      case round =>
        clear bk1' bk2 qb
        obtain ⟨i, M, rfl, hi, hM, k1, k2, hb⟩ := hrel
        obtain ⟨w6, rfl⟩ : ∃ w6, w6 = wr := ⟨_, rfl⟩
        rcases Nat.lt_or_ge i nb with hlt | hge
        · obtain ⟨row, hrow⟩ : ∃ row, L[i]? = some row := ⟨_, List.getElem?_eq_getElem (by rw [Hnb.out]; exact hlt)⟩
          obtain ⟨a, ha⟩ : ∃ a, it1[i]? = some a := ⟨_, List.getElem?_eq_getElem (by rw [Hl1.out]; exact hlt)⟩
          obtain ⟨b, hb'⟩ : ∃ b, it2[i]? = some b := ⟨_, List.getElem?_eq_getElem (by rw [Hl2.out]; exact hlt)⟩
          obtain ⟨rw1, rw2, rw3⟩ := E2.out i row hrow
          have hMi : M[i]? = some row := (hM.out i (Nat.le_refl _)).trans hrow
          have o1 := (k1.row i a row ha hMi).1
          have o2 := (k2.row i b row hb' hrow).1
          obtain ⟨g, cc, hve, hg1, hg2⟩ := own_ptr' o1 (by omega)
          obtain ⟨g', cc', hve', hg1', hg2'⟩ := own_ptr' o2 (by omega)
          have ha2 : a = ⟨some ⟨g, 0, none⟩, z, cc⟩ := by
            obtain ⟨x1, x2, x3⟩ := a
            simp [It.enc] at hve
            obtain ⟨h1, h2, h3⟩ := hve
            rw [h1, h2, h3, rw2]
          have hb2' : b = ⟨some ⟨g', 0, none⟩, z, cc'⟩ := by
            obtain ⟨x1, x2, x3⟩ := b
            simp [It.enc] at hve'
            obtain ⟨h1, h2, h3⟩ := hve'
            rw [h1, h2, h3, rw2]
          subst ha2
          subst hb2'
          obtain ⟨h1, c1', hv1, _, _⟩ := own_ptr' k1.own (by rw [Hl1.out]; omega)
          obtain ⟨h2, c2', hv2, _, _⟩ := own_ptr' k2.own (by rw [Hl2.out]; omega)
          rw [Hl1.out] at hv1
          rw [Hl2.out] at hv2
          cases hv1
          cases hv2
          have e1 : w6.cell? ⟨h1, i, none⟩ = some (.slice (some ⟨g, 0, none⟩) z cc) := Own.at1 (f := It.enc) k1.own Hl1.out ha
          have e2 : w6.cell? ⟨h2, i, none⟩ = some (.slice (some ⟨g', 0, none⟩) z cc') := Own.at1 (f := It.enc) k2.own Hl2.out hb'
          have gB := G1.out i _ row ha hrow g rfl
          obtain ⟨_, _, hq1, _, _, _, ar1⟩ := o1.form encI_len
          obtain ⟨_, _, hq2, _, _, _, ar2⟩ := o2.form encI_len
          injection hq1 with t1 t3 t4
          injection hq2 with t2 t5 t6
          clear t3 t4 t5 t6
          subst t1
          subst t2
          have cInt := fun (y : Later w6) => calls_later (Ints_same (some ⟨g, 0, none⟩) (some ⟨g', 0, none⟩) cc cc' row y.w (ar1.on y.2) (ar2.on y.2) (by omega))
          rw [rw2] at cInt
          have L1 := later_cell e1
          have L2 := later_cell e2
          have Ha := Lib.hid ha; have HMi := Lib.hid hMi; have Rw2 := Lib.hid rw2
          have hbs := hb.size
          have k1l := k1.len
          have K1l := Lib.hid k1l
          clear ar1 ar2 ha hb' hMi rw1 rw2 hrow o1 o2 e1 e2 hve hve' k1l
          go_wp2_with fail
          (refine wp_region_later (by kernel_rfl) (by kernel_rfl) ?_; (repeat (go_big_quiet_step (((go_at_call 11; exact cInt _))))); refine wpQuiet_nil ?_; rintro w7 ⟨⟨_, hb7⟩, rfl⟩)
          clear cInt L1 L2
          have m1 := k1.below hb7
          have m2 := k2.below hb7
          have q7 := below_trans hb hb7
          clear k1 k2 hb hb7
          go_wp2_with fail
          go_loopw [12] (fun kv wr => ∃ (k : Nat) (M' : List (List Int)) (r' : List Int), kv = .int .i64 k ∧ k ≤ z ∧ Hid (M'[i]? = some r') ∧ Hid (r'.length = z) ∧ Hid (∀ r, i < r → M'[r]? = L[r]?) ∧ Blk wr wb.heap.size (.slice (some ⟨h1, 0, none⟩) nb c1) it1 M' ∧ Blk wr w1.heap.size (.slice (some ⟨h2, 0, none⟩) nb c2) it2 L ∧ Below wb.heap.size wb wr) (fun kv _ => z - (intOf kv).toNat)
          case atStart => exact ⟨0, M, row, rfl, Nat.zero_le _, HMi, Rw2, Lib.hid (fun r hr => hM.out r (by omega)), m1, m2, q7⟩
          case round =>
            clear m1 m2 q7
            obtain ⟨k, M', r', rfl, hk, hMi', hr', hM', k1, k2, hb⟩ := hrel
            obtain ⟨w8, rfl⟩ : ∃ w8, w8 = wr := ⟨_, rfl⟩
            have e1 : w8.cell? ⟨h1, i, none⟩ = some (.slice (some ⟨g, 0, none⟩) z cc) := Own.at1 (f := It.enc) k1.own Hl1.out Ha.out
            rcases Nat.lt_or_ge k z with hkz | hkz
            · have o1 := (k1.row i _ r' Ha.out hMi'.out).1
              obtain ⟨x, hx⟩ : ∃ x, r'[k]? = some x := ⟨_, List.getElem?_eq_getElem (by rw [hr'.out]; exact hkz)⟩
              have cx : w8.cell? ⟨g, k, none⟩ = some (.int .i64 x) := Own.at1 (f := Value.int .i64) (cap := cc) o1 hr'.out hx
              have fx : w8.frozen? ⟨g, k, none⟩ = false := Own.fr1 (f := Value.int .i64) (cap := cc) o1 hr'.out k
              have st := k1.store (k := k) Ha.out hMi'.out (-1)
              have st2 := k2.keep (grown_setW w8 g k (.int .i64 (-1))) gB
              have hbz : Below wb.heap.size wb (w8.setCell ⟨g, k, none⟩ (.int .i64 (-1))) := hb.setCell (p := ⟨g, k, none⟩) hg1 _
              have hlM : i < M'.length := (List.getElem?_eq_some_iff.1 hMi'.out).1
              have A1 := Lib.hid (show (M'.set i (r'.set k (-1)))[i]? = some (r'.set k (-1)) by rw [List.getElem?_set_self hlM])
              have A2 := Lib.hid (show (r'.set k (-1)).length = z by rw [List.length_set]; exact hr'.out)
              have A3 := Lib.hid (show ∀ r, i < r → (M'.set i (r'.set k (-1)))[r]? = L[r]? from fun r hr => by rw [List.getElem?_set_ne (by omega)]; exact hM'.out r hr)
              have kzI : (k : Int) < (z : Int) := by omega
              clear hx o1
              go_wp2_with fail
              exact ⟨⟨k + 1, _, _, by go_num, by omega, A1, A2, A3, st, st2, hbz⟩, by simp [intOf]; omega⟩
            · obtain rfl : k = z := by omega
              go_wp2_with fail
              exact ⟨⟨i + 1, M', by go_num, by omega, Lib.hid (fun r hr => hM'.out r (by omega)), k1, k2, hb⟩, by simp [intOf]; omega⟩
        · obtain rfl : i = nb := by omega
          clear k1 lc1 mc1
          go_wp2_with fail
          go_loopw [13] (fun jv wr => ∃ j : Nat, jv = .int .i64 j ∧ j ≤ P ∧ Below w6.heap.size w6 wr) (fun jv _ => P - (intOf jv).toNat)
          case atStart => exact ⟨0, rfl, Nat.zero_le _, Below.refl _ _⟩
          case round =>
            obtain ⟨j, rfl, hj, hbj⟩ := hrel
            obtain ⟨w7, rfl⟩ : ∃ w7, w7 = wr := ⟨_, rfl⟩
            have q7 := below_trans hb hbj
            have k7 := k2.below hbj
            have vb := below_trans b0 q7
            rcases Nat.lt_or_ge j P with hjP | hjP
            · have zpos : 0 < z := by omega
              obtain ⟨q, hq⟩ : ∃ q, j / z = q := ⟨_, rfl⟩
              obtain ⟨r, hr⟩ : ∃ r, j % z = r := ⟨_, rfl⟩
              have hqr : q * z + r = j := by rw [← hq, ← hr, Nat.mul_comm]; exact Nat.div_add_mod _ _
              have hrz : r < z := by rw [← hr]; exact Nat.mod_lt _ zpos
              have hqi : q < i := by rw [← hq]; exact (Nat.div_lt_iff_lt_mul zpos).2 (by rw [HPz.out]; exact hjP)
              have f1 : (j : Int) / (z : Int) = (q : Int) := by rw [← hq]; simp
              have f2 : (j : Int) % (z : Int) = (r : Int) := by rw [← hr]; simp
              have f3 : (j : Int).tdiv (z : Int) = (q : Int) := by rw [← f1]; exact Int.tdiv_eq_ediv_of_nonneg (by omega)
              have f4 : (j : Int).tmod (z : Int) = (r : Int) := by rw [← f2]; exact Int.tmod_eq_emod_of_nonneg (by omega)
              obtain ⟨row, hrow⟩ : ∃ row, L[q]? = some row := ⟨_, List.getElem?_eq_getElem (by rw [Hnb.out]; exact hqi)⟩
              obtain ⟨b, hb'⟩ : ∃ b, it2[q]? = some b := ⟨_, List.getElem?_eq_getElem (by rw [Hl2.out]; exact hqi)⟩
              obtain ⟨rw1, rw2, rw3⟩ := E2.out q row hrow
              have o2 := (k7.row q b row hb' hrow).1
              obtain ⟨g', cc', hve', hg1', hg2'⟩ := own_ptr' o2 (by omega)
              have hb2' : b = ⟨some ⟨g', 0, none⟩, z, cc'⟩ := by
                obtain ⟨x1, x2, x3⟩ := b
                simp [It.enc] at hve'
                obtain ⟨h1, h2, h3⟩ := hve'
                rw [h1, h2, h3, rw2]
              subst hb2'
              obtain ⟨h2, c2', hv2, _, _⟩ := own_ptr' k7.own (by rw [Hl2.out]; omega)
              rw [Hl2.out] at hv2
              cases hv2
              obtain ⟨x, hx⟩ : ∃ x, l[j]? = some x := ⟨_, List.getElem?_eq_getElem (by rw [Hn.out]; omega)⟩
              have hxr : row[r]? = some x := by rw [rw1, List.getElem?_take_of_lt hrz, List.getElem?_drop, hqr]; exact hx
              obtain ⟨ab, ao, rfl, hab, hcl⟩ := (hA.on vb) (by rintro rfl; simp at hx)
              have e0 : w7.cell? ⟨ab, ao + j, none⟩ = some (.int .i64 x) := by have := hcl j x hx 0 _ rfl; simpa using this
              have e2 : w7.cell? ⟨h2, q, none⟩ = some (.slice (some ⟨g', 0, none⟩) z cc') := Own.at1 (f := It.enc) k7.own Hl2.out hb'
              have e3 : w7.cell? ⟨g', r, none⟩ = some (.int .i64 x) := Own.at1 (f := Value.int .i64) (cap := cc') o2 rw2 hxr
              have s1 : (j : Int) < (n : Int) := by omega
              have s2 : (q : Int) < (i : Int) := by omega
              have s3 : (r : Int) < (z : Int) := by omega
              have s4 : (0 : Int) ≤ (q : Int) := by omega
              have s5 : (0 : Int) ≤ (r : Int) := by omega
              have s6 : (0 : Int) ≤ (j : Int) := by omega
              have s7 : (z : Int) ≠ 0 := by omega
              have dj : decide ((j : Int) < (P : Int)) = true := by simp; omega
              have xx : (x == x) = true := by simp
              clear hq hr hqr hrow hb' rw1 rw2 rw3 o2 hx hxr hcl hve' k7 xx
              go_wp2_with fail
              go_quiet (fail)
              go_wp2_with fail
              exact ⟨⟨j + 1, by go_num, by omega, below_trans hbj ⟨rfl, rfl, rfl, Nat.le_refl _, fun _ _ => rfl⟩⟩, by simp [intOf]; omega⟩
            · obtain rfl : j = P := by omega
              have y0 := bel_cell q7 X0
              have y1 := bel_cell q7 X1
              have y2 := bel_cell q7 X2
              go_wp2_with fail
              refine (SampleS_any sd N K _).mono ?_
              rintro e w8 ⟨v3, v4, rfl, o3, o4, hb8⟩
              have z0 := bel_cell hb8 y0; have z1 := bel_cell hb8 y1; have z2' := bel_cell hb8 y2
              clear y0 y1 y2
              go_wp2_with fail
              refine (rSampleS_any sd N K _).mono ?_
              rintro e w9 ⟨v5, v6, rfl, o5, o6, hb9⟩
              obtain ⟨A3, c3, rfl, _, _, _, ar3⟩ := (o3.below hb9).form encI_len
              obtain ⟨A4, c4, rfl, _, _, _, ar4⟩ := (o4.below hb9).form encI_len
              obtain ⟨A5, c5, rfl, _, _, _, ar5⟩ := o5.form encI_len
              obtain ⟨A6, c6, rfl, _, _, _, ar6⟩ := o6.form encI_len
              obtain ⟨sl1, sl2⟩ := sm_len sd N K
              have vz := below_trans (below_trans vb hb8) hb9
              have cI1 := Ints_same A3 A5 c3 c5 (smL sd N K) w9 ar3 ar5 (by omega)
              have cI2 := fun w' (hb : Below w9.heap.size w9 w') => Ints_same A4 A6 c4 c6 (rsL sd N K) w' (ar4.on hb) (ar6.on hb) (by omega)
              generalize smL sd N K = Xs at *
              generalize rsL sd N K = Ys at *
              clear o3 o4 o5 o6 z0 z1 z2' ar3 ar4 ar5 ar6
              go_wp2_with fail
              refine cI1.mono ?_
              rintro e w10 ⟨rfl, hb10⟩
              go_wp2_with fail
              refine (cI2 _ hb10).mono ?_
              rintro e w11 ⟨rfl, hb11⟩
              go_wp2_with (go_at_call 8; refine (cK _).mono ?_; rintro e w12 ⟨rfl, hb12⟩)
              go_ret
              exact ⟨rfl, below_trans (below_trans (below_trans vz hb10) hb11) hb12⟩
    · have hL : bkL l z = [] := bk_bad rfl hE
      rw [hL] at bk1' bk2 hl1 hl2 lc1 lc2 ⊢
      simp only [List.length_nil] at bk1' bk2 lc1 lc2 ⊢
      have y0 := bel_cell qb X0
      have y1 := bel_cell qb X1
      have y2 := bel_cell qb X2
      have vb := below_trans b0 qb
      generalize bkE l.length z = E at *
      clear bk1' bk2 hL hl1 hl2 G1
      go_wp2_with fail
      go_loopw [11] (fun iv wr => iv = .int .i64 0 ∧ wr = w2) (fun _ _ => 0)
      case atStart => exact ⟨rfl, rfl⟩
      case round =>
        obtain ⟨rfl, rfl⟩ := hrel
        go_wp2_with fail
        go_loopw [13] (fun iv wr' => iv = .int .i64 0 ∧ wr' = wr) (fun _ _ => 0)
        case atStart => exact ⟨rfl, rfl⟩
        case round =>
          obtain ⟨rfl, hw⟩ := hrel
          subst hw
          go_wp2_with fail
          refine (SampleS_any sd N K _).mono ?_
          rintro e w8 ⟨v3, v4, rfl, o3, o4, hb8⟩
          have z0 := bel_cell hb8 y0; have z1 := bel_cell hb8 y1; have z2' := bel_cell hb8 y2
          clear y0 y1 y2
          go_wp2_with fail
          refine (rSampleS_any sd N K _).mono ?_
          rintro e w9 ⟨v5, v6, rfl, o5, o6, hb9⟩
          obtain ⟨A3, c3, rfl, _, _, _, ar3⟩ := (o3.below hb9).form encI_len
          obtain ⟨A4, c4, rfl, _, _, _, ar4⟩ := (o4.below hb9).form encI_len
          obtain ⟨A5, c5, rfl, _, _, _, ar5⟩ := o5.form encI_len
          obtain ⟨A6, c6, rfl, _, _, _, ar6⟩ := o6.form encI_len
          obtain ⟨sl1, sl2⟩ := sm_len sd N K
          have vz := below_trans (below_trans vb hb8) hb9
          have cI1 := Ints_same A3 A5 c3 c5 (smL sd N K) w9 ar3 ar5 (by omega)
          have cI2 := fun w' (hb : Below w9.heap.size w9 w') => Ints_same A4 A6 c4 c6 (rsL sd N K) w' (ar4.on hb) (ar6.on hb) (by omega)
          generalize smL sd N K = Xs at *
          generalize rsL sd N K = Ys at *
          clear o3 o4 o5 o6 z0 z1 z2' ar3 ar4 ar5 ar6
          go_wp2_with fail
          refine cI1.mono ?_
          rintro e w10 ⟨rfl, hb10⟩
          go_wp2_with fail
          refine (cI2 _ hb10).mono ?_
          rintro e w11 ⟨rfl, hb11⟩
          go_wp2_with (go_at_call 8; refine (cK _).mono ?_; rintro e w12 ⟨rfl, hb12⟩)
          go_ret
          exact ⟨rfl, below_trans (below_trans (below_trans vz hb10) hb11) hb12⟩
)

end Go.Proofs.Ytmlppnapodamaaa
