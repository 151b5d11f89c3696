/- The walk of the statement DistilOnce. For any bits and any steps. -/
import Derived.Test.YtiphhkfmemkldaaDoorOncAll
import Derived.Test.YtiphhkfmemkldaaDoorMixD
import Derived.Test.YtiphhkfmemkldaaDoorKnownD
namespace Go.Proofs.YtiphhkfmemkldaaDoor
open Go.RowKit Go.Maps
set_option linter.unusedVariables false
set_option linter.unusedSimpArgs false

theorem add_zero_zero : ((0 : Int) + 0 != 0) = false := rfl
set_option maxRecDepth 100000 in
set_option maxHeartbeats 16000000 in
theorem once_walk (A : Option Addr) (cA : Nat) (bits : List Bool) (C : Option Addr) (cC : Nat) (st : List Nat) (v : World) (ht : Tab v) (hA : Arr 1 encB v v.heap.size A bits) (lA : bits.length ≤ cA) (mA : cA ≤ maxLen) (hC : Arr 1 enc8 v v.heap.size C st) (lC : st.length ≤ cC) (mC : cC ≤ maxLen) (h8 : ∀ x ∈ st, x < 256) :
    Calls Tryd.prog 4 #[.slice A bits.length cA, .slice C st.length cC] v fun e w' => e = .returned (.bool true) ∧ Below v.heap.size v w' := by
  have htl := ht.lt
  have cK := fun w' (hb : Below v.heap.size v w') => known_any w' (ht.on hb htl)
  have hl63 : bits.length ≤ 9223372036854775807 := Nat.le_trans lA (Nat.le_trans mA (by decide))
  have hs63 : st.length ≤ 9223372036854775807 := Nat.le_trans lC (Nat.le_trans mC (by decide))
  by_cases h1 : bits.length < 400 ∨ 60 < st.length
  · have ways : (decide ((bits.length : Int) < 400) = true) ∨ (decide ((bits.length : Int) < 400) = false ∧ decide (60 < (st.length : Int)) = true) := by simp; omega
    clear h1
    rcases ways with d1 | ⟨d1, d2⟩
    all_goals (
      go_enter Tryd.func4, Tryd.ntmps4
      go_wp2_with (go_at_call 10; refine (cK _ (Below.refl _ _)).mono ?_; rintro e w5 ⟨rfl, hb5⟩)
      go_ret
      exact ⟨rfl, hb5⟩)
  have d1 : decide ((bits.length : Int) < 400) = false := by simp; omega
  have d2 : decide (60 < (st.length : Int)) = false := by simp; omega
  obtain ⟨ab, ao, rfl, hab, _⟩ := hA (by rintro rfl; simp at h1)
  obtain ⟨i0, hi, hz0, hz1, hz2⟩ := info_parts bool_info3
  have Hi := Lib.hid hi; have Hz0 := Lib.hid hz0; have Hz1 := Lib.hid hz1; have Hz2 := Lib.hid hz2
  clear hi hz0 hz1 hz2
  have hB : (bits.take 400).length = 400 := by simp; omega
  have cP := fun w' (hb : Below v.heap.size v w') => NewPool_in 8 (.inl rfl) _ cA (bits.take 400) w' (arr_take (hA.on hb) 400) (fun h => by cases h) (by omega) mA (by omega)
  rw [hB] at cP
  have hAl : 400 ≤ bits.length := by omega
  have hcA : (400 : Int) ≤ (cA : Int) := by omega
  have hpl : 400 ≤ cA := by omega
  go_enter Tryd.func4, Tryd.ntmps4
  go_wp2_with fail
  refine (cP _ (Below.refl _ _)).mono ?_
  rintro e w1 ⟨ba, nba, mba, rfl, pa, hb1⟩
  go_wp2_with fail
  refine (cP _ hb1).mono ?_
  rintro e w2 ⟨bb, nbb, mbb, rfl, pb, hb2⟩
  have q2 := below_trans hb1 hb2
  have pa2 := pa.below hb2
  clear pa cP
  go_wp2_with (at_make; refine wpList_mk rfl _ _ 24 rfl 4 i0 _ 1 Tryd.underlying24 Hi.out Hz0.out Hz1.out Hz2.out rfl (fun b : Bool => Value.bool b) false rfl _ _ _ _ 25 rfl rfl rfl rfl (by omega) (by unfold maxLen; omega) ?_; intro w3 own3 hb3)
  have L1 := w1.heap.size
  obtain ⟨L, hL⟩ : ∃ L, w1.heap.size = L := ⟨_, rfl⟩
  obtain ⟨H, hH⟩ : ∃ H, w2.heap.size = H := ⟨_, rfl⟩
  rw [hL] at pa2 pb
  rw [hH] at pb own3 hb3 ⊢
  have HLH : L ≤ H := by rw [← hL, ← hH]; exact hb2.size
  have HvL : v.heap.size ≤ L := by rw [← hL]; exact hb1.size
  have pa3 := pa2.below (by rw [hH]; exact hb3)
  have pb3 := pb.below (by rw [hH]; exact hb3)
  have q3 : Below v.heap.size v w3 := q2.trans (hb3.mono (by omega))
  have H3 : H ≤ w3.heap.size := by rw [← hH]; exact hb3.size
  generalize hBt : bits.take 400 = Bt at *
  have HBt := Lib.hid hBt
  clear hBt pa2 pb hL hH
  obtain ⟨j0, bi, bz0, bz1, bz2⟩ := info_parts bools_info
  have Bi := Lib.hid bi; have Bz0 := Lib.hid bz0; have Bz1 := Lib.hid bz1; have Bz2 := Lib.hid bz2
  obtain ⟨u0, ui, uz0, uz1, uz2⟩ := info_parts onc_u64
  have Ui := Lib.hid ui; have Uz0 := Lib.hid uz0; have Uz1 := Lib.hid uz1; have Uz2 := Lib.hid uz2
  obtain ⟨n0, ni, nz0, nz1, nz2⟩ := info_parts onc_int
  have Ni := Lib.hid ni; have Nz0 := Lib.hid nz0; have Nz1 := Lib.hid nz1; have Nz2 := Lib.hid nz2
  clear bi bz0 bz1 bz2 ui uz0 uz1 uz2 ni nz0 nz1 nz2
  go_loopw [9, 10, 11, 13] (fun vs vt vn i wr => ∃ (k : Nat) (its : List It) (ys tg ns ub : List Nat) (op : List Bool), i = .int .i64 k ∧ k ≤ 70 ∧ Hid (OncI Bt ys tg ns ub op) ∧
    Bun v wr L H ba nba mba bb nbb mbb Bt (evL ys.length) ub vs vt vn (.slice (some ⟨H, 0, none⟩) 25 25) its ys tg ns op) (fun _ _ _ i _ => 100 - (intOf i).toNat)
  case atStart =>
    refine ⟨0, [], [], [], [], [], List.replicate 25 false, rfl, by decide, Lib.hid ⟨by decide, by simp, rfl, by simp, rfl, by simp, by simp, fun n hn => ?_⟩, Four.nil own3, pa3, pb3, q3, H3, HvL, HLH⟩
    rw [List.getElem?_replicate, if_pos hn]; simp
  case round =>
    obtain ⟨k, its, ys, tg, ns, ub, op, rfl, hk, inv, bun⟩ := hrel
    obtain ⟨w6, rfl⟩ : ∃ w6, w6 = wr := ⟨_, rfl⟩
    clear own3 hb3 pa3 pb3 q3 H3
    have hb := bun.hb
    by_cases hlt : k + 1 < st.length
    · have d3 : decide (((k : Int) + 1) < (st.length : Int)) = true := by simp; omega
      obtain ⟨cb, co, x, rfl, hcb, hx, cx⟩ := hC.u8 (k := k) (by omega) hb
      obtain ⟨cb', co', y, hC', hcb', hy, cy⟩ := hC.u8 (k := k + 1) (by omega) hb
      cases hC'
      have y256 := h8 y (List.mem_of_getElem? hy.out)
      by_cases hx3 : x % 3 = 0
      · have e3 : ((x : Int) % 3 == 0) = true := by simp; omega
        have cN := Next_pool ba nba mba 8 Bt (evL ys.length) 0 w6 bun.pa.p
        by_cases hj : 25 ≤ 2 * ys.length
        · have f1 : nxE 8 Bt (evL ys.length) 0 = 14 := by unfold nxE; rw [hB]; simp [evL_next]; omega
          have f2 : nxI 8 Bt (evL ys.length) 0 = 0 := by unfold nxI; rw [f1]; rfl
          rw [f1, f2] at cN
          clear f1 f2
          go_wp2_with (go_at_call 12; refine cN.mono ?_; rintro e w7 ⟨rfl, hb7⟩)
          exact ⟨⟨k + 2, its, ys, tg, ns, ub, op, by go_num, by omega, inv, bun.below hb7⟩, by simp [intOf]; omega⟩
        · have f1 : nxE 8 Bt (evL ys.length) 0 = 0 := by unfold nxE; rw [hB]; simp [evL_next]; omega
          have f2 : nxI 8 Bt (evL ys.length) 0 = 2 * ys.length := by unfold nxI; rw [f1]; exact evL_next _
          rw [f1, f2] at cN
          clear f1 f2
          have hnm : ¬ 2 * ys.length ∈ evL ys.length := fun h => by
            obtain ⟨i, h1, h2⟩ := (evL_mem _ _).1 h
            omega
          have hnm2 : 2 * ys.length ∈ evL (ys.length + 1) := (evL_mem _ _).2 ⟨ys.length, by omega, rfl⟩
          obtain ⟨_, s2, s3⟩ := once_seal hB (u := evL ys.length) (n := 2 * ys.length) (by omega) (numL_len 8 y)
          obtain ⟨t1, _, _⟩ := once_seal hB (u := evL (ys.length + 1)) (n := 2 * ys.length) (by omega) (numL_len 8 y)
          have s2' := s2 hnm
          have t1' := t1 hnm2
          obtain ⟨T, hT⟩ : ∃ T, plT 8 Bt ((2 * ys.length : Nat) : Int) (numL y 8) = T := ⟨_, rfl⟩
          have HT := Lib.hid hT
          obtain ⟨N, hN⟩ : ∃ N, 2 * ys.length = N := ⟨_, rfl⟩
          have HN := Lib.hid hN
          have N24 : N ≤ 24 := by omega
          have hev : N :: evL ys.length = evL (ys.length + 1) := by rw [← hN]; rfl
          have cS1 := fun A8 c8 w8 (p : PoolAt w8 ba nba mba 8 Bt (evL ys.length)) (ar : Arr 1 encB w8 w8.heap.size A8 (numL y 8)) (l8 : 8 ≤ c8) (m8 : c8 ≤ maxLen) => Seal_any ba nba mba 8 Bt (evL ys.length) (N : Int) A8 c8 (numL y 8) w8 p ar (by rw [numL_len]; exact l8) m8
          have cS2 := fun A8 c8 w8 (p : PoolAt w8 ba nba mba 8 Bt (evL (ys.length + 1))) (ar : Arr 1 encB w8 w8.heap.size A8 (numL y 8)) (l8 : 8 ≤ c8) (m8 : c8 ≤ maxLen) => Seal_any ba nba mba 8 Bt (evL (ys.length + 1)) (N : Int) A8 c8 (numL y 8) w8 p ar (by rw [numL_len]; exact l8) m8
          rw [hN] at s2' t1' hT cN
          simp only [s2', hT, numL_len, Int.toNat_natCast, hev, ↓reduceIte] at cS1
          have n160 : ¬ ((16 : Int) = 0) := by decide
          simp only [t1', numL_len, if_neg n160] at cS2
          have il := inv.out
          have lits : its.length = ys.length := bun.f.len
          obtain ⟨As, cs, hvs, _, _, _, _⟩ := bun.f.os.form (fun _ => rfl)
          subst hvs
          rw [lits] at bun ⊢
          have Lits := Lib.hid lits
          have lits13 : its.length ≤ 13 := by rw [lits]; exact il.len
          have ys13 : ys.length ≤ 13 := il.len
          have g1 : ((N : Int) != 2 * (ys.length : Int)) = false := by simp; omega
          have g2 : decide ((25 : Int) ≤ (N : Int)) = false := by simp; omega
          clear lits s2 s3 t1 s2' t1' hT hN hnm hnm2 hev hj
          go_wp2_with fail
          refine cN.mono ?_
          rintro e w7 ⟨rfl, hb7⟩
          have bun7 := bun.below hb7
          have cy7 := bel_cell hb7 cy
          have cNu := Number_any y 8 w7 (by decide) (by omega)
          clear cN cy cx
          go_wp2_with fail
          refine cNu.mono ?_
          rintro e w8 ⟨v8, rfl, own8, hb8⟩
          have bun8 := bun7.below hb8
          have fr8 := Free.new bun7 own8
          obtain ⟨A8, c8, hv8, l8, m8, _, ar8⟩ := own8.form encB_len
          rw [numL_len] at hv8 l8
          subst hv8
          clear cNu
          go_wp2_with fail
          refine (cS1 A8 c8 w8 bun8.pa.p ar8 l8 m8).mono ?_
          rintro e w9 ⟨rfl, hres⟩
          simp only [ne_eq, not_true_eq_false, false_and, true_and, false_or] at hres
          obtain ⟨p9, g9⟩ := hres
          have bun9 := bun8.sealA g9 p9
          have fr9 := fr8.keep g9 (fun g e => by cases e; have := bun8.pa.m1; have := bun8.lh; omega)
          have ar9 := own_arr fr9.o
          go_wp2_with fail
          refine (cS2 A8 c8 w9 bun9.pa.p ar9 l8 m8).mono ?_
          rintro e w10 ⟨rfl, hres⟩
          have hb10 : Below w9.heap.size w9 w10 := by
            rcases hres with ⟨_, h⟩ | ⟨h, _⟩
            · exact h
            · exact (n160 h).elim
          clear hres cS1 cS2 n160
          have bun10 := bun9.below hb10
          have fr10 := fr9.below hb10
          have bunB := bun10.below (below_alloc (Below.refl _ _) (.cells #[.slice A8 8 c8] 24))
          have frB := fr10.below (below_alloc (Below.refl _ _) (.cells #[.slice A8 8 c8] 24))
          have hcB := cellS w10 A8 8 c8 24
          have by1 : (its.length + 1) * 24 ≤ 140737488355328 := by omega
          have by2 : (tg.length + 1) * 8 ≤ 140737488355328 := by have := il.tl; have := il.len; omega
          have by3 : (ns.length + 1) * 8 ≤ 140737488355328 := by have := il.nl; have := il.len; omega
          have hfin := Lib.hid (il.seal y256 HN.out HT.out N24)
          clear il
          go_wp2_with (first
            | (at_builtin; refine wpList_snocG rfl _ _ 23 rfl H 24 j0 _ 24 Tryd.underlying23 Bi.out Bz0.out Bz1.out Bz2.out rfl (enc := fun x => [It.enc x]) _ its ⟨A8, 8, c8⟩ rfl bunB.f.os rfl hcB rfl (It.one _) by1 (by decide) bunB.hs ?_; intro v11 w11 own11 hg11 hat11; have bun11 := bunB.pushS (y := y) hg11 hat11 own11 frB; have bunC := bun11.below (below_alloc (Below.refl _ _) (.cells #[.int .u64 T] 26)); have hcC := cellU w11 T 26)
            | (at_builtin; refine wpList_snocG rfl _ _ 35 rfl H 26 u0 _ 8 Tryd.underlying35 Ui.out Uz0.out Uz1.out Uz2.out rfl (enc := encU) _ tg T rfl bunC.f.ot rfl hcC rfl (encU_one _) by2 (by decide) bunC.hs ?_; intro v12 w12 own12 hg12 hat12; have bun12 := bunC.pushT hg12 hat12 own12; have bunD := bun12.below (below_alloc (Below.refl _ _) (.cells #[.int .i64 N] 3)); have hcD := cellN w12 N 3)
            | (at_builtin; refine wpList_snocG rfl _ _ 36 rfl H 3 n0 _ 8 Tryd.underlying36 Ni.out Nz0.out Nz1.out Nz2.out rfl (enc := encN) _ ns N rfl bunD.f.on_ rfl hcD rfl (encN_one _) by3 (by decide) bunD.hs ?_; intro v13 w13 own13 hg13 hat13; have bun13 := bunD.pushN hg13 hat13 own13))
          exact ⟨⟨k + 2, its ++ [⟨A8, 8, c8⟩], ys ++ [y], tg ++ [T], ns ++ [N], ub, op, by go_num, by omega, hfin, by rw [List.length_append]; exact bun13⟩, by simp [intOf]; omega⟩
      · have e3 : ((x : Int) % 3 == 0) = false := by simp; omega
        have lits : its.length = ys.length := bun.f.len
        have il := inv.out
        have ys13 : ys.length ≤ 13 := il.len
        by_cases hj : ys.length = 0
        · have hi0 : its = [] := List.eq_nil_of_length_eq_zero (by omega)
          obtain ⟨As, cs, hvs, _, _, _, _⟩ := bun.f.os.form (fun _ => rfl)
          subst hvs
          rw [show its.length = 0 from by omega] at bun ⊢
          clear lits hi0
          go_wp2_with fail
          exact ⟨⟨k + 2, its, ys, tg, ns, ub, op, by go_num, by omega, inv, bun⟩, by simp [intOf]; omega⟩
        · obtain ⟨gs, cs, hvs, hs1, hs2⟩ := own_ptr bun.f.os (by rw [lits]; omega)
          subst hvs
          obtain ⟨K, hK, hK2⟩ : ∃ K : Nat, (y : Int) % (ys.length : Int) = (K : Int) ∧ K < ys.length := ⟨y % ys.length, by simp, Nat.mod_lt _ (by omega)⟩
          have hKt : (y : Int).tmod (ys.length : Int) = (K : Int) := by rw [← hK]; exact Int.tmod_eq_emod_of_nonneg (by omega)
          obtain ⟨it, hit⟩ : ∃ it, its[K]? = some it := ⟨_, List.getElem?_eq_getElem (by omega)⟩
          obtain ⟨z, hz⟩ : ∃ z, ys[K]? = some z := ⟨_, List.getElem?_eq_getElem (by omega)⟩
          obtain ⟨r1, r2, r3, r4, r5⟩ := bun.f.rows K it z hit hz
          have cRow := Own.at1 (f := It.enc) bun.f.os rfl hit
          obtain ⟨Ar, cr, hve, lr, mr, nr, arr⟩ := r1.form encB_len
          rw [numL_len] at hve lr
          rw [hve] at cRow r2 r3 r4 r5
          rw [lits] at bun ⊢
          have Lits := Lib.hid lits
          have ln0 : (ys.length : Int) ≠ 0 := by omega
          clear lits hK
          obtain ⟨gn, cn, hvn, hn1, hn2⟩ := own_ptr bun.f.on_ (by rw [il.nl]; omega)
          subst hvn
          obtain ⟨gt, ct, hvt, ht1, ht2⟩ := own_ptr bun.f.ot (by rw [il.tl]; omega)
          subst hvt
          obtain ⟨N, hN⟩ : ∃ N, 2 * K = N := ⟨_, rfl⟩
          have HN := Lib.hid hN
          have N24 : N ≤ 24 := by omega
          have hT0 := il.ta K z hz
          have hN0 := il.na K hK2
          rw [hN] at hT0 hN0
          obtain ⟨T, hT⟩ : ∃ T, plT 8 Bt ((N : Nat) : Int) (numL z 8) = T := ⟨_, rfl⟩
          have HT := Lib.hid hT
          rw [hT] at hT0
          have cNum : w6.cell? ⟨gn, K, none⟩ = some (.int .i64 (N : Int)) := Own.at1 (f := fun n : Nat => Value.int .i64 (n : Int)) bun.f.on_ rfl hN0
          have cTag : w6.cell? ⟨gt, K, none⟩ = some (.int .u64 (T : Int)) := Own.at1 (f := fun n : Nat => Value.int .u64 (n : Int)) bun.f.ot rfl hT0
          have lnl := il.nl
          have ltl := il.tl
          rw [lnl, ltl] at bun ⊢
          have Lnl := Lib.hid lnl
          have Ltl := Lib.hid ltl
          have cO := fun w' M mc (m' : List Bool) (p : PoolAt w' bb nbb mbb 8 Bt ub) (ar : Arr 1 encB w' w'.heap.size M m') (l8 : m'.length ≤ mc) (m8 : mc ≤ maxLen) => Open_any bb nbb mbb 8 Bt ub (N : Int) M mc m' T w' p ar l8 m8
          clear lnl ltl hT hT0 hN0 hN
          by_cases hx2 : x % 3 = 2
          · have e4 : ((x : Int) % 3 == 2) = true := by simp; omega
            have oe := own_empty (α := Bool) (sz := 1) (enc := encB) w6 w6.heap.size 4 (Nat.le_refl _)
            have oA := arr.keep (below_alloc (Below.refl _ _) (.cells #[] 4))
            have oby : (([] : List Bool).length + (numL z 8).length) * 1 ≤ 140737488355328 := by rw [numL_len]; decide
            have osz : w6.heap.size ≤ (w6.alloc (.cells #[] 4)).heap.size := by simp
            have hl8 : 0 < (numL z 8).length := by rw [numL_len]; decide
            go_wp2_with (at_builtin; refine wpList_app rfl _ _ 24 rfl w6.heap.size 4 i0 _ 1 1 Tryd.underlying24 Hi.out Hz0.out Hz1.out Hz2.out rfl (by decide) encB_len encB_one _ ([] : List Bool) (numL z 8) Ar cr w6.heap.size rfl oe rfl oA nr oby (by decide) osz ?_; intro v7 w7 own7 hb7; rw [List.nil_append] at own7; have q7 : Below w6.heap.size w6 w7 := (below_alloc (Below.refl _ _) _).trans hb7; have bun7 := bun.below q7; have fr7 := Free.new bun own7; have cx7 := bel_cell q7 cx; obtain ⟨gm, cm, hv7, hm1, hm2⟩ := own_ptr own7 hl8; rw [numL_len] at hv7; subst hv7; obtain ⟨b0, hb0⟩ : ∃ b0, (numL z 8)[0]? = some b0 := ⟨_, List.getElem?_eq_getElem hl8⟩; have m0 := Own.at1 (f := Value.bool) own7 (numL_len 8 z) hb0; have m00 := Own.fr1 (f := Value.bool) own7 (numL_len 8 z) 0)
            have own8 : Own (w7.setCell ⟨gm, 0, none⟩ (.bool (!b0))) w6.heap.size 4 1 encB (.slice (some ⟨gm, 0, none⟩) 8 cm) ((numL z 8).set 0 (!b0)) := Own.set1 (f := Value.bool) own7 (numL_len 8 z) 0 (!b0)
            have q8 : Below w6.heap.size w6 (w7.setCell ⟨gm, 0, none⟩ (.bool (!b0))) := q7.grown (grown_setCell w7 gm 0 _) q7.size (fun g e => by cases e; exact hm1)
            generalize w7.setCell ⟨gm, 0, none⟩ (.bool (!b0)) = w8 at *
            have bun8 := bun.below q8
            have fr8 := Free.new bun own8
            have cN8 := bel_cell q8 cNum
            have cT8 := bel_cell q8 cTag
            have hml : ((numL z 8).set 0 (!b0)).length = 8 := by rw [List.length_set]; exact numL_len 8 z
            generalize (numL z 8).set 0 (!b0) = m' at *
            have hSd : w8.drew.cell? ⟨gn, K, none⟩ = some (.int .i64 (N : Int)) ∧ w8.drew.cell? ⟨gt, K, none⟩ = some (.int .u64 (T : Int)) := ⟨cN8, cT8⟩
            have bunD := bun8.below (Below.refl _ _).drew
            have frD := fr8.below (Below.refl _ _).drew
            obtain ⟨A8, c8, hv8, l8, m8, _, ar8⟩ := frD.o.form encB_len
            rw [hml] at hv8 l8
            cases hv8
            have cOD := cO w8.drew (some ⟨gm, 0, none⟩) cm m' bunD.pb.p ar8 (by rw [hml]; exact l8) m8
            rw [hml] at cOD
            clear cO ar8 l8 m8 own7 q7 bun7 fr7 m0 m00 cx7 cNum cTag oe oA
            have oE : opE 8 Bt ub ((N : Nat) : Int) m' T = (if N ∈ ub then 16 else if hashN 8 (pKey 8 Bt N) m' = hashN 8 (pKey 8 Bt N) (numL z 8) then 0 else 15) := by rw [← HT.out]; exact once_open hB (by omega) (numL_len 8 z) hml
            obtain ⟨E, hE⟩ : ∃ E, opE 8 Bt ub ((N : Nat) : Int) m' T = E := ⟨_, rfl⟩
            rw [hE] at cOD oE
            have HE := Lib.hid oE
            have mH : mbb < H := by have := bunD.pb.m1; omega
            have gnm : gn ≠ mbb := by omega
            have gtm : gt ≠ mbb := by omega
            clear hE oE
            refine wp_region_held_drew (S := fun w' => w'.cell? ⟨gn, K, none⟩ = some (.int .i64 (N : Int)) ∧ w'.cell? ⟨gt, K, none⟩ = some (.int .u64 (T : Int))) (by kernel_rfl) hSd (fun hHeld => ?_)
            obtain ⟨s1, s2⟩ := hSd
            (refine wpAnyH_take (i := 0) (v := ?_) rfl (by kernel_rfl) (by kernel_rfl) (by kernel_rfl) (fun _ _ _ h => h) (Or.inl ⟨by rfl, ?_⟩) (by assumption) ?_; rotate_left 1; (focus (intro wz hSz; (try dsimp only at hSz); go_simp; (try with_reducible rfl))); (try simp only [Act.put, List.setIfInBounds_toArray, List.set_cons_zero, List.set_cons_succ]))
            (refine wpAnyH_take (i := 1) (v := ?_) rfl (by kernel_rfl) (by kernel_rfl) (by kernel_rfl) (fun _ _ _ h => h) (Or.inl ⟨by rfl, ?_⟩) (by assumption) ?_; rotate_left 1; (focus (intro wz hSz; (try dsimp only at hSz); go_simp; (try with_reducible rfl))); (try simp only [Act.put, List.setIfInBounds_toArray, List.set_cons_zero, List.set_cons_succ]))
            (refine wpAnyH_take (i := 2) (v := ?_) rfl (by kernel_rfl) (by kernel_rfl) (by kernel_rfl) (fun _ _ _ h => h) (Or.inl ⟨by rfl, ?_⟩) (by assumption) ?_; rotate_left 1; (focus (intro wz hSz; (try dsimp only at hSz); go_simp; (try with_reducible rfl))); (try simp only [Act.put, List.setIfInBounds_toArray, List.set_cons_zero, List.set_cons_succ]))
            (refine wpAnyH_take (i := 3) (v := ?_) rfl (by kernel_rfl) (by kernel_rfl) (by kernel_rfl) (fun _ _ _ h => h) (Or.inl ⟨by rfl, ?_⟩) (by assumption) ?_; rotate_left 1; (focus (intro wz hSz; (try dsimp only at hSz); go_simp; (try with_reducible rfl))); (try simp only [Act.put, List.setIfInBounds_toArray, List.set_cons_zero, List.set_cons_succ]))
            (refine wpAnyH_take (i := 4) (v := ?_) rfl (by kernel_rfl) (by kernel_rfl) (by kernel_rfl) (fun _ _ _ h => h) (Or.inl ⟨by rfl, ?_⟩) (by assumption) ?_; rotate_left 1; (focus (intro wz hSz; (try dsimp only at hSz); go_simp; (try with_reducible rfl))); (try simp only [Act.put, List.setIfInBounds_toArray, List.set_cons_zero, List.set_cons_succ]))
            (refine wpAnyH_take (i := 5) (v := ?_) rfl (by kernel_rfl) (by kernel_rfl) (by kernel_rfl) (fun _ _ _ h => h) (Or.inl ⟨by rfl, ?_⟩) (by assumption) ?_; rotate_left 1; (focus (intro wz hSz; (try dsimp only at hSz); go_simp; (try with_reducible rfl))); (try simp only [Act.put, List.setIfInBounds_toArray, List.set_cons_zero, List.set_cons_succ]))
            (refine wpAnyH_take (i := 6) (v := ?_) rfl (by kernel_rfl) (by kernel_rfl) (by kernel_rfl) (fun _ _ _ h => h) (Or.inl ⟨by rfl, ?_⟩) (by assumption) ?_; rotate_left 1; (focus (intro wz hSz; (try dsimp only at hSz); go_simp; (try with_reducible rfl))); (try simp only [Act.put, List.setIfInBounds_toArray, List.set_cons_zero, List.set_cons_succ]))
            (refine wpAnyH_take (i := 7) (v := ?_) rfl (by kernel_rfl) (by kernel_rfl) (by kernel_rfl) (fun _ _ _ h => h) (Or.inl ⟨by rfl, ?_⟩) (by assumption) ?_; rotate_left 1; (focus (intro wz hSz; (try dsimp only at hSz); go_simp; (try with_reducible rfl))); (try simp only [Act.put, List.setIfInBounds_toArray, List.set_cons_zero, List.set_cons_succ]))
            (refine wpAnyH_take (i := 8) (v := ?_) rfl (by kernel_rfl) (by kernel_rfl) (by kernel_rfl) (fun _ _ _ h => h) (Or.inl ⟨by rfl, ?_⟩) (by assumption) ?_; rotate_left 1; (focus (intro wz hSz; (try dsimp only at hSz); go_simp; (try with_reducible rfl))); (try simp only [Act.put, List.setIfInBounds_toArray, List.set_cons_zero, List.set_cons_succ]))
            (refine wpAnyH_take (i := 9) (v := ?_) rfl (by kernel_rfl) (by kernel_rfl) (by kernel_rfl) (fun _ _ _ h => h) (Or.inl ⟨by rfl, ?_⟩) (by assumption) ?_; rotate_left 1; (focus (intro wz hSz; (try dsimp only at hSz); go_simp; (try with_reducible rfl))); (try simp only [Act.put, List.setIfInBounds_toArray, List.set_cons_zero, List.set_cons_succ]))
            refine wpAnyH_ready (rs := [10]) (by kernel_rfl) (by simp) ?_
            refine AllReadyH.cons rfl (fun Kk hKk => ?_) AllReadyH.nil
            go_simp
            refine cOD.mono ?_
            rintro e w10 ⟨rfl, hres⟩
            have opd : Opd w8.drew w10 bb nbb mbb Bt ub N E := hres
            clear hres
            have c10 : w10.cell? ⟨gn, K, none⟩ = some (.int .i64 (N : Int)) ∧ w10.cell? ⟨gt, K, none⟩ = some (.int .u64 (T : Int)) := ⟨opd.cell s1 gnm, opd.cell s2 gtm⟩
            go_wp2_with fail
            refine hKk.out _ _ c10 (fun hHeld2 => ?_)
            clear hKk Kk
            try simp only [Act.put, List.setIfInBounds_toArray, List.set_cons_zero, List.set_cons_succ]
            (refine wpAnyH_take (i := 11) (v := ?_) rfl (by kernel_rfl) (by kernel_rfl) (by kernel_rfl) (fun _ _ _ h => h) (Or.inl ⟨by rfl, ?_⟩) (by assumption) ?_; rotate_left 1; (focus (intro wz hSz; (try dsimp only at hSz); go_simp; (try with_reducible rfl))); (try simp only [Act.put, List.setIfInBounds_toArray, List.set_cons_zero, List.set_cons_succ]))
            refine wpAnyH_done (by kernel_rfl) ?_ _
            obtain ⟨n10, _⟩ := c10
            have hN25 : N < 25 := by omega
            clear cOD s1 s2 hHeld hHeld2
            by_cases hu : N ∈ ub
            · have hE16 : E = 16 := by rw [HE.out, if_pos hu]
              subst hE16
              have bun10 := bunD.below (opd.same (by decide))
              have cO10 : w10.cell? ⟨H, N, none⟩ = some (.bool true) := Own.at1 (f := Value.bool) bun10.f.oo il.ol (by rw [il.oa N hN25]; simp [hu])
              clear hu il HE opd
              go_wp2_with fail
              exact ⟨⟨k + 2, its, ys, tg, ns, ub, op, by go_num, by omega, inv, bun10⟩, by simp [intOf]; omega⟩
            · have hN16 : 16 * N + 8 ≤ bits.length := by omega
              obtain ⟨key, hkey⟩ : ∃ key, pKey 8 Bt N = key := ⟨_, rfl⟩
              have key256 : key < 256 := by rw [← hkey]; exact pKey_lt
              have hKb : bval ((bits.drop (16 * N)).take 8) = key := by rw [key_of (by omega), HBt.out]; exact hkey
              rw [hkey] at HE
              obtain ⟨ha, hha⟩ : ∃ h, hashN 8 key m' = h := ⟨_, rfl⟩
              obtain ⟨hb', hhb⟩ : ∃ h, hashN 8 key (numL z 8) = h := ⟨_, rfl⟩
              rw [hha, hhb] at HE
              have ways : ∃ cb ub', E = (if cb then 0 else 15) ∧ Bun v w10 L H ba nba mba bb nbb mbb Bt (evL ys.length) ub' (.slice (some ⟨gs, 0, none⟩) ys.length cs) (.slice (some ⟨gt, 0, none⟩) ys.length ct) (.slice (some ⟨gn, 0, none⟩) ys.length cn) (.slice (some ⟨H, 0, none⟩) 25 25) its ys tg ns op ∧ Hid (OncI Bt ys tg ns ub' (op.set N cb)) ∧ ((ha : Int) == (hb' : Int)) = cb := by
                by_cases hc : ha = hb'
                · have hE0 : E = 0 := by rw [HE.out, if_neg hu, if_pos hc]
                  subst hE0
                  exact ⟨true, N :: ub, rfl, bunD.opd0 opd, Lib.hid il.put, by subst hc; simp⟩
                · have hE0 : E = 15 := by rw [HE.out, if_neg hu, if_neg hc]
                  subst hE0
                  exact ⟨false, ub, rfl, bunD.below (opd.same (by decide)), Lib.hid (il.stay hu), beq_eq_false_iff_ne.2 (by omega)⟩
              obtain ⟨cb, ub', hE, bun10, inv', hcb⟩ := ways
              have cO10 : w10.cell? ⟨H, N, none⟩ = some (.bool false) := Own.at1 (f := Value.bool) bun10.f.oo il.ol (by rw [il.oa N hN25]; simp [hu])
              have f10 := Own.fr1 (f := Value.bool) bun10.f.oo il.ol N
              have fr10 := frD.opd opd mH
              obtain ⟨A9, c9, hv9, l9, m9, n9, ar9⟩ := fr10.o.form encB_len
              rw [hml] at hv9 l9
              cases hv9
              obtain ⟨q1, _, _, _, _⟩ := bun10.f.rows K it z hit hz
              obtain ⟨A7, c7, hv7', l7, m7, n7, ar7⟩ := q1.form encB_len
              rw [numL_len] at hv7' l7
              rw [hve] at hv7'
              cases hv7'
              have cRow10 := Own.at1 (f := It.enc) bun10.f.os Lits.out hit
              rw [hve] at cRow10
              have arB := (arr_take (by have := (hA.on bun10.hb).drop (16 * N); rwa [Nat.mul_one] at this) 8 : Arr 1 encB w10 w10.heap.size (some ⟨ab, ao + 16 * N, none⟩) ((bits.drop (16 * N)).take 8))
              have lB : ((bits.drop (16 * N)).take 8).length = 8 := by rw [List.length_take, List.length_drop]; omega
              have olen := il.ol
              have Olen := Lib.hid olen
              have cWd := fun cc (y : Later w10) => calls_later_same (rWord_any (some ⟨ab, ao + 16 * N, none⟩) cc ((bits.drop (16 * N)).take 8) y.w (arB.on y.2) (by rw [lB]; decide))
              simp only [lB, hKb] at cWd
              have cHa : ∀ w' (hb : Below w10.heap.size w10 w') (y : Later w'), Calls Tryd.prog 16 #[.int .i64 8, .int .u64 key, .slice (some ⟨gm, 0, none⟩) 8 cm] y.w fun e w2 => e = .returned (.int .u64 (ha : Int)) ∧ ∃ y2 : Later w', w2 = y2.w := fun w' hb y => by
                have := calls_later (rHash_any 8 key (some ⟨gm, 0, none⟩) cm m' y.w (.inl rfl) key256 (ar9.on (below_trans hb y.2)) (by rw [hml]; decide) n9)
                rw [hha, hml] at this
                exact this
              have cHb : ∀ w' (hb : Below w10.heap.size w10 w') (y : Later w'), Calls Tryd.prog 16 #[.int .i64 8, .int .u64 key, .slice Ar 8 cr] y.w fun e w2 => e = .returned (.int .u64 (hb' : Int)) ∧ ∃ y2 : Later w', w2 = y2.w := fun w' hb y => by
                have := calls_later (rHash_any 8 key Ar cr (numL z 8) y.w (.inl rfl) key256 (ar7.on (below_trans hb y.2)) (by rw [numL_len]; decide) n7)
                rw [hhb, numL_len] at this
                exact this
              have L10 := later_cell n10
              clear hu il HE opd hkey hKb hha hhb olen lB
              cases cb
              all_goals (
                simp only [if_true, if_false, Bool.false_eq_true] at hE
                subst hE
                go_wp2_with fail
                (refine wp_region_later (by kernel_rfl) (by kernel_rfl) ?_; (repeat (go_big_quiet_step (((go_at_call 15; exact cWd _ _))))); refine wpQuiet_nil ?_; rintro w11 ⟨⟨_, hb11⟩, rfl⟩)
                have LR := later_cell (bel_cell hb11 cRow10)
                have cHa' := cHa w11 hb11
                have cHb' := cHb w11 hb11
                clear L10 cWd cHa cHb
                go_wp2_with fail
                (refine wp_region_later (by kernel_rfl) (by kernel_rfl) ?_; (repeat (go_big_quiet_step (((go_at_call 16; first | (refine Calls.on (args' := #[.int .i64 8, .int .u64 key, .slice (some ⟨gm, 0, none⟩) 8 cm]) rfl ?_; exact cHa' _) | (refine Calls.on (args' := #[.int .i64 8, .int .u64 key, .slice Ar 8 cr]) rfl ?_; exact cHb' _)))))); refine wpQuiet_nil ?_; rintro w12 ⟨⟨_, hb12⟩, rfl⟩)
                have q12 := below_trans hb11 hb12
                have n12 := bel_cell q12 n10
                have cO12 := bel_cell q12 cO10
                have f12 := (q12.frozen (p := ⟨H, N, none⟩) (World.block_lt_of_cell? _ _ cO10)).trans f10
                have bun12 := bun10.below q12
                clear LR cHa' cHb' n10 cO10 f10 cRow10
                go_wp2_with fail
                exact ⟨⟨k + 2, its, ys, tg, ns, ub', op.set N _, by go_num, by omega, inv', bun12.store Olen.out N _⟩, by simp [intOf]; omega⟩)
          · have e4 : ((x : Int) % 3 == 2) = false := by simp; omega
            have oe := own_empty (α := Bool) (sz := 1) (enc := encB) w6 w6.heap.size 4 (Nat.le_refl _)
            have oA := arr.keep (below_alloc (Below.refl _ _) (.cells #[] 4))
            have oby : (([] : List Bool).length + (numL z 8).length) * 1 ≤ 140737488355328 := by rw [numL_len]; decide
            have osz : w6.heap.size ≤ (w6.alloc (.cells #[] 4)).heap.size := by simp
            have hl8 : 0 < (numL z 8).length := by rw [numL_len]; decide
            go_wp2_with (at_builtin; refine wpList_app rfl _ _ 24 rfl w6.heap.size 4 i0 _ 1 1 Tryd.underlying24 Hi.out Hz0.out Hz1.out Hz2.out rfl (by decide) encB_len encB_one _ ([] : List Bool) (numL z 8) Ar cr w6.heap.size rfl oe rfl oA nr oby (by decide) osz ?_; intro v7 w7 own7 hb7; rw [List.nil_append] at own7; have q7 : Below w6.heap.size w6 w7 := (below_alloc (Below.refl _ _) _).trans hb7; have bun7 := bun.below q7; have fr7 := Free.new bun own7; have cx7 := bel_cell q7 cx; obtain ⟨gm, cm, hv7, hm1, hm2⟩ := own_ptr own7 hl8; rw [numL_len] at hv7; subst hv7)
            have bunD := bun7.below (Below.refl _ _).drew
            have frD := fr7.below (Below.refl _ _).drew
            have cN7 := bel_cell q7 cNum
            have cT7 := bel_cell q7 cTag
            have hSd : w7.drew.cell? ⟨gn, K, none⟩ = some (.int .i64 (N : Int)) ∧ w7.drew.cell? ⟨gt, K, none⟩ = some (.int .u64 (T : Int)) := ⟨cN7, cT7⟩
            obtain ⟨A8, c8, hv8, l8, m8, _, ar8⟩ := frD.o.form encB_len
            rw [numL_len] at hv8 l8
            cases hv8
            have cOD := cO w7.drew (some ⟨gm, 0, none⟩) cm (numL z 8) bunD.pb.p ar8 (by rw [numL_len]; exact l8) m8
            rw [numL_len] at cOD
            clear cO ar8 l8 m8 cx7 cNum cTag oe oA
            have oE : opE 8 Bt ub ((N : Nat) : Int) (numL z 8) T = (if N ∈ ub then 16 else if hashN 8 (pKey 8 Bt N) (numL z 8) = hashN 8 (pKey 8 Bt N) (numL z 8) then 0 else 15) := by rw [← HT.out]; exact once_open hB (by omega) (numL_len 8 z) (numL_len 8 z)
            obtain ⟨E, hE⟩ : ∃ E, opE 8 Bt ub ((N : Nat) : Int) (numL z 8) T = E := ⟨_, rfl⟩
            rw [hE] at cOD oE
            have HE := Lib.hid oE
            have mH : mbb < H := by have := bunD.pb.m1; omega
            have gnm : gn ≠ mbb := by omega
            have gtm : gt ≠ mbb := by omega
            clear hE oE
            refine wp_region_held_drew (S := fun w' => w'.cell? ⟨gn, K, none⟩ = some (.int .i64 (N : Int)) ∧ w'.cell? ⟨gt, K, none⟩ = some (.int .u64 (T : Int))) (by kernel_rfl) hSd (fun hHeld => ?_)
            obtain ⟨s1, s2⟩ := hSd
            (refine wpAnyH_take (i := 0) (v := ?_) rfl (by kernel_rfl) (by kernel_rfl) (by kernel_rfl) (fun _ _ _ h => h) (Or.inl ⟨by rfl, ?_⟩) (by assumption) ?_; rotate_left 1; (focus (intro wz hSz; (try dsimp only at hSz); go_simp; (try with_reducible rfl))); (try simp only [Act.put, List.setIfInBounds_toArray, List.set_cons_zero, List.set_cons_succ]))
            (refine wpAnyH_take (i := 1) (v := ?_) rfl (by kernel_rfl) (by kernel_rfl) (by kernel_rfl) (fun _ _ _ h => h) (Or.inl ⟨by rfl, ?_⟩) (by assumption) ?_; rotate_left 1; (focus (intro wz hSz; (try dsimp only at hSz); go_simp; (try with_reducible rfl))); (try simp only [Act.put, List.setIfInBounds_toArray, List.set_cons_zero, List.set_cons_succ]))
            (refine wpAnyH_take (i := 2) (v := ?_) rfl (by kernel_rfl) (by kernel_rfl) (by kernel_rfl) (fun _ _ _ h => h) (Or.inl ⟨by rfl, ?_⟩) (by assumption) ?_; rotate_left 1; (focus (intro wz hSz; (try dsimp only at hSz); go_simp; (try with_reducible rfl))); (try simp only [Act.put, List.setIfInBounds_toArray, List.set_cons_zero, List.set_cons_succ]))
            (refine wpAnyH_take (i := 3) (v := ?_) rfl (by kernel_rfl) (by kernel_rfl) (by kernel_rfl) (fun _ _ _ h => h) (Or.inl ⟨by rfl, ?_⟩) (by assumption) ?_; rotate_left 1; (focus (intro wz hSz; (try dsimp only at hSz); go_simp; (try with_reducible rfl))); (try simp only [Act.put, List.setIfInBounds_toArray, List.set_cons_zero, List.set_cons_succ]))
            (refine wpAnyH_take (i := 4) (v := ?_) rfl (by kernel_rfl) (by kernel_rfl) (by kernel_rfl) (fun _ _ _ h => h) (Or.inl ⟨by rfl, ?_⟩) (by assumption) ?_; rotate_left 1; (focus (intro wz hSz; (try dsimp only at hSz); go_simp; (try with_reducible rfl))); (try simp only [Act.put, List.setIfInBounds_toArray, List.set_cons_zero, List.set_cons_succ]))
            (refine wpAnyH_take (i := 5) (v := ?_) rfl (by kernel_rfl) (by kernel_rfl) (by kernel_rfl) (fun _ _ _ h => h) (Or.inl ⟨by rfl, ?_⟩) (by assumption) ?_; rotate_left 1; (focus (intro wz hSz; (try dsimp only at hSz); go_simp; (try with_reducible rfl))); (try simp only [Act.put, List.setIfInBounds_toArray, List.set_cons_zero, List.set_cons_succ]))
            (refine wpAnyH_take (i := 6) (v := ?_) rfl (by kernel_rfl) (by kernel_rfl) (by kernel_rfl) (fun _ _ _ h => h) (Or.inl ⟨by rfl, ?_⟩) (by assumption) ?_; rotate_left 1; (focus (intro wz hSz; (try dsimp only at hSz); go_simp; (try with_reducible rfl))); (try simp only [Act.put, List.setIfInBounds_toArray, List.set_cons_zero, List.set_cons_succ]))
            (refine wpAnyH_take (i := 7) (v := ?_) rfl (by kernel_rfl) (by kernel_rfl) (by kernel_rfl) (fun _ _ _ h => h) (Or.inl ⟨by rfl, ?_⟩) (by assumption) ?_; rotate_left 1; (focus (intro wz hSz; (try dsimp only at hSz); go_simp; (try with_reducible rfl))); (try simp only [Act.put, List.setIfInBounds_toArray, List.set_cons_zero, List.set_cons_succ]))
            (refine wpAnyH_take (i := 8) (v := ?_) rfl (by kernel_rfl) (by kernel_rfl) (by kernel_rfl) (fun _ _ _ h => h) (Or.inl ⟨by rfl, ?_⟩) (by assumption) ?_; rotate_left 1; (focus (intro wz hSz; (try dsimp only at hSz); go_simp; (try with_reducible rfl))); (try simp only [Act.put, List.setIfInBounds_toArray, List.set_cons_zero, List.set_cons_succ]))
            (refine wpAnyH_take (i := 9) (v := ?_) rfl (by kernel_rfl) (by kernel_rfl) (by kernel_rfl) (fun _ _ _ h => h) (Or.inl ⟨by rfl, ?_⟩) (by assumption) ?_; rotate_left 1; (focus (intro wz hSz; (try dsimp only at hSz); go_simp; (try with_reducible rfl))); (try simp only [Act.put, List.setIfInBounds_toArray, List.set_cons_zero, List.set_cons_succ]))
            refine wpAnyH_ready (rs := [10]) (by kernel_rfl) (by simp) ?_
            refine AllReadyH.cons rfl (fun Kk hKk => ?_) AllReadyH.nil
            go_simp
            refine cOD.mono ?_
            rintro e w10 ⟨rfl, hres⟩
            have opd : Opd w7.drew w10 bb nbb mbb Bt ub N E := hres
            clear hres
            have c10 : w10.cell? ⟨gn, K, none⟩ = some (.int .i64 (N : Int)) ∧ w10.cell? ⟨gt, K, none⟩ = some (.int .u64 (T : Int)) := ⟨opd.cell s1 gnm, opd.cell s2 gtm⟩
            go_wp2_with fail
            refine hKk.out _ _ c10 (fun hHeld2 => ?_)
            clear hKk Kk
            try simp only [Act.put, List.setIfInBounds_toArray, List.set_cons_zero, List.set_cons_succ]
            (refine wpAnyH_take (i := 11) (v := ?_) rfl (by kernel_rfl) (by kernel_rfl) (by kernel_rfl) (fun _ _ _ h => h) (Or.inl ⟨by rfl, ?_⟩) (by assumption) ?_; rotate_left 1; (focus (intro wz hSz; (try dsimp only at hSz); go_simp; (try with_reducible rfl))); (try simp only [Act.put, List.setIfInBounds_toArray, List.set_cons_zero, List.set_cons_succ]))
            refine wpAnyH_done (by kernel_rfl) ?_ _
            obtain ⟨n10, _⟩ := c10
            have hN25 : N < 25 := by omega
            clear cOD s1 s2 hHeld hHeld2
            by_cases hu : N ∈ ub
            · have hE16 : E = 16 := by rw [HE.out, if_pos hu]
              subst hE16
              have bun10 := bunD.below (opd.same (by decide))
              have cO10 : w10.cell? ⟨H, N, none⟩ = some (.bool true) := Own.at1 (f := Value.bool) bun10.f.oo il.ol (by rw [il.oa N hN25]; simp [hu])
              clear hu il HE opd
              go_wp2_with fail
              exact ⟨⟨k + 2, its, ys, tg, ns, ub, op, by go_num, by omega, inv, bun10⟩, by simp [intOf]; omega⟩
            · have hE0 : E = 0 := by rw [HE.out, if_neg hu]; simp
              subst hE0
              have bun10 := bunD.opd0 opd
              have cO10 : w10.cell? ⟨H, N, none⟩ = some (.bool false) := Own.at1 (f := Value.bool) bun10.f.oo il.ol (by rw [il.oa N hN25]; simp [hu])
              have f10 := Own.fr1 (f := Value.bool) bun10.f.oo il.ol N
              have inv' := Lib.hid (il.put (N := N))
              have bun11 := bun10.store il.ol N true
              clear hu il HE opd
              go_wp2_with fail
              exact ⟨⟨k + 2, its, ys, tg, ns, N :: ub, op.set N true, by go_num, by omega, inv', bun11⟩, by simp [intOf]; omega⟩
    · have d3 : decide (((k : Int) + 1) < (st.length : Int)) = false := by simp; omega
      go_wp2_with (go_at_call 10; refine (cK _ hb).mono ?_; rintro e w5 ⟨rfl, hb5⟩)
      go_ret
      exact ⟨rfl, below_trans hb hb5⟩

end Go.Proofs.YtiphhkfmemkldaaDoor
