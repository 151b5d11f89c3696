/- Contracts of the reference's compare, add, sub of numbers. For at most a million digits. -/
import Derived.Test.YtmlppnapodamaaaRefA
namespace Go.Proofs.Ytmlppnapodamaaa
open Go.RowKit
set_option linter.unusedVariables false
set_option linter.unusedSimpArgs false

set_option maxRecDepth 100000 in
set_option maxHeartbeats 2000000 in
theorem rcmp_any (A : Option Addr) (c : Nat) (a : Nat) (C : Option Addr) (d : Nat) (b : Nat) (w : World) (hA : Dn w A c (dg a)) (hC : Dn w C d (dg b)) (hl : (dg a).length ≤ 4000000) (hm : (dg b).length ≤ 4000000) :
    Calls Try.prog 132 #[.slice A (dg a).length c, .slice C (dg b).length d] w fun e w' => e = .returned (.int .i64 (cmpI a b)) ∧ Below w.heap.size w w' := by
  have lt1 := fun h => digB_len_lt (b := 256) (n := a) (m := b) b8 h
  have lt2 := fun h => digB_len_lt (b := 256) (n := b) (m := a) b8 h
  have v1 := dg_val a
  have v2 := dg_val b
  change (dg a).length < (dg b).length → a < b at lt1
  change (dg b).length < (dg a).length → b < a at lt2
  generalize dg a = L at *
  generalize dg b = M at *
  have G1 := Lib.hid lt1; have G2 := Lib.hid lt2; have V1 := Lib.hid v1; have V2 := Lib.hid v2
  clear lt1 lt2 v1 v2
  rcases Nat.lt_trichotomy L.length M.length with hlt | heq | hgt
  · have := G1.out hlt
    have h0 : ((L.length : Int) != (M.length : Int)) = true := by simp; omega
    go_enter Try.func132, Try.ntmps132
    go_wp2_with fail
    go_ret
    exact ⟨ret_int (cmpI_lt this).symm, Below.refl _ _⟩
  · have He := Lib.hid heq
    have h0 : ((L.length : Int) != (M.length : Int)) = false := by simp; omega
    clear heq
    go_enter Try.func132, Try.ntmps132
    go_wp2_with fail
    go_loopw [5] (fun i wr => ∃ k : Nat, k ≤ L.length ∧ i = .int .i64 ((k : Int) - 1) ∧ L.drop k = M.drop k ∧ Below w.heap.size w wr) (fun i _ => (intOf i + 1).toNat)
    case atStart => exact ⟨_, Nat.le_refl _, rfl, by rw [List.drop_length, He.out, List.drop_length], Below.refl _ _⟩
    case round =>
      obtain ⟨k, hk, rfl, ht, hb⟩ := hrel
      have Ht := Lib.hid ht
      clear ht
      cases k with
      | zero =>
        go_wp2_with fail
        go_ret
        have hLM : L = M := by simpa using Ht.out
        exact ⟨ret_int (cmpI_eq (by rw [← V1.out, ← V2.out, hLM])).symm, hb⟩
      | succ j =>
        have := He.out
        obtain ⟨b1, o1, x, rfl, hb1, hx, c1⟩ := hA.arr.dig (k := j) (by omega) hb
        obtain ⟨b2, o2, y, rfl, hb2, hy, c2⟩ := hC.arr.dig (k := j) (by omega) hb
        have j1 : (j : Int) < (L.length : Int) := by omega
        have j2 : (j : Int) < (M.length : Int) := by omega
        have l1 := later_cell c1
        have l2 := later_cell c2
        clear this
        rcases Nat.lt_trichotomy x y with hlt | rfl | hgt
        · have r2 : decide (x < y) = true := by simp; omega
          have fin : Hid (a < b) := Lib.hid (by
            rw [← V1.out, ← V2.out]; exact valB_cmp hA.dig hC.dig He.out hx.out hy.out Ht.out hlt)
          clear hlt
          go_wp2_with fail
          (refine wp_region_later (by kernel_rfl) (by kernel_rfl) ?_; (repeat (go_big_quiet_step (fail))); refine wpQuiet_nil ?_; rintro w3 ⟨⟨_, hb3⟩, rfl⟩)
          go_wp2_with fail
          go_ret
          exact ⟨ret_int (cmpI_lt fin.out).symm, below_trans hb hb3⟩
        · have r2 : decide (x < x) = false := by simp
          go_wp2_with fail
          (refine wp_region_later (by kernel_rfl) (by kernel_rfl) ?_; (repeat (go_big_quiet_step (fail))); refine wpQuiet_nil ?_; rintro w3 ⟨⟨_, hb3⟩, rfl⟩)
          have m1 := later_cell (bel_cell hb3 c1)
          have m2 := later_cell (bel_cell hb3 c2)
          go_wp2_with fail
          (refine wp_region_later (by kernel_rfl) (by kernel_rfl) ?_; (repeat (go_big_quiet_step (fail))); refine wpQuiet_nil ?_; rintro w4 ⟨⟨_, hb4⟩, rfl⟩)
          go_wp2_with fail
          go_roundw
          case rel => exact ⟨j, by omega, by go_num, drop_same hx.out hy.out Ht.out, below_trans hb (below_trans hb3 hb4)⟩
          case measure => (simp [intOf] <;> omega)
        · have r1 : decide (x < y) = false := by simp; omega
          have r2 : decide (y < x) = true := by simp; omega
          have fin : Hid (b < a) := Lib.hid (by
            rw [← V1.out, ← V2.out]; exact valB_cmp hC.dig hA.dig He.out.symm hy.out hx.out Ht.out.symm hgt)
          clear hgt
          go_wp2_with fail
          (refine wp_region_later (by kernel_rfl) (by kernel_rfl) ?_; (repeat (go_big_quiet_step (fail))); refine wpQuiet_nil ?_; rintro w3 ⟨⟨_, hb3⟩, rfl⟩)
          have m1 := later_cell (bel_cell hb3 c1)
          have m2 := later_cell (bel_cell hb3 c2)
          go_wp2_with fail
          (refine wp_region_later (by kernel_rfl) (by kernel_rfl) ?_; (repeat (go_big_quiet_step (fail))); refine wpQuiet_nil ?_; rintro w4 ⟨⟨_, hb4⟩, rfl⟩)
          go_wp2_with fail
          go_ret
          exact ⟨ret_int (cmpI_gt fin.out).symm, below_trans hb (below_trans hb3 hb4)⟩
  · have := G2.out hgt
    have h0 : ((L.length : Int) != (M.length : Int)) = true := by simp; omega
    go_enter Try.func132, Try.ntmps132
    go_wp2_with fail
    go_ret
    exact ⟨ret_int (cmpI_gt this).symm, Below.refl _ _⟩

theorem byte2 (t : Nat) : ∃ q r : Nat, (t : Int) / 256 = (q : Int) ∧ (t : Int) % 256 = (r : Int) ∧ Hid (q = t / 256 ∧ r = t % 256) :=
  ⟨t / 256, t % 256, by omega, by omega, Lib.hid ⟨rfl, rfl⟩⟩
theorem radd_step {l m O : List Nat} {k s t : Nat} (hk : O.length = k) (h : valB 256 O + 256 ^ k * s = valB 256 (l.take k) + valB 256 (m.take k)) (ht : t = s + l[k]?.getD 0 + m[k]?.getD 0) :
    valB 256 (O ++ [t % 256]) + 256 ^ (k + 1) * (t / 256) = valB 256 (l.take (k + 1)) + valB 256 (m.take (k + 1)) := by
  rw [valB_app, valB_one, hk, getD_take, getD_take, Nat.pow_succ, Nat.mul_assoc, Nat.add_assoc, ← Nat.mul_add, Nat.mod_add_div, ht, Nat.mul_add, Nat.mul_add]
  omega

set_option maxRecDepth 100000 in
set_option maxHeartbeats 4000000 in
theorem radd_any (A : Option Addr) (c : Nat) (l : List Nat) (C : Option Addr) (d : Nat) (m : List Nat) (w : World) (hA : Dn w A c l) (hC : Dn w C d m) (hl : l.length ≤ 4000000) (hm : m.length ≤ 4000000) :
    Calls Try.prog 194 #[.slice A l.length c, .slice C m.length d] w fun e w' => ∃ v, e = .returned v ∧ Dg w' w.heap.size v (valB 256 l + valB 256 m) ∧ Below w.heap.size w w' := by
  obtain ⟨i0, hi, hz0, hz1, hz2⟩ := info_parts int_info
  obtain ⟨M, hM1, hM2, hM3, hM4⟩ : ∃ M : Nat, l.length ≤ M ∧ m.length ≤ M ∧ M ≤ 4000000 ∧ (M = l.length ∨ M = m.length) := by
    rcases Nat.lt_or_ge l.length m.length with h | h
    · exact ⟨m.length, by omega, by omega, hm, .inr rfl⟩
    · exact ⟨l.length, by omega, by omega, hl, .inl rfl⟩
  go_enter Try.func194, Try.ntmps194
  go_wp2
  go_loopw [5, 6, 7] (fun v cy i wr => ∃ (k s : Nat) (O : List Nat), k + s ≤ M + 1 ∧ i = .int .i64 k ∧ cy = .int .i64 s ∧ s ≤ 1 ∧ O.length = k ∧ Dig 256 O ∧ valB 256 O + 256 ^ k * s = valB 256 (l.take k) + valB 256 (m.take k) ∧
    Own wr w.heap.size 3 1 encD v O ∧ Below w.heap.size w wr) (fun _ cy i _ => 2 * (M - (intOf i).toNat) + (intOf cy).toNat)
  case atStart => exact ⟨0, 0, [], by omega, rfl, rfl, by decide, rfl, Dig.nil, by simp [valB], Own.nil, Below.refl _ _⟩
  case round =>
    obtain ⟨k, s, O, hk, rfl, rfl, hs, hO, hd, hv, hown, hb⟩ := hrel
    have HO := Lib.hid hO; have Hd := Lib.hid hd; have Hv := Lib.hid hv
    have hOb : O.length ≤ 4000001 := by omega
    clear hO hd hv
    by_cases h1 : k < l.length <;> by_cases h2 : k < m.length
    · obtain ⟨b1, o1, x, rfl, hb1, hx, c1⟩ := hA.arr.dig h1 hb
      obtain ⟨b2, o2, y, rfl, hb2, hy, c2⟩ := hC.arr.dig h2 hb
      have x1 := hA.lt hx.out
      have y1 := hC.lt hy.out
      obtain ⟨t, ht⟩ : ∃ t : Nat, (s : Int) + (x : Int) + (y : Int) = (t : Int) := ⟨s + x + y, by omega⟩
      obtain ⟨q, r, hq, hr, hqr⟩ := byte2 t
      have Hst := Lib.hid (radd_step (l := l) (m := m) (O := O) (t := t) HO.out Hv.out (by rw [hx.out, hy.out]; simp; omega))
      rw [← hqr.out.1, ← hqr.out.2] at Hst
      have hq1 : q ≤ 1 := by have := hqr.out.1; omega
      have hr1 : Hid (r < 256) := Lib.hid (by rw [hqr.out.2]; exact Nat.mod_lt _ (by decide))
      go_wp2_with (at_builtin; refine wpList_snoc rfl _ _ 22 rfl w.heap.size 3 i0 _ 1 8 Try.underlying22 hi hz0 hz1 hz2 rfl (by decide) _ O r #[.int .i64 r] 3 rfl hown rfl rfl rfl (encD_one _) (by omega) (by decide) hb.size rfl ?_; intro v' w5 hown5 hb5)
      go_roundw
      case rel => exact ⟨k + 1, q, O ++ [r], by omega, by go_num, rfl, hq1, by rw [List.length_append, HO.out]; rfl, Hd.out.app (Dig.cons hr1.out Dig.nil), Hst.out, hown5, hb.trans hb5⟩
      case measure => (simp [intOf] <;> omega)
    · obtain ⟨b1, o1, x, rfl, hb1, hx, c1⟩ := hA.arr.dig h1 hb
      have hy : Hid (m[k]? = none) := Lib.hid (List.getElem?_eq_none (by omega))
      have x1 := hA.lt hx.out
      obtain ⟨t, ht⟩ : ∃ t : Nat, (s : Int) + (x : Int) = (t : Int) := ⟨s + x, by omega⟩
      obtain ⟨q, r, hq, hr, hqr⟩ := byte2 t
      have Hst := Lib.hid (radd_step (l := l) (m := m) (O := O) (t := t) HO.out Hv.out (by rw [hx.out, hy.out]; simp; omega))
      rw [← hqr.out.1, ← hqr.out.2] at Hst
      have hq1 : q ≤ 1 := by have := hqr.out.1; omega
      have hr1 : Hid (r < 256) := Lib.hid (by rw [hqr.out.2]; exact Nat.mod_lt _ (by decide))
      go_wp2_with (at_builtin; refine wpList_snoc rfl _ _ 22 rfl w.heap.size 3 i0 _ 1 8 Try.underlying22 hi hz0 hz1 hz2 rfl (by decide) _ O r #[.int .i64 r] 3 rfl hown rfl rfl rfl (encD_one _) (by omega) (by decide) hb.size rfl ?_; intro v' w5 hown5 hb5)
      go_roundw
      case rel => exact ⟨k + 1, q, O ++ [r], by omega, by go_num, rfl, hq1, by rw [List.length_append, HO.out]; rfl, Hd.out.app (Dig.cons hr1.out Dig.nil), Hst.out, hown5, hb.trans hb5⟩
      case measure => (simp [intOf] <;> omega)
    · obtain ⟨b2, o2, y, rfl, hb2, hy, c2⟩ := hC.arr.dig h2 hb
      have hx : Hid (l[k]? = none) := Lib.hid (List.getElem?_eq_none (by omega))
      have y1 := hC.lt hy.out
      obtain ⟨t, ht⟩ : ∃ t : Nat, (s : Int) + (y : Int) = (t : Int) := ⟨s + y, by omega⟩
      obtain ⟨q, r, hq, hr, hqr⟩ := byte2 t
      have Hst := Lib.hid (radd_step (l := l) (m := m) (O := O) (t := t) HO.out Hv.out (by rw [hx.out, hy.out]; simp; omega))
      rw [← hqr.out.1, ← hqr.out.2] at Hst
      have hq1 : q ≤ 1 := by have := hqr.out.1; omega
      have hr1 : Hid (r < 256) := Lib.hid (by rw [hqr.out.2]; exact Nat.mod_lt _ (by decide))
      go_wp2_with (at_builtin; refine wpList_snoc rfl _ _ 22 rfl w.heap.size 3 i0 _ 1 8 Try.underlying22 hi hz0 hz1 hz2 rfl (by decide) _ O r #[.int .i64 r] 3 rfl hown rfl rfl rfl (encD_one _) (by omega) (by decide) hb.size rfl ?_; intro v' w5 hown5 hb5)
      go_roundw
      case rel => exact ⟨k + 1, q, O ++ [r], by omega, by go_num, rfl, hq1, by rw [List.length_append, HO.out]; rfl, Hd.out.app (Dig.cons hr1.out Dig.nil), Hst.out, hown5, hb.trans hb5⟩
      case measure => (simp [intOf] <;> omega)
    · have hx : Hid (l[k]? = none) := Lib.hid (List.getElem?_eq_none (by omega))
      have hy : Hid (m[k]? = none) := Lib.hid (List.getElem?_eq_none (by omega))
      rcases Nat.eq_zero_or_pos s with rfl | hs0
      · obtain ⟨A1, c1, rfl, n1⟩ := own_dn hown Hd.out
        have cT := rtrim_dn n1
        have hfin : valB 256 O = valB 256 l + valB 256 m := by
          have := Hv.out
          rw [List.take_of_length_le (by omega), List.take_of_length_le (by omega)] at this
          simpa using this
        have ht := Own.trimD hown Hd.out
        rw [hfin] at cT ht
        go_wp2_with (go_at_call 131; refine (cT).mono ?_; rintro e w' ⟨rfl, rfl⟩)
        go_ret
        exact ⟨_, rfl, ht, hb⟩
      · obtain rfl : s = 1 := by omega
        have Hst := Lib.hid (radd_step (l := l) (m := m) (O := O) (t := 1) HO.out Hv.out (by rw [hx.out, hy.out]; simp))
        go_wp2_with (at_builtin; refine wpList_snoc rfl _ _ 22 rfl w.heap.size 3 i0 _ 1 8 Try.underlying22 hi hz0 hz1 hz2 rfl (by decide) _ O 1 #[.int .i64 1] 3 rfl hown rfl rfl rfl (encD_one _) (by omega) (by decide) hb.size rfl ?_; intro v' w5 hown5 hb5)
        go_roundw
        case rel => exact ⟨k + 1, 0, O ++ [1], by omega, by go_num, rfl, by decide, by rw [List.length_append, HO.out]; rfl, Hd.out.app (Dig.cons (by decide) Dig.nil), Hst.out, hown5, hb.trans hb5⟩
        case measure => (simp [intOf] <;> omega)

end Go.Proofs.Ytmlppnapodamaaa
