/- Contract of the reference's mul. For at most a million digits. -/
import Derived.Test.YtmlppnapodamaaaRefC
namespace Go.Proofs.Ytmlppnapodamaaa
open Go.RowKit
set_option linter.unusedVariables false
set_option linter.unusedSimpArgs false

theorem rmul_step {m o : List Nat} {I k s x y z q r P : Nat} (hz : o[I + k]? = some z) (hy : m[k]? = some y) (h : valB 256 o + 256 ^ (I + k) * s = P + 256 ^ I * (x * valB 256 (m.take k))) (ht : r + 256 * q = z + x * y + s) :
    valB 256 (o.set (I + k) r) + 256 ^ (I + (k + 1)) * q = P + 256 ^ I * (x * valB 256 (m.take (k + 1))) := by
  have h1 := valB_set (b := 256) (y := r) hz
  rw [valB_snoc hy]
  have e1 : 256 ^ (I + (k + 1)) * q = 256 ^ (I + k) * (256 * q) := by rw [show I + (k + 1) = I + k + 1 from by omega, Nat.pow_succ, Nat.mul_assoc]
  have e2 : 256 ^ I * (x * (valB 256 (m.take k) + 256 ^ k * y)) = 256 ^ I * (x * valB 256 (m.take k)) + 256 ^ (I + k) * (x * y) := by
    rw [Nat.mul_add, Nat.mul_add, Nat.pow_add]
    congr 1
    rw [Nat.mul_assoc, Nat.mul_left_comm x]
  rw [e1, e2]
  have := congrArg (256 ^ (I + k) * ·) ht
  simp only [Nat.mul_add] at this
  omega
theorem rmul_end {l m o : List Nat} {I s x : Nat} (hx : l[I]? = some x) (hz : o[I + m.length]? = some 0) (h : valB 256 o + 256 ^ (I + m.length) * s = valB 256 (l.take I) * valB 256 m + 256 ^ I * (x * valB 256 m)) :
    valB 256 (o.set (I + m.length) s) = valB 256 (l.take (I + 1)) * valB 256 m := by
  have h1 := valB_set (b := 256) (y := s) hz
  rw [valB_snoc hx, Nat.add_mul, Nat.mul_assoc]
  omega
theorem rmul_zero {l m o : List Nat} {I z : Nat} (hz : o[I + m.length]? = some z) (h : valB 256 o = valB 256 (l.take I) * valB 256 m) (hI : I ≤ l.length) (dl : Dig 256 l) (dm : Dig 256 m) : z = 0 := by
  refine valB_zero (b := 256) hz ?_
  rw [h, Nat.pow_add]
  have h1 := valB_lt (dl.take I)
  rw [List.length_take, Nat.min_eq_left hI] at h1
  have h2 := valB_lt dm
  exact Nat.mul_lt_mul'' h1 h2
theorem mul_byte {x y z s : Nat} (hx : x < 256) (hy : y < 256) (hz : z < 256) (hs : s < 256) :
    ∃ p t q r : Nat, (x : Int) * (y : Int) = (p : Int) ∧ (z : Int) + (p : Int) + (s : Int) = (t : Int) ∧ (t : Int) / 256 = (q : Int) ∧ (t : Int) % 256 = (r : Int) ∧ p ≤ 65025 ∧
      Hid (q < 256 ∧ r < 256 ∧ r + 256 * q = z + x * y + s) := by
  have h1 : x * y ≤ 255 * 255 := Nat.mul_le_mul (by omega) (by omega)
  refine ⟨x * y, z + x * y + s, (z + x * y + s) / 256, (z + x * y + s) % 256, by simp, by omega, by omega, by omega, h1, Lib.hid ⟨by omega, by omega, by omega⟩⟩

set_option maxRecDepth 100000 in
set_option maxHeartbeats 4000000 in
theorem rmul_any (A : Option Addr) (c : Nat) (l : List Nat) (C : Option Addr) (d : Nat) (m : List Nat) (w : World) (hA : Dn w A c l) (hC : Dn w C d m) (hl : l.length ≤ 4000000) (hm : m.length ≤ 4000000) :
    Calls Try.prog 128 #[.slice A l.length c, .slice C m.length d] w fun e w' => ∃ v, e = .returned v ∧ Dg w' w.heap.size v (valB 256 l * valB 256 m) ∧ Below w.heap.size w w' := by
  obtain ⟨i0, hi, hz0, hz1, hz2⟩ := info_parts int_info
  obtain ⟨N, hN⟩ : ∃ N : Nat, (l.length : Int) + (m.length : Int) = (N : Int) := ⟨l.length + m.length, by omega⟩
  have n3 : N ≤ 8000000 := by omega
  have n4 : Hid (l.length + m.length = N) := Lib.hid (by omega)
  go_enter Try.func128, Try.ntmps128
  go_wp2_with (at_make; refine wpList_mk rfl _ _ 22 rfl 3 i0 _ 8 Try.underlying22 hi hz0 hz1 hz2 rfl (fun n : Nat => Value.int .i64 n) 0 rfl _ _ _ _ N rfl rfl (by omega) (by omega) (by omega) (by unfold maxLen; omega) ?_; intro w3 hown3 hb3)
  clear hN
  go_loopw [6] (fun i wr => ∃ (k : Nat) (o : List Nat), k ≤ l.length ∧ i = .int .i64 k ∧ o.length = N ∧ Dig 256 o ∧ valB 256 o = valB 256 (l.take k) * valB 256 m ∧
    Own wr w.heap.size 3 1 encD (.slice (some ⟨w.heap.size, 0, none⟩) N N) o ∧ Below w.heap.size w wr) (fun i _ => l.length - (intOf i).toNat)
  case atStart => exact ⟨0, _, Nat.zero_le _, rfl, by simp, Dig.rep (by decide) _, by simp [valB, valB_rep], hown3, hb3⟩
  case round =>
    obtain ⟨I, o, hI, rfl, hol, hd, hv, hown, hb⟩ := hrel
    by_cases hlt : I < l.length
    · obtain ⟨b1, o1, x, rfl, hb1, hx, c1⟩ := hA.arr.dig hlt hb
      have x1 := hA.lt hx.out
      have nI : I + m.length < N := by have := n4.out; omega
      have hz := List.getElem?_eq_getElem (l := o) (i := I + m.length) (by omega)
      have hz0 : Hid (o[I + m.length]? = some 0) := Lib.hid (by rw [hz, rmul_zero hz hv hI hA.dig hC.dig])
      have Hv := Lib.hid hv; have Hd := Lib.hid hd; have Hol := Lib.hid hol; have Hown := Lib.hid hown
      clear hz hv hd hol hown c1
      go_wp2
      go_loopw [7, 8] (fun cy i wr' => ∃ (k s : Nat) (o' : List Nat), k ≤ m.length ∧ i = .int .i64 k ∧ cy = .int .i64 s ∧ s < 256 ∧ o'.length = N ∧ Dig 256 o' ∧ o'[I + m.length]? = some 0 ∧
        valB 256 o' + 256 ^ (I + k) * s = valB 256 (l.take I) * valB 256 m + 256 ^ I * (x * valB 256 (m.take k)) ∧
        Own wr' w.heap.size 3 1 encD (.slice (some ⟨w.heap.size, 0, none⟩) N N) o' ∧ Below w.heap.size w wr') (fun _ i _ => m.length - (intOf i).toNat)
      case atStart => exact ⟨0, 0, o, Nat.zero_le _, rfl, rfl, by decide, Hol.out, Hd.out, hz0.out, by rw [Hv.out]; simp [valB], Hown.out, hb⟩
      case round =>
        obtain ⟨k, s, o', hk, rfl, rfl, hs, hol', hd', hz', hv', hown', hb'⟩ := hrel
        have Hv' := Lib.hid hv'; have Hd' := Lib.hid hd'; have Hol' := Lib.hid hol'; have Hz' := Lib.hid hz'
        clear hv' hd' hol' hz'
        by_cases hkl : k < m.length
        · obtain ⟨b1', o1', x', e1, hb1', hx', c1⟩ := hA.arr.dig hlt hb'
          obtain rfl : x = x' := by have := hx.out.symm.trans hx'.out; simpa using this
          obtain ⟨rfl, rfl⟩ : b1 = b1' ∧ o1 = o1' := by simpa using e1
          obtain ⟨b2, o2, y, rfl, hb2, hy, c2⟩ := hC.arr.dig hkl hb'
          have y1 := hC.lt hy.out
          have hzz := List.getElem?_eq_getElem (l := o') (i := I + k) (by rw [Hol'.out]; omega)
          obtain ⟨z, hz1⟩ : ∃ z, o'[I + k]? = some z := ⟨_, hzz⟩
          clear hzz e1 hx'
          have z1 : z < 256 := Hd'.out.get hz1
          have d0 := Own.at1 (f := fun n : Nat => Value.int .i64 n) hown' Hol'.out hz1
          have d1 := Own.fr1 (f := fun n : Nat => Value.int .i64 n) hown' Hol'.out (I + k)
          obtain ⟨p, t, q, r, w1, w2, w4, w5', pb, hs2⟩ := mul_byte x1 y1 z1 hs
          have Hst := Lib.hid (rmul_step hz1 hy.out Hv'.out hs2.out.2.2)
          have hIk : Hid (I + k ≠ I + m.length) := Lib.hid (by omega)
          have jN : I + k < N := by omega
          obtain ⟨J, hJ⟩ : ∃ J, I + k = J := ⟨_, rfl⟩
          have nIk : (I : Int) + (k : Int) = (J : Int) := by omega
          rw [hJ] at d0 d1 Hst hIk jN
          rw [hJ] at hz1
          have Hz1 := Lib.hid hz1
          clear hJ hz1
          have f1 := later_cell c1
          have f2 := later_cell c2
          have f3 := later_cell d0
          go_wp2
          (refine wp_region_later (by kernel_rfl) (by kernel_rfl) ?_; (repeat (go_big_quiet_step (fail))); refine wpQuiet_nil ?_; rintro w5 ⟨⟨_, hb5⟩, rfl⟩)
          have hown5 := hown'.below hb5
          have d0' := Own.at1 (f := fun n : Nat => Value.int .i64 n) hown5 Hol'.out Hz1.out
          have d1' := Own.fr1 (f := fun n : Nat => Value.int .i64 n) hown5 Hol'.out J
          have Hset : Hid (Own (w5.setCell ⟨w.heap.size, J, none⟩ (.int .i64 (r : Int))) w.heap.size 3 1 encD (.slice (some ⟨w.heap.size, 0, none⟩) N N) (o'.set J r)) := Lib.hid (Own.set1 (f := fun n : Nat => Value.int .i64 n) hown5 Hol'.out J r)
          clear f1 f2 f3 d0 d1
          go_wp2
          go_roundw
          case rel => exact ⟨k + 1, q, o'.set J r, by omega, by go_num, rfl, hs2.out.1, by rw [List.length_set]; exact Hol'.out, Hd'.out.set hs2.out.2.1 J, by rw [List.getElem?_set_ne hIk.out]; exact Hz'.out, Hst.out, Hset.out, (hb'.trans (hb5.mono hb'.size)).setCell (Nat.le_refl _) _⟩
          case measure => (simp [intOf] <;> omega)
        · obtain rfl : k = m.length := by omega
          have hIk : Hid (I + m.length < N) := Lib.hid nI
          obtain ⟨J, hJ⟩ : ∃ J, I + m.length = J := ⟨_, rfl⟩
          have nIk : (I : Int) + (m.length : Int) = (J : Int) := by omega
          have HJ := Lib.hid hJ
          rw [hJ] at nI
          have Hz2 : Hid (o'[J]? = some 0) := Lib.hid (by rw [← hJ]; exact Hz'.out)
          have d0 := Own.at1 (f := fun n : Nat => Value.int .i64 n) hown' Hol'.out Hz2.out
          have d1 := Own.fr1 (f := fun n : Nat => Value.int .i64 n) hown' Hol'.out J
          have Hend : Hid (valB 256 (o'.set J s) = valB 256 (l.take (I + 1)) * valB 256 m) := Lib.hid (by
            rw [← HJ.out]
            exact rmul_end hx.out Hz'.out (by have := Hv'.out; rwa [List.take_length] at this))
          have Hset : Hid (Own (wr.setCell ⟨w.heap.size, J, none⟩ (.int .i64 (s : Int))) w.heap.size 3 1 encD (.slice (some ⟨w.heap.size, 0, none⟩) N N) (o'.set J s)) := Lib.hid (Own.set1 (f := fun n : Nat => Value.int .i64 n) hown' Hol'.out J s)
          have f0 := later_cell d0
          clear hJ
          go_wp2
          go_roundw
          case rel => exact ⟨I + 1, o'.set J s, by omega, by go_num, by rw [List.length_set]; exact Hol'.out, Hd'.out.set hs J, Hend.out, Hset.out, hb'.setCell (Nat.le_refl _) _⟩
          case measure => (simp [intOf] <;> omega)
    · obtain rfl : I = l.length := by omega
      have hw3 : Dn wr (some ⟨w.heap.size, 0, none⟩) N o := own_dn2 hown hd
      have hfin : valB 256 o = valB 256 l * valB 256 m := by rwa [List.take_length] at hv
      have cT := rtrim_dn hw3
      have ht := Own.trimD hown hd
      rw [hfin] at cT ht
      rw [hol] at cT
      have Ht := Lib.hid ht
      clear hv hd hol hfin ht
      go_wp2_with (go_at_call 131; refine (cT).mono ?_; rintro e w' ⟨rfl, rfl⟩)
      go_ret
      exact ⟨_, rfl, Ht.out, hb⟩

end Go.Proofs.Ytmlppnapodamaaa
