/- Contract of exact's times. For numbers of at most a million limbs. -/
import Derived.Test.YtmlppnapodamaaaNatC
namespace Go.Proofs.Ytmlppnapodamaaa
open Go.RowKit
set_option linter.unusedVariables false
set_option linter.unusedSimpArgs false

theorem valB_ge {b : Nat} {l : List Nat} {k x : Nat} (h : l[k]? = some x) : b ^ k * x ≤ valB b l := by
  have hk := (List.getElem?_eq_some_iff.1 h).1
  have h1 := valB_split (b := b) l (k + 1) (by omega)
  rw [valB_snoc h] at h1
  omega
theorem valB_zero {b : Nat} {l : List Nat} {k x : Nat} (h : l[k]? = some x) (hv : valB b l < b ^ k) : x = 0 := by
  rcases Nat.eq_zero_or_pos x with h0 | h0
  · exact h0
  · have h1 := valB_ge (b := b) h
    have : b ^ k * 1 ≤ b ^ k * x := Nat.mul_le_mul_left _ h0
    omega
/-- One step of the inner loop of a product. -/
theorem times_step {m o : List Nat} {I k s x y z q r P : Nat} (hz : o[I + k]? = some z) (hy : m[k]? = some y) (h : valB B32 o + B32 ^ (I + k) * s = P + B32 ^ I * (x * valB B32 (m.take k))) (ht : r + B32 * q = s + (x * y + z)) :
    valB B32 (o.set (I + k) r) + B32 ^ (I + (k + 1)) * q = P + B32 ^ I * (x * valB B32 (m.take (k + 1))) := by
  have h1 := valB_set (b := B32) (y := r) hz
  rw [valB_snoc hy]
  have e1 : B32 ^ (I + (k + 1)) * q = B32 ^ (I + k) * (B32 * q) := by rw [show I + (k + 1) = I + k + 1 from by omega, Nat.pow_succ, Nat.mul_assoc]
  have e2 : B32 ^ I * (x * (valB B32 (m.take k) + B32 ^ k * y)) = B32 ^ I * (x * valB B32 (m.take k)) + B32 ^ (I + k) * (x * y) := by
    rw [Nat.mul_add, Nat.mul_add, Nat.pow_add]
    congr 1
    rw [Nat.mul_assoc, Nat.mul_left_comm x]
  rw [e1, e2]
  have := congrArg (B32 ^ (I + k) * ·) ht
  simp only [Nat.mul_add] at this
  omega
theorem times_end {l m o : List Nat} {I s x : Nat} (hx : l[I]? = some x) (hz : o[I + m.length]? = some 0) (h : valB B32 o + B32 ^ (I + m.length) * s = valB B32 (l.take I) * V m + B32 ^ I * (x * valB B32 m)) :
    valB B32 (o.set (I + m.length) s) = valB B32 (l.take (I + 1)) * V m := by
  have h1 := valB_set (b := B32) (y := s) hz
  rw [valB_snoc hx, Nat.add_mul, Nat.mul_assoc]
  unfold V at *
  omega
theorem times_zero {l m o : List Nat} {I z : Nat} (hz : o[I + m.length]? = some z) (h : valB B32 o = valB B32 (l.take I) * V m) (hI : I ≤ l.length) (dl : Dig B32 l) (dm : Dig B32 m) : z = 0 := by
  refine valB_zero (b := B32) hz ?_
  rw [h, Nat.pow_add]
  have h1 := valB_lt (dl.take I)
  rw [List.length_take, Nat.min_eq_left hI] at h1
  have h2 := valB_lt dm
  exact Nat.mul_lt_mul'' h1 h2
theorem mul_limb {x y z s : Nat} (hx : x < 4294967296) (hy : y < 4294967296) (hz : z < 4294967296) (hs : s < 4294967296) :
    ∃ p pz t q r : Nat, IntKind.u64.wrap ((x : Int) * (y : Int)) = (p : Int) ∧ IntKind.u64.wrap ((p : Int) + (z : Int)) = (pz : Int) ∧ IntKind.u64.wrap ((s : Int) + (pz : Int)) = (t : Int) ∧ (t : Int) / 4294967296 = (q : Int) ∧ (t : Int) % 4294967296 = (r : Int) ∧
      Hid (q < 4294967296 ∧ r < B32 ∧ r + B32 * q = s + (x * y + z)) := by
  have h1 : x * y ≤ 4294967295 * 4294967295 := Nat.mul_le_mul (by omega) (by omega)
  have hc : ((x : Int) * (y : Int)) = ((x * y : Nat) : Int) := by simp
  refine ⟨x * y, x * y + z, s + (x * y + z), (s + (x * y + z)) / 4294967296, (s + (x * y + z)) % 4294967296, wrapU hc (by omega), wrapU (by omega) (by omega), wrapU (by omega) (by omega), by omega, by omega, Lib.hid ⟨by omega, by simp only [B32]; omega, by simp only [B32]; omega⟩⟩

set_option maxRecDepth 100000 in
set_option maxHeartbeats 4000000 in
theorem times_any (A : Option Addr) (c : Nat) (l : List Nat) (C : Option Addr) (d : Nat) (m : List Nat) (w : World) (hA : Nt w A c l) (hC : Nt w C d m) (hl : l.length ≤ 1000000) (hm : m.length ≤ 1000000) :
    Calls Try.prog 121 #[.slice A l.length c, .slice C m.length d] w fun e w' => ∃ v, e = .returned v ∧ Big w' w.heap.size v (V l * V m) ∧ Below w.heap.size w w' := by
  obtain ⟨i0, hi, hz0, hz1, hz2⟩ := info_parts u32_info
  obtain ⟨N, hN⟩ : ∃ N : Nat, (l.length : Int) + (m.length : Int) = (N : Int) := ⟨l.length + m.length, by omega⟩
  have n3 : N ≤ 2000000 := by omega
  have n4 : Hid (l.length + m.length = N) := Lib.hid (by omega)
  go_enter Try.func121, Try.ntmps121
  go_wp2_with (at_make; refine wpList_mk rfl _ _ 37 rfl 106 i0 _ 4 Try.underlying37 hi hz0 hz1 hz2 rfl (fun n : Nat => Value.int .u32 n) 0 rfl _ _ _ _ N rfl rfl (by omega) (by omega) (by omega) (by unfold maxLen; omega) ?_; intro w3 hown3 hb3)
  clear hN
  go_loopw [17] (fun i wr => ∃ (k : Nat) (o : List Nat), k ≤ l.length ∧ i = .int .i64 k ∧ o.length = N ∧ Dig B32 o ∧ valB B32 o = valB B32 (l.take k) * V m ∧
    Own wr w.heap.size 106 1 enc32 (.slice (some ⟨w.heap.size, 0, none⟩) N N) o ∧ Below w.heap.size w wr) (fun i _ => l.length - (intOf i).toNat)
  case atStart => exact ⟨0, _, Nat.zero_le _, rfl, by simp, Dig.rep (by decide) _, by simp [valB, valB_rep], hown3, hb3⟩
  case round =>
    obtain ⟨I, o, hI, rfl, hol, hd, hv, hown, hb⟩ := hrel
    by_cases hlt : I < l.length
    · obtain ⟨b1, o1, x, rfl, hb1, hx, c1⟩ := hA.arr.u32 hlt hb
      have x1 := hA.lt hx.out
      have nI : I + m.length < N := by have := n4.out; omega
      have hz := List.getElem?_eq_getElem (l := o) (i := I + m.length) (by omega)
      have hz0 : Hid (o[I + m.length]? = some 0) := Lib.hid (by rw [hz, times_zero hz hv hI hA.dig hC.dig])
      have Hv := Lib.hid hv; have Hd := Lib.hid hd; have Hol := Lib.hid hol; have Hown := Lib.hid hown
      clear hz hv hd hol hown c1
      go_wp2
      go_loopw [7, 22] (fun cy i wr' => ∃ (k s : Nat) (o' : List Nat), k ≤ m.length ∧ i = .int .i64 k ∧ cy = .int .u64 s ∧ s < 4294967296 ∧ o'.length = N ∧ Dig B32 o' ∧ o'[I + m.length]? = some 0 ∧
        valB B32 o' + B32 ^ (I + k) * s = valB B32 (l.take I) * V m + B32 ^ I * (x * valB B32 (m.take k)) ∧
        Own wr' w.heap.size 106 1 enc32 (.slice (some ⟨w.heap.size, 0, none⟩) N N) o' ∧ Below w.heap.size w wr') (fun _ i _ => m.length - (intOf i).toNat)
      case atStart => exact ⟨0, 0, o, Nat.zero_le _, rfl, rfl, by decide, Hol.out, Hd.out, hz0.out, by rw [Hv.out]; simp [valB], Hown.out, hb⟩
      case round =>
        obtain ⟨k, s, o', hk, rfl, rfl, hs, hol', hd', hz', hv', hown', hb'⟩ := hrel
        have Hv' := Lib.hid hv'; have Hd' := Lib.hid hd'; have Hol' := Lib.hid hol'; have Hz' := Lib.hid hz'
        clear hv' hd' hol' hz'
        by_cases hkl : k < m.length
        · obtain ⟨b1', o1', x', e1, hb1', hx', c1⟩ := hA.arr.u32 hlt hb'
          obtain rfl : x = x' := by have := hx.out.symm.trans hx'.out; simpa using this
          obtain ⟨rfl, rfl⟩ : b1 = b1' ∧ o1 = o1' := by simpa using e1
          obtain ⟨b2, o2, y, rfl, hb2, hy, c2⟩ := hC.arr.u32 hkl hb'
          have y1 := hC.lt hy.out
          have hzz := List.getElem?_eq_getElem (l := o') (i := I + k) (by rw [Hol'.out]; omega)
          obtain ⟨z, hz1⟩ : ∃ z, o'[I + k]? = some z := ⟨_, hzz⟩
          clear hzz e1 hx'
          have z1 : z < 4294967296 := Hd'.out.get hz1
          have d0 := Own.at1 (f := fun n : Nat => Value.int .u32 n) hown' Hol'.out hz1
          have d1 := Own.fr1 (f := fun n : Nat => Value.int .u32 n) hown' Hol'.out (I + k)
          obtain ⟨p, pz, t, q, r, w1, w2, w3', w4, w5, hs2⟩ := mul_limb x1 y1 z1 hs
          have u1 : IntKind.u64.wrap (x : Int) = (x : Int) := wrapU rfl (by omega)
          have u2 : IntKind.u64.wrap (y : Int) = (y : Int) := wrapU rfl (by omega)
          have u3 : IntKind.u64.wrap (z : Int) = (z : Int) := wrapU rfl (by omega)
          have Hst := Lib.hid (times_step hz1 hy.out Hv'.out hs2.out.2.2)
          have hIk : Hid (I + k ≠ I + m.length) := Lib.hid (by omega)
          have jN : I + k < N := by omega
          obtain ⟨J, hJ⟩ : ∃ J, I + k = J := ⟨_, rfl⟩
          have nIk : (I : Int) + (k : Int) = (J : Int) := by omega
          rw [hJ] at d0 d1 Hst hIk jN
          rw [hJ] at hz1
          have Hz1 := Lib.hid hz1
          clear hJ hz1
          have f1 := later_cell c1
          have f2 := later_cell c2
          have f3 := later_cell d0
          go_wp2
          (refine wp_region_later (by kernel_rfl) (by kernel_rfl) ?_; (repeat (go_big_quiet_step (fail))); refine wpQuiet_nil ?_; rintro w5 ⟨⟨_, hb5⟩, rfl⟩)
          have hown5 := hown'.below hb5
          have d0' := Own.at1 (f := fun n : Nat => Value.int .u32 n) hown5 Hol'.out Hz1.out
          have d1' := Own.fr1 (f := fun n : Nat => Value.int .u32 n) hown5 Hol'.out J
          have Hset : Hid (Own (w5.setCell ⟨w.heap.size, J, none⟩ (.int .u32 (r : Int))) w.heap.size 106 1 enc32 (.slice (some ⟨w.heap.size, 0, none⟩) N N) (o'.set J r)) := Lib.hid (Own.set1 (f := fun n : Nat => Value.int .u32 n) hown5 Hol'.out J r)
          clear f1 f2 f3 d0 d1
          go_wp2
          go_roundw
          case rel => exact ⟨k + 1, q, o'.set J r, by omega, by go_num, rfl, hs2.out.1, by rw [List.length_set]; exact Hol'.out, Hd'.out.set hs2.out.2.1 J, by rw [List.getElem?_set_ne hIk.out]; exact Hz'.out, Hst.out, Hset.out, (hb'.trans (hb5.mono hb'.size)).setCell (Nat.le_refl _) _⟩
          case measure => (simp [intOf] <;> omega)
        · obtain rfl : k = m.length := by omega
          have hIk : Hid (I + m.length < N) := Lib.hid nI
          obtain ⟨J, hJ⟩ : ∃ J, I + m.length = J := ⟨_, rfl⟩
          have nIk : (I : Int) + (m.length : Int) = (J : Int) := by omega
          have HJ := Lib.hid hJ
          rw [hJ] at nI
          have Hz2 : Hid (o'[J]? = some 0) := Lib.hid (by rw [← hJ]; exact Hz'.out)
          have d0 := Own.at1 (f := fun n : Nat => Value.int .u32 n) hown' Hol'.out Hz2.out
          have d1 := Own.fr1 (f := fun n : Nat => Value.int .u32 n) hown' Hol'.out J
          have Hend : Hid (valB B32 (o'.set J s) = valB B32 (l.take (I + 1)) * V m) := Lib.hid (by
            rw [← HJ.out]
            exact times_end hx.out Hz'.out (by have := Hv'.out; rwa [List.take_length] at this))
          have Hset : Hid (Own (wr.setCell ⟨w.heap.size, J, none⟩ (.int .u32 (s : Int))) w.heap.size 106 1 enc32 (.slice (some ⟨w.heap.size, 0, none⟩) N N) (o'.set J s)) := Lib.hid (Own.set1 (f := fun n : Nat => Value.int .u32 n) hown' Hol'.out J s)
          have sm : (s : Int) % 4294967296 = (s : Int) := by omega
          clear hJ
          go_wp2
          go_roundw
          case rel => exact ⟨I + 1, o'.set J s, by omega, by go_num, by rw [List.length_set]; exact Hol'.out, Hd'.out.set (by simp only [B32]; omega) J, Hend.out, Hset.out, hb'.setCell (Nat.le_refl _) _⟩
          case measure => (simp [intOf] <;> omega)
    · obtain rfl : I = l.length := by omega
      have hw3 : Nt wr (some ⟨w.heap.size, 0, none⟩) N o := by
        obtain ⟨A1, c1, hv1, hn1⟩ := own_nt hown hd
        simp only [Value.slice.injEq] at hv1
        obtain ⟨rfl, _, rfl⟩ := hv1
        exact hn1
      have hfin : Hid (V o = V l * V m) := Lib.hid (by unfold V at *; rwa [List.take_length] at hv)
      have cT := trim_any _ _ o _ hw3.arr hw3.len hw3.cap
      rw [hol] at cT
      have Hv := Lib.hid hv; have Hd := Lib.hid hd; have Hol := Lib.hid hol
      clear hv hd hol
      go_wp2_with (go_at_call 92; refine (cT).mono ?_; rintro e w' ⟨rfl, rfl⟩)
      go_ret
      refine ⟨_, rfl, ?_, hb⟩
      rw [← hfin.out]
      exact Own.trim hown Hd.out

end Go.Proofs.Ytmlppnapodamaaa
