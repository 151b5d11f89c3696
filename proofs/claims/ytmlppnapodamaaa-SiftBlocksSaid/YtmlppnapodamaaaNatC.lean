/- Contract of exact's minus. For numbers of at most a million limbs. -/
import Derived.Test.YtmlppnapodamaaaNatB
namespace Go.Proofs.Ytmlppnapodamaaa
open Go.RowKit
set_option linter.unusedVariables false
set_option linter.unusedSimpArgs false

/-- One step of a subtraction. -/
theorem minus_step {l m o : List Nat} {k s q r : Nat} (hk : k < o.length) (h : valB B32 (o.take k) + valB B32 (m.take k) = valB B32 (l.take k) + B32 ^ k * s) (hs : r + m[k]?.getD 0 + s = l[k]?.getD 0 + B32 * q) :
    valB B32 ((o.set k r).take (k + 1)) + valB B32 (m.take (k + 1)) = valB B32 (l.take (k + 1)) + B32 ^ (k + 1) * q := by
  rw [set_val hk, getD_take, getD_take, Nat.pow_succ, Nat.mul_assoc]
  have := congrArg (B32 ^ k * ·) hs
  simp only [Nat.mul_add] at this
  omega
theorem minus_end {l m o : List Nat} {s : Nat} (h : valB B32 o + valB B32 (m.take o.length) = valB B32 l + B32 ^ o.length * s) (dl : Dig B32 l) (do_ : Dig B32 o) (ho : o.length = l.length) (hle : V m ≤ V l) : V o = V l - V m := by
  have a1 := valB_lt dl
  have a2 := valB_lt do_
  rw [← ho] at a1
  have e : valB B32 (m.take o.length) = V m := by
    by_cases hm : o.length ≤ m.length
    · have := valB_split (b := B32) m o.length hm
      unfold V at *
      rcases Nat.eq_zero_or_pos (valB B32 (m.drop o.length)) with h0 | h0
      · rw [this, h0]; simp
      · have : B32 ^ o.length * 1 ≤ B32 ^ o.length * valB B32 (m.drop o.length) := Nat.mul_le_mul_left _ h0
        omega
    · rw [List.take_of_length_le (by omega)]; rfl
  rw [e] at h
  unfold V at *
  rcases Nat.eq_zero_or_pos s with rfl | hs
  · omega
  · have : B32 ^ o.length * 1 ≤ B32 ^ o.length * s := Nat.mul_le_mul_left _ hs
    omega

theorem sub_limb {x s y : Nat} (hx : x < 4294967296) (hs : s ≤ 1) (hy : y < 4294967296) : ∃ t1 t q r : Nat, IntKind.u64.wrap ((x : Int) - (s : Int)) = (t1 : Int) ∧ IntKind.u64.wrap ((t1 : Int) - (y : Int)) = (t : Int) ∧ (t : Int) % 4294967296 = (r : Int) ∧
    Hid ((t : Int) / 9223372036854775808 = (q : Int)) ∧ Hid (q ≤ 1 ∧ r < B32 ∧ r + y + s = x + B32 * q) := by
  simp only [IntKind.wrap_u64]
  rcases Nat.lt_or_ge x (s + y) with h | h
  · refine ⟨(((x : Int) - s) % 18446744073709551616).toNat, 18446744073709551616 + x - s - y, 1, 4294967296 + x - s - y, by omega, by omega, by omega, Lib.hid (by omega), Lib.hid ⟨by omega, by simp only [B32]; omega, by simp only [B32]; omega⟩⟩
  · refine ⟨x - s, x - s - y, 0, x - s - y, by omega, by omega, by omega, Lib.hid (by omega), Lib.hid ⟨by omega, by simp only [B32]; omega, by simp only [B32]; omega⟩⟩

set_option maxRecDepth 100000 in
set_option maxHeartbeats 2000000 in
theorem minus_any (A : Option Addr) (c : Nat) (l : List Nat) (C : Option Addr) (d : Nat) (m : List Nat) (w : World) (hA : Nt w A c l) (hC : Nt w C d m) (hl : l.length ≤ 2000000) (hm : m.length ≤ 1000000) (hle : V m ≤ V l) :
    Calls Try.prog 159 #[.slice A l.length c, .slice C m.length d] w fun e w' => ∃ v, e = .returned v ∧ Big w' w.heap.size v (V l - V m) ∧ Below w.heap.size w w' := by
  obtain ⟨i0, hi, hz0, hz1, hz2⟩ := info_parts u32_info
  have Hle := Lib.hid hle
  clear hle
  go_enter Try.func159, Try.ntmps159
  go_wp2_with (at_make; refine wpList_mk rfl _ _ 37 rfl 106 i0 _ 4 Try.underlying37 hi hz0 hz1 hz2 rfl (fun n : Nat => Value.int .u32 n) 0 rfl _ _ _ _ l.length rfl rfl (by omega) (by omega) (by omega) (by unfold maxLen; omega) ?_; intro w3 hown3 hb3)
  go_loopw [6, 14] (fun cy i wr => ∃ (k s : Nat) (o : List Nat), k ≤ l.length ∧ i = .int .i64 k ∧ cy = .int .u64 s ∧ s ≤ 1 ∧ o.length = l.length ∧ Dig B32 o ∧ valB B32 (o.take k) + valB B32 (m.take k) = valB B32 (l.take k) + B32 ^ k * s ∧
    Own wr w.heap.size 106 1 enc32 (.slice (some ⟨w.heap.size, 0, none⟩) l.length l.length) o ∧ Below w.heap.size w wr) (fun _ i _ => l.length - (intOf i).toNat)
  case atStart => exact ⟨0, 0, _, Nat.zero_le _, rfl, rfl, by decide, by simp, Dig.rep (by decide) _, by simp [valB], hown3, hb3⟩
  case round =>
    obtain ⟨k, s, o, hk, rfl, rfl, hs, hol, hd, hv, hown, hb⟩ := hrel
    have Hv := Lib.hid hv; have Hd := Lib.hid hd; have Hol := Lib.hid hol
    clear hv hd hol
    by_cases hlt : k < l.length
    · have d0 := Own.at1 (f := fun n : Nat => Value.int .u32 n) hown Hol.out (List.getElem?_eq_getElem (by rw [Hol.out]; exact hlt))
      have d1 := Own.fr1 (f := fun n : Nat => Value.int .u32 n) hown Hol.out k
      obtain ⟨b1, o1, x, rfl, hb1, hx, c1⟩ := hA.arr.u32 hlt hb
      have x1 := hA.lt hx.out
      have w1 : IntKind.u64.wrap (x : Int) = (x : Int) := wrapU rfl (by omega)
      by_cases h2 : k < m.length
      · obtain ⟨b2, o2, y, rfl, hb2, hy, c2⟩ := hC.arr.u32 h2 hb
        have y1 := hC.lt hy.out
        have w2 : IntKind.u64.wrap (y : Int) = (y : Int) := wrapU rfl (by omega)
        obtain ⟨t1, t, q, r, w3, w4, w5, hq, hs2⟩ := sub_limb x1 hs y1
        have Hst := Lib.hid (minus_step (l := l) (m := m) (o := o) (by rw [Hol.out]; exact hlt) Hv.out (by rw [hx.out, hy.out]; exact hs2.out.2.2))
        have Hset : Hid (Own (wr.setCell ⟨w.heap.size, k, none⟩ (.int .u32 (r : Int))) w.heap.size 106 1 enc32 (.slice (some ⟨w.heap.size, 0, none⟩) l.length l.length) (o.set k r)) := Lib.hid (Own.set1 (f := fun n : Nat => Value.int .u32 n) hown Hol.out k r)
        go_wp2
        go_roundw
        case rel => exact ⟨k + 1, q, o.set k r, by omega, by go_num, by rw [hq.out], hs2.out.1, by rw [List.length_set]; exact Hol.out, Hd.out.set hs2.out.2.1 k, Hst.out, Hset.out, hb.setCell (Nat.le_refl _) _⟩
        case measure => (simp [intOf] <;> omega)
      · have hy : Hid (m[k]? = none) := Lib.hid (List.getElem?_eq_none (by omega))
        obtain ⟨t1, t, q, r, w3, w4, w5, hq, hs2⟩ := sub_limb (y := 0) x1 hs (by decide)
        have e0 : t = t1 := by rw [IntKind.wrap_u64] at w3 w4; omega
        subst e0
        clear w4
        have Hst := Lib.hid (minus_step (l := l) (m := m) (o := o) (by rw [Hol.out]; exact hlt) Hv.out (by rw [hx.out, hy.out]; simpa using hs2.out.2.2))
        have Hset : Hid (Own (wr.setCell ⟨w.heap.size, k, none⟩ (.int .u32 (r : Int))) w.heap.size 106 1 enc32 (.slice (some ⟨w.heap.size, 0, none⟩) l.length l.length) (o.set k r)) := Lib.hid (Own.set1 (f := fun n : Nat => Value.int .u32 n) hown Hol.out k r)
        go_wp2
        go_roundw
        case rel => exact ⟨k + 1, q, o.set k r, by omega, by go_num, by rw [hq.out], hs2.out.1, by rw [List.length_set]; exact Hol.out, Hd.out.set hs2.out.2.1 k, Hst.out, Hset.out, hb.setCell (Nat.le_refl _) _⟩
        case measure => (simp [intOf] <;> omega)
    · obtain rfl : k = l.length := by omega
      have hw3 : Nt wr (some ⟨w.heap.size, 0, none⟩) l.length o := by
        obtain ⟨A1, c1, hv1, hn1⟩ := own_nt hown Hd.out
        simp only [Value.slice.injEq] at hv1
        obtain ⟨rfl, _, rfl⟩ := hv1
        exact hn1
      have E1 : Hid (l.length = o.length) := Lib.hid Hol.out.symm
      have hfin : V o = V l - V m := minus_end (s := s) (by have := Hv.out; rw [List.take_of_length_le (by rw [Hol.out]; exact Nat.le_refl _), List.take_length] at this; rw [Hol.out]; exact this) hA.dig Hd.out Hol.out Hle.out
      have cT := trim_any _ _ o _ hw3.arr hw3.len hw3.cap
      rw [Hol.out] at cT
      go_wp2_with (go_at_call 92; refine (cT).mono ?_; rintro e w' ⟨rfl, rfl⟩)
      go_ret
      refine ⟨_, rfl, ?_, hb⟩
      rw [← hfin]
      exact Own.trim hown Hd.out

end Go.Proofs.Ytmlppnapodamaaa
