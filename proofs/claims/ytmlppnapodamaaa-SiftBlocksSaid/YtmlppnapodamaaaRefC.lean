/- Contracts of the reference's sub, mul, nat. For at most a million digits. -/
import Derived.Test.YtmlppnapodamaaaRefB
import Derived.Test.YtmlppnapodamaaaNatC
import Derived.Test.YtmlppnapodamaaaNatD
namespace Go.Proofs.Ytmlppnapodamaaa
open Go.RowKit
set_option linter.unusedVariables false
set_option linter.unusedSimpArgs false

theorem rsub_step {l m O : List Nat} {k s q r : Nat} (hk : O.length = k) (h : valB 256 O + valB 256 (m.take k) = valB 256 (l.take k) + 256 ^ k * s) (hs : r + m[k]?.getD 0 + s = l[k]?.getD 0 + 256 * q) :
    valB 256 (O ++ [r]) + valB 256 (m.take (k + 1)) = valB 256 (l.take (k + 1)) + 256 ^ (k + 1) * q := by
  rw [valB_app, valB_one, hk, getD_take, getD_take, Nat.pow_succ, Nat.mul_assoc]
  have := congrArg (256 ^ k * ·) hs
  simp only [Nat.mul_add] at this
  omega
theorem rsub_end {l m O : List Nat} {s : Nat} (h : valB 256 O + valB 256 (m.take O.length) = valB 256 l + 256 ^ O.length * s) (dl : Dig 256 l) (do_ : Dig 256 O) (ho : O.length = l.length) (hle : valB 256 m ≤ valB 256 l) : valB 256 O = valB 256 l - valB 256 m := by
  have a1 := valB_lt dl
  have a2 := valB_lt do_
  rw [← ho] at a1
  have e : valB 256 (m.take O.length) = valB 256 m := by
    by_cases hm : O.length ≤ m.length
    · have := valB_split (b := 256) m O.length hm
      rcases Nat.eq_zero_or_pos (valB 256 (m.drop O.length)) with h0 | h0
      · rw [this, h0]; simp
      · have : 256 ^ O.length * 1 ≤ 256 ^ O.length * valB 256 (m.drop O.length) := Nat.mul_le_mul_left _ h0
        omega
    · rw [List.take_of_length_le (by omega)]
  rw [e] at h
  rcases Nat.eq_zero_or_pos s with rfl | hs
  · omega
  · have : 256 ^ O.length * 1 ≤ 256 ^ O.length * s := Nat.mul_le_mul_left _ hs
    omega

set_option maxRecDepth 100000 in
set_option maxHeartbeats 4000000 in
theorem rsub_any (A : Option Addr) (c : Nat) (l : List Nat) (C : Option Addr) (d : Nat) (m : List Nat) (w : World) (hA : Dn w A c l) (hC : Dn w C d m) (hl : l.length ≤ 8000000) (hm : m.length ≤ 8000000) (hle : valB 256 m ≤ valB 256 l) :
    Calls Try.prog 195 #[.slice A l.length c, .slice C m.length d] w fun e w' => ∃ v, e = .returned v ∧ Dg w' w.heap.size v (valB 256 l - valB 256 m) ∧ Below w.heap.size w w' := by
  obtain ⟨i0, hi, hz0, hz1, hz2⟩ := info_parts int_info
  have Hle := Lib.hid hle
  clear hle
  go_enter Try.func195, Try.ntmps195
  go_wp2
  go_loopw [5, 6, 7] (fun v cy i wr => ∃ (k s : Nat) (O : List Nat), k ≤ l.length ∧ i = .int .i64 k ∧ cy = .int .i64 s ∧ s ≤ 1 ∧ O.length = k ∧ Dig 256 O ∧ valB 256 O + valB 256 (m.take k) = valB 256 (l.take k) + 256 ^ k * s ∧
    Own wr w.heap.size 3 1 encD v O ∧ Below w.heap.size w wr) (fun _ _ i _ => l.length - (intOf i).toNat)
  case atStart => exact ⟨0, 0, [], by omega, rfl, rfl, by decide, rfl, Dig.nil, by simp [valB], Own.nil, Below.refl _ _⟩
  case round =>
    obtain ⟨k, s, O, hk, rfl, rfl, hs, hO, hd, hv, hown, hb⟩ := hrel
    have HO := Lib.hid hO; have Hd := Lib.hid hd; have Hv := Lib.hid hv
    have hOb : O.length ≤ 8000001 := by omega
    clear hO hd hv
    by_cases h1 : k < l.length
    · obtain ⟨b1, o1, x, rfl, hb1, hx, c1⟩ := hA.arr.dig h1 hb
      have x1 := hA.lt hx.out
      by_cases h2 : k < m.length
      · obtain ⟨b2, o2, y, rfl, hb2, hy, c2⟩ := hC.arr.dig h2 hb
        have y1 := hC.lt hy.out
        rcases Nat.lt_or_ge x (s + y) with hx2 | hx2
        · obtain ⟨r, hr⟩ : ∃ r : Nat, (x : Int) - (s : Int) - (y : Int) + 256 = (r : Int) := ⟨256 + x - s - y, by omega⟩
          have Hst := Lib.hid (rsub_step (l := l) (m := m) (O := O) (q := 1) (r := r) HO.out Hv.out (by rw [hx.out, hy.out]; simp; omega))
          have hr1 : Hid (r < 256) := Lib.hid (by omega)
          go_wp2_with (at_builtin; refine wpList_snoc rfl _ _ 22 rfl w.heap.size 3 i0 _ 1 8 Try.underlying22 hi hz0 hz1 hz2 rfl (by decide) _ O r #[.int .i64 r] 3 rfl hown rfl rfl rfl (encD_one _) (by omega) (by decide) hb.size rfl ?_; intro v' w5 hown5 hb5)
          go_roundw
          case rel => first | exact ⟨k + 1, 1, O ++ [r], by omega, by go_num, rfl, by decide, by rw [List.length_append, HO.out]; rfl, Hd.out.app (Dig.cons hr1.out Dig.nil), Hst.out, hown5, hb.trans hb5⟩ | ((repeat apply Exists.intro); exact ⟨⟨k + 1, 1, O ++ [r], by omega, by go_num, rfl, by decide, by rw [List.length_append, HO.out]; rfl, Hd.out.app (Dig.cons hr1.out Dig.nil), Hst.out, hown5, hb.trans hb5⟩, rfl⟩)
          case measure => (simp [intOf] <;> omega)
        · obtain ⟨r, hr⟩ : ∃ r : Nat, (x : Int) - (s : Int) - (y : Int) = (r : Int) := ⟨x - s - y, by omega⟩
          have Hst := Lib.hid (rsub_step (l := l) (m := m) (O := O) (q := 0) (r := r) HO.out Hv.out (by rw [hx.out, hy.out]; simp; omega))
          have hr1 : Hid (r < 256) := Lib.hid (by omega)
          go_wp2_with (at_builtin; refine wpList_snoc rfl _ _ 22 rfl w.heap.size 3 i0 _ 1 8 Try.underlying22 hi hz0 hz1 hz2 rfl (by decide) _ O r #[.int .i64 r] 3 rfl hown rfl rfl rfl (encD_one _) (by omega) (by decide) hb.size rfl ?_; intro v' w5 hown5 hb5)
          go_roundw
          case rel => first | exact ⟨k + 1, 0, O ++ [r], by omega, by go_num, rfl, by decide, by rw [List.length_append, HO.out]; rfl, Hd.out.app (Dig.cons hr1.out Dig.nil), Hst.out, hown5, hb.trans hb5⟩ | ((repeat apply Exists.intro); exact ⟨⟨k + 1, 0, O ++ [r], by omega, by go_num, rfl, by decide, by rw [List.length_append, HO.out]; rfl, Hd.out.app (Dig.cons hr1.out Dig.nil), Hst.out, hown5, hb.trans hb5⟩, rfl⟩)
          case measure => (simp [intOf] <;> omega)
      · have hy : Hid (m[k]? = none) := Lib.hid (List.getElem?_eq_none (by omega))
        rcases Nat.lt_or_ge x s with hx2 | hx2
        · obtain ⟨r, hr⟩ : ∃ r : Nat, (x : Int) - (s : Int) + 256 = (r : Int) := ⟨256 + x - s, by omega⟩
          have Hst := Lib.hid (rsub_step (l := l) (m := m) (O := O) (q := 1) (r := r) HO.out Hv.out (by rw [hx.out, hy.out]; simp; omega))
          have hr1 : Hid (r < 256) := Lib.hid (by omega)
          go_wp2_with (at_builtin; refine wpList_snoc rfl _ _ 22 rfl w.heap.size 3 i0 _ 1 8 Try.underlying22 hi hz0 hz1 hz2 rfl (by decide) _ O r #[.int .i64 r] 3 rfl hown rfl rfl rfl (encD_one _) (by omega) (by decide) hb.size rfl ?_; intro v' w5 hown5 hb5)
          go_roundw
          case rel => first | exact ⟨k + 1, 1, O ++ [r], by omega, by go_num, rfl, by decide, by rw [List.length_append, HO.out]; rfl, Hd.out.app (Dig.cons hr1.out Dig.nil), Hst.out, hown5, hb.trans hb5⟩ | ((repeat apply Exists.intro); exact ⟨⟨k + 1, 1, O ++ [r], by omega, by go_num, rfl, by decide, by rw [List.length_append, HO.out]; rfl, Hd.out.app (Dig.cons hr1.out Dig.nil), Hst.out, hown5, hb.trans hb5⟩, rfl⟩)
          case measure => (simp [intOf] <;> omega)
        · obtain ⟨r, hr⟩ : ∃ r : Nat, (x : Int) - (s : Int) = (r : Int) := ⟨x - s, by omega⟩
          have Hst := Lib.hid (rsub_step (l := l) (m := m) (O := O) (q := 0) (r := r) HO.out Hv.out (by rw [hx.out, hy.out]; simp; omega))
          have hr1 : Hid (r < 256) := Lib.hid (by omega)
          go_wp2_with (at_builtin; refine wpList_snoc rfl _ _ 22 rfl w.heap.size 3 i0 _ 1 8 Try.underlying22 hi hz0 hz1 hz2 rfl (by decide) _ O r #[.int .i64 r] 3 rfl hown rfl rfl rfl (encD_one _) (by omega) (by decide) hb.size rfl ?_; intro v' w5 hown5 hb5)
          go_roundw
          case rel => first | exact ⟨k + 1, 0, O ++ [r], by omega, by go_num, rfl, by decide, by rw [List.length_append, HO.out]; rfl, Hd.out.app (Dig.cons hr1.out Dig.nil), Hst.out, hown5, hb.trans hb5⟩ | ((repeat apply Exists.intro); exact ⟨⟨k + 1, 0, O ++ [r], by omega, by go_num, rfl, by decide, by rw [List.length_append, HO.out]; rfl, Hd.out.app (Dig.cons hr1.out Dig.nil), Hst.out, hown5, hb.trans hb5⟩, rfl⟩)
          case measure => (simp [intOf] <;> omega)
    · obtain rfl : k = l.length := by omega
      obtain ⟨A1, c1, rfl, n1⟩ := own_dn hown Hd.out
      have cT := rtrim_dn n1
      have hfin : valB 256 O = valB 256 l - valB 256 m := rsub_end (s := s) (by have := Hv.out; rw [List.take_length] at this; rw [HO.out]; exact this) hA.dig Hd.out HO.out Hle.out
      have ht := Own.trimD hown Hd.out
      rw [hfin] at cT ht
      go_wp2_with (go_at_call 131; refine (cT).mono ?_; rintro e w' ⟨rfl, rfl⟩)
      go_ret
      exact ⟨_, rfl, ht, hb⟩

end Go.Proofs.Ytmlppnapodamaaa
