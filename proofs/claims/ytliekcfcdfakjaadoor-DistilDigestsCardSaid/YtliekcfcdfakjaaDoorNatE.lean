/- Contracts of exact's size, bit, double. For numbers of at most a million limbs. -/
import Derived.Test.YtliekcfcdfakjaaDoorNatD
import Derived.Laws.BitsAllLaws
namespace Go.Proofs.YtliekcfcdfakjaaDoor
open Go.RowKit
set_option linter.unusedVariables false
set_option linter.unusedSimpArgs false

/-- How many binary digits a number has. -/
def bitLen (n : Nat) : Nat := (digB 2 n).length
theorem bitLen_zero : bitLen 0 = 0 := by unfold bitLen; rw [digB_zero]; rfl
theorem bitLen_pos {n : Nat} (h : 0 < n) : bitLen n = bitLen (n / 2) + 1 := by unfold bitLen; rw [digB_pos (by decide) h]; rfl
theorem bitLen_lt (n : Nat) : n < 2 ^ bitLen n := digB_lt (by decide) n
theorem bitLen_le {n k : Nat} (h : n < 2 ^ k) : bitLen n ≤ k := digB_len_le (by decide) h
theorem bitLen_eq {n k : Nat} (h1 : n < 2 ^ k) (h2 : ∀ j, j < k → 2 ^ j ≤ n) : bitLen n = k := by
  have := bitLen_le h1
  rcases Nat.lt_or_ge (bitLen n) k with h | h
  · have h3 := h2 _ h
    have h4 := bitLen_lt n
    omega
  · omega
theorem bitLen_ge {n : Nat} (h : 0 < n) : 2 ^ (bitLen n - 1) ≤ n := by
  rcases Nat.lt_or_ge n (2 ^ (bitLen n - 1)) with h1 | h1
  · have := bitLen_le h1
    have := bitLen_pos h
    omega
  · exact h1
theorem bitLen_high {lo k x : Nat} (h : lo < 2 ^ k) (hx : 0 < x) : bitLen (lo + 2 ^ k * x) = k + bitLen x := by
  have h1 := bitLen_lt x
  have h2 := bitLen_ge hx
  have h3 := bitLen_pos hx
  refine bitLen_eq ?_ fun j hj => ?_
  · have : 2 ^ k * (x + 1) ≤ 2 ^ k * 2 ^ bitLen x := Nat.mul_le_mul_left _ h1
    rw [Nat.pow_add]
    rw [Nat.mul_add] at this
    omega
  · have a1 : 2 ^ j ≤ 2 ^ (k + (bitLen x - 1)) := Nat.pow_le_pow_right (by decide) (by omega)
    have a2 : 2 ^ k * 2 ^ (bitLen x - 1) ≤ 2 ^ k * x := Nat.mul_le_mul_left _ h2
    rw [Nat.pow_add] at a1
    omega
theorem b32_pow (k : Nat) : B32 ^ k = 2 ^ (32 * k) := by rw [Nat.pow_mul]
theorem bitLen_limbs {n k x : Nat} (hl : (limbs n).length = k + 1) (hx : (limbs n)[k]? = some x) : 0 < x ∧ x < B32 ∧ bitLen n = 32 * k + bitLen x := by
  have h1 := valB_snoc (b := B32) hx
  rw [List.take_of_length_le (by omega)] at h1
  have h2 : valB B32 (limbs n) = n := V_limbs n
  have h3 := valB_lt ((limbs_dig n).take k)
  rw [List.length_take, Nat.min_eq_left (by omega), b32_pow] at h3
  have hp : 0 < x := by
    rcases Nat.eq_zero_or_pos x with rfl | h
    · have h4 : n < B32 ^ k := by
        rw [b32_pow]; rw [h2] at h1; omega
      have := digB_len_le b32 h4
      unfold limbs at hl
      omega
    · exact h
  refine ⟨hp, (limbs_dig n).get hx, ?_⟩
  rw [← h2, h1, b32_pow, bitLen_high h3 hp]

set_option maxRecDepth 100000 in
set_option maxHeartbeats 1000000 in
theorem size_any (A : Option Addr) (c : Nat) (l : List Nat) (w : World) (hA : Nt w A c l) (hl : l.length ≤ 1000000) :
    Calls Tryd.prog 98 #[.slice A l.length c] w fun e w' => e = .returned (.int .i64 (bitLen (V l))) ∧ w = w' := by
  have cT := trim_any _ _ l _ hA.arr hA.len hA.cap
  have k1 := trimL_le l
  have ha := hA.arr.take (trimL l).length
  rw [← trimL_take] at ha
  rw [trim_limbs hA.dig] at cT k1 ha
  have hbl := fun k x h1 h2 => bitLen_limbs (n := V l) (k := k) (x := x) h1 h2
  have h0 : limbs (V l) = [] → bitLen (V l) = 0 := fun h => by
    have := V_limbs (V l)
    rw [h] at this
    rw [← this]; exact bitLen_zero
  generalize limbs (V l) = L at *
  have Hbl := Lib.hid hbl; have H0 := Lib.hid h0
  clear hbl h0
  cases hk : L.length with
  | zero =>
    have e0 := List.eq_nil_of_length_eq_zero hk
    rw [hk] at cT
    go_enter Tryd.func98, Tryd.ntmps98
    go_wp2_with (go_at_call 77; refine (cT).mono ?_; rintro e w' ⟨rfl, rfl⟩)
    go_ret
    exact ⟨ret_int (by rw [H0.out e0]; rfl), rfl⟩
  | succ k =>
    obtain ⟨b1, o1, x, rfl, hb1, hx, c1⟩ := ha.u32 (k := k) (by omega) (Below.refl _ _)
    rw [hk] at cT
    obtain ⟨x0, x1, x2⟩ := Hbl.out _ _ hk hx.out
    have X2 := Lib.hid x2
    have k2 : k < 1000000 := by omega
    clear x2 hk
    simp only [B32] at x1
    go_enter Tryd.func98, Tryd.ntmps98
    go_wp2_with (go_at_call 77; refine (cT).mono ?_; rintro e w' ⟨rfl, rfl⟩)
    clear cT
    have x3 : bitLen x ≤ 32 := bitLen_le (by omega)
    have jb : Hid (bitLen (V l) ≤ 32000032) := Lib.hid (by rw [X2.out]; omega)
    clear x3
    go_loop [3, 4] (fun n y => ∃ (j z : Nat), n = .int .i64 j ∧ y = .int .u32 z ∧ z ≤ x ∧ j ≤ 32000032 ∧ j + bitLen z = bitLen (V l)) (fun _ y => (intOf y).toNat)
    case atStart => exact ⟨32 * k, x, by go_num, rfl, Nat.le_refl _, by have := jb.out; have := X2.out; omega, X2.out.symm⟩
    case round =>
      obtain ⟨j, z, rfl, rfl, hz, hjb, hj⟩ := hrel
      have Hj := Lib.hid hj
      clear hj
      rcases Nat.eq_zero_or_pos z with rfl | hz0
      · go_wp2
        go_ret
        exact ⟨ret_int (by rw [← Hj.out, bitLen_zero]; rfl), rfl⟩
      · have hp := Lib.hid (bitLen_pos hz0)
        go_wp2
        go_round
        case rel => exact ⟨j + 1, z / 2, by go_num, rfl, by omega, by have := jb.out; have := Hj.out; have := hp.out; omega, by have := Hj.out; have := hp.out; omega⟩
        case measure => (simp [intOf] <;> omega)

theorem bit_val {l : List Nat} {i x : Nat} (hx : l[i / 32]? = some x) (dl : Dig B32 l) : V l / 2 ^ i % 2 = x / 2 ^ (i % 32) % 2 := by
  have hk := (List.getElem?_eq_some_iff.1 hx).1
  have h1 := valB_split (b := B32) l (i / 32 + 1) (by omega)
  rw [valB_snoc hx] at h1
  have h2 := valB_lt (dl.take (i / 32))
  rw [List.length_take, Nat.min_eq_left (by omega)] at h2
  have e1 : (2 : Nat) ^ i = B32 ^ (i / 32) * 2 ^ (i % 32) := by
    rw [b32_pow, ← Nat.pow_add]; congr 1; omega
  have e2 : V l = valB B32 (l.take (i / 32)) + B32 ^ (i / 32) * (x + B32 * valB B32 (l.drop (i / 32 + 1))) := by
    unfold V; rw [h1, Nat.pow_succ, Nat.mul_add, Nat.mul_assoc]; omega
  have e3 : B32 = 2 ^ (i % 32) * (2 * 2 ^ (31 - i % 32)) := by
    rw [← Nat.pow_succ', ← Nat.pow_add, show i % 32 + (31 - i % 32).succ = 32 from by omega]
  rw [e1, ← Nat.div_div_eq_div_mul, e2, Nat.add_mul_div_left _ _ (Nat.pow_pos (by decide)), Nat.div_eq_of_lt h2, Nat.zero_add]
  generalize valB B32 (l.drop (i / 32 + 1)) = hi
  rw [show B32 * hi = 2 ^ (i % 32) * (2 * (2 ^ (31 - i % 32) * hi)) from by rw [e3, Nat.mul_assoc, Nat.mul_assoc], Nat.add_mul_div_left _ _ (Nat.pow_pos (by decide)), Nat.add_mul_mod_self_left]

theorem bit_and {x s : Nat} (hx : x < 4294967296) : bits .and .u32 ((x : Int) / 2 ^ s) 1 = ((x / 2 ^ s % 2 : Nat) : Int) := by
  have h : x / 2 ^ s < 4294967296 := Nat.lt_of_le_of_lt (Nat.div_le_self _ _) hx
  have := u32_and_nat (x / 2 ^ s) 1 h (by decide)
  rw [nat_mask1] at this
  rw [← this]
  simp

set_option maxRecDepth 100000 in
set_option maxHeartbeats 1000000 in
theorem bit_any (A : Option Addr) (c : Nat) (l : List Nat) (i : Nat) (w : World) (hA : Nt w A c l) (hl : l.length ≤ 1000000) (hi : i / 32 < l.length) :
    Calls Tryd.prog 127 #[.slice A l.length c, .int .i64 i] w fun e w' => e = .returned (.int .u32 ((V l / 2 ^ i % 2 : Nat) : Int)) ∧ w = w' := by
  obtain ⟨b1, o1, x, rfl, hb1, hx, c1⟩ := hA.arr.u32 (k := i / 32) (by omega) (Below.refl _ _)
  have E := Lib.hid (bit_val hx.out hA.dig)
  have x1 := hA.lt hx.out
  go_enter Tryd.func127, Tryd.ntmps127
  go_wp2
  go_ret
  exact ⟨ret_int (by rw [E.out]; exact bit_and x1), rfl⟩

theorem double_step {l o : List Nat} {k h z lo q r : Nat} (hk : k < o.length) (hz : l[k]? = some z) (hv : valB B32 (o.take k) + B32 ^ k * h = 2 * valB B32 (l.take k) + lo) (hr : r + B32 * q = 2 * z + h) :
    valB B32 ((o.set k r).take (k + 1)) + B32 ^ (k + 1) * q = 2 * valB B32 (l.take (k + 1)) + lo := by
  rw [set_val hk, valB_snoc hz, Nat.pow_succ, Nat.mul_assoc]
  have := congrArg (B32 ^ k * ·) hr
  simp only [Nat.mul_add] at this
  have e : B32 ^ k * (2 * z) = 2 * (B32 ^ k * z) := Nat.mul_left_comm _ _ _
  omega
theorem drop_get {l o : List Nat} {k : Nat} (h : o.drop k = l.drop k) : o[k]? = l[k]? := by
  have := congrArg (fun x => x[0]?) h
  simpa [List.getElem?_drop] using this
theorem drop_set {l o : List Nat} {k r : Nat} (h : o.drop k = l.drop k) : (o.set k r).drop (k + 1) = l.drop (k + 1) := by
  rw [List.drop_set_of_lt (by omega)]
  have := congrArg (List.drop 1) h
  rw [List.drop_drop, List.drop_drop] at this
  exact this
theorem grown_trans {a b c : World} {g : Option Nat} (h : a.grownBy b g) (k : b.grownBy c g) : a.grownBy c g :=
  ⟨k.os.trans h.os, k.tape.trans h.tape, k.output.trans h.output, Nat.le_trans h.size k.size, fun j hj hn => (k.block j (Nat.lt_of_lt_of_le hj h.size) hn).trans (h.block j hj hn)⟩
theorem grown_refl (a : World) (g : Option Nat) : a.grownBy a g := ⟨rfl, rfl, rfl, Nat.le_refl _, fun _ _ _ => rfl⟩
theorem grown_set (w : World) (g k : Nat) (u : Value) : w.grownBy (w.setCell ⟨g, k, none⟩ u) (some g) :=
  ⟨(Below.refl 0 w |>.setCell (Nat.zero_le _) u).os, (Below.refl 0 w |>.setCell (Nat.zero_le _) u).tape, (Below.refl 0 w |>.setCell (Nat.zero_le _) u).output, (Below.refl 0 w |>.setCell (Nat.zero_le _) u).size, fun j _ hn => Below.heap_setCell w _ u j (by rintro rfl; exact hn rfl)⟩

theorem dbl_limb {z h : Nat} (hz : z < 4294967296) (hh : h ≤ 1) : ∃ q r : Nat, (z : Int) / 2147483648 = (q : Int) ∧ bits .or .u32 ((z : Int) * 2 % 4294967296) (h : Int) = (r : Int) ∧ Hid (q ≤ 1 ∧ r < B32 ∧ r + B32 * q = 2 * z + h) := by
  refine ⟨z / 2147483648, z * 2 % 4294967296 + h, by omega, ?_, Lib.hid ⟨by omega, by simp only [B32]; omega, by simp only [B32]; omega⟩⟩
  have h1 := u32_or_nat (z * 2 % 4294967296) h (by omega) (by omega)
  rw [nat_join 1 _ _ (by omega) (by omega)] at h1
  rw [← h1]
  congr 1

set_option maxRecDepth 100000 in
set_option maxHeartbeats 2000000 in
theorem double_any (g : Nat) (l : List Nat) (lo base n : Nat) (w : World) (hA : Own w base 98 1 enc32 (.slice (some ⟨g, 0, none⟩) n n) l) (hn : l.length = n) (hd : Dig B32 l) (hl : n ≤ 2000000) (hlo : lo ≤ 1) :
    Calls Tryd.prog 126 #[.slice (some ⟨g, 0, none⟩) n n, .int .u32 lo] w fun e w' => e = .returned (.tuple #[]) ∧ ∃ l' h, l'.length = n ∧ Dig B32 l' ∧ V l' + B32 ^ n * h = 2 * V l + lo ∧ Own w' base 98 1 enc32 (.slice (some ⟨g, 0, none⟩) n n) l' ∧ w.grownBy w' (some g) := by
  have Hn := Lib.hid hn; have Hd := Lib.hid hd
  clear hn hd
  go_enter Tryd.func126, Tryd.ntmps126
  go_wp2
  go_loopw [1, 8] (fun lw i wr => ∃ (k h : Nat) (o : List Nat), k ≤ n ∧ i = .int .i64 k ∧ lw = .int .u32 h ∧ h ≤ 1 ∧ o.length = n ∧ Dig B32 o ∧ o.drop k = l.drop k ∧ valB B32 (o.take k) + B32 ^ k * h = 2 * valB B32 (l.take k) + lo ∧
    Own wr base 98 1 enc32 (.slice (some ⟨g, 0, none⟩) n n) o ∧ w.grownBy wr (some g)) (fun _ i _ => n - (intOf i).toNat)
  case atStart => exact ⟨0, lo, l, Nat.zero_le _, rfl, rfl, hlo, Hn.out, Hd.out, rfl, by simp [valB], hA, grown_refl _ _⟩
  case round =>
    obtain ⟨k, h, o, hk, rfl, rfl, hh, hol, hdo, hdr, hv, hown, hgr⟩ := hrel
    have Hol := Lib.hid hol; have Hdo := Lib.hid hdo; have Hdr := Lib.hid hdr; have Hv := Lib.hid hv
    clear hol hdo hdr hv
    by_cases hlt : k < n
    · obtain ⟨z, hz⟩ : ∃ z, o[k]? = some z := ⟨_, List.getElem?_eq_getElem (by rw [Hol.out]; exact hlt)⟩
      have z1 : z < 4294967296 := Hdo.out.get hz
      have d0 := Own.at1 (f := fun n : Nat => Value.int .u32 n) hown Hol.out hz
      have d1 := Own.fr1 (f := fun n : Nat => Value.int .u32 n) hown Hol.out k
      have Hz := Lib.hid hz
      clear hz
      obtain ⟨q, r, w1, w2, hqr⟩ := dbl_limb z1 hh
      have Hst := Lib.hid (double_step (l := l) (o := o) (by rw [Hol.out]; exact hlt) (by rw [← drop_get Hdr.out]; exact Hz.out) Hv.out hqr.out.2.2)
      have Hset : Hid (Own (wr.setCell ⟨g, k, none⟩ (.int .u32 (r : Int))) base 98 1 enc32 (.slice (some ⟨g, 0, none⟩) n n) (o.set k r)) := Lib.hid (Own.set1 (f := fun n : Nat => Value.int .u32 n) hown Hol.out k r)
      go_wp2
      go_roundw
      case rel => exact ⟨k + 1, q, o.set k r, by omega, by go_num, rfl, hqr.out.1, by rw [List.length_set]; exact Hol.out, Hdo.out.set hqr.out.2.1 k, drop_set Hdr.out, Hst.out, Hset.out, grown_trans hgr (grown_set _ _ _ _)⟩
      case measure => (simp [intOf] <;> omega)
    · obtain rfl : k = n := by omega
      go_wp2
      go_end0
      have := Hv.out
      rw [List.take_of_length_le (by rw [Hol.out]; exact Nat.le_refl _), List.take_of_length_le (by rw [Hn.out]; exact Nat.le_refl _)] at this
      exact ⟨rfl, o, h, Hol.out, Hdo.out, this, hown, hgr⟩

end Go.Proofs.YtliekcfcdfakjaaDoor
