/- Contracts of the reference's trim, small, digits, nat, compare of numbers. For at most a million digits. -/
import Derived.Test.YtmlppnapodamaaaNatB
namespace Go.Proofs.Ytmlppnapodamaaa
open Go.RowKit
set_option linter.unusedVariables false
set_option linter.unusedSimpArgs false

/-- The slice at A with capacity c reads as digits to the base 256. -/
structure Dn (w : World) (A : Option Addr) (c : Nat) (l : List Nat) : Prop where
  arr : Arr 1 encD w w.heap.size A l
  len : l.length ≤ c
  cap : c ≤ maxLen
  dig : Dig 256 l
  nil : A = none → c = 0
theorem Dn.on {w w' : World} {A : Option Addr} {c : Nat} {l : List Nat} (h : Dn w A c l) (hb : Below w.heap.size w w') : Dn w' A c l := ⟨h.arr.on hb, h.len, h.cap, h.dig, h.nil⟩
theorem Dn.lt {w : World} {A : Option Addr} {c : Nat} {l : List Nat} (h : Dn w A c l) {k x : Nat} (hx : l[k]? = some x) : x < 256 := h.dig.get hx
theorem b8 : 2 ≤ 256 := by decide
def dg (n : Nat) : List Nat := digB 256 n
theorem dg_val (n : Nat) : valB 256 (dg n) = n := digB_val b8 n
theorem dg_dig (n : Nat) : Dig 256 (dg n) := digB_dig b8 n
/-- The call's own, normal. -/
def Dg (w : World) (base : Nat) (v : Value) (n : Nat) : Prop := Own w base 3 1 encD v (dg n)
theorem own_dn {w : World} {base : Nat} {v : Value} {l : List Nat} (h : Own w base 3 1 encD v l) (hd : Dig 256 l) : ∃ A c, v = .slice A l.length c ∧ Dn w A c l := by
  obtain ⟨A, c, hv, h1, h2, h3, h4⟩ := Own.form h encD_len
  exact ⟨A, c, hv, h4, h1, h2, hd, h3⟩
theorem own_dn2 {w : World} {base : Nat} {A : Option Addr} {n c : Nat} {l : List Nat} (h : Own w base 3 1 encD (.slice A n c) l) (hd : Dig 256 l) : Dn w A c l := by
  obtain ⟨A1, c1, hv1, hn1⟩ := own_dn h hd
  simp only [Value.slice.injEq] at hv1
  obtain ⟨rfl, _, rfl⟩ := hv1
  exact hn1
theorem Dg.dn {w : World} {base : Nat} {v : Value} {n : Nat} (h : Dg w base v n) : ∃ A c, v = .slice A (dg n).length c ∧ Dn w A c (dg n) := own_dn h (dg_dig n)
theorem Dg.below {w w' : World} {base : Nat} {v : Value} {n : Nat} (h : Dg w base v n) (hb : Below w.heap.size w w') : Dg w' base v n := Own.below h hb
theorem Dg.down {w : World} {base base' : Nat} {v : Value} {n : Nat} (h : Dg w base v n) (hb : base' ≤ base) : Dg w base' v n := Own.down h hb
theorem Own.trimD {w : World} {base : Nat} {A : Option Addr} {n c : Nat} {l : List Nat} (h : Own w base 3 1 encD (.slice A n c) l) (hd : Dig 256 l) : Dg w base (.slice A (dg (valB 256 l)).length c) (valB 256 l) := by
  have := Own.take h encD_len (trimL_le l)
  rw [← trimL_take, trimL_eq b8 hd] at this
  exact this
theorem int_info : (Try.prog.info? 3).map (fun i => (i.zero, i.size, i.bytes)) = some (some (.int .i64 0), 1, 8) := by kernel_rfl

section
variable {b : Nat}
theorem digB_at (hb : 2 ≤ b) {n k : Nat} (h : b ^ k ≤ n) : (digB b n)[k]? = some (n / b ^ k % b) := by
  induction k generalizing n with
  | zero =>
    rw [Nat.pow_zero] at h
    rw [digB_pos hb h]; simp
  | succ k ih =>
    have hp : 0 < b ^ (k + 1) := Nat.pow_pos (by omega)
    rw [digB_pos hb (by omega), List.getElem?_cons_succ, ih (by rw [Nat.le_div_iff_mul_le (by omega), ← Nat.pow_succ]; exact h), Nat.div_div_eq_div_mul, ← Nat.pow_succ']
theorem digB_lt_len (hb : 2 ≤ b) {n k : Nat} : k < (digB b n).length ↔ b ^ k ≤ n := by
  constructor
  · intro h
    rcases Nat.lt_or_ge n (b ^ k) with h1 | h1
    · have := digB_len_le hb h1; omega
    · exact h1
  · intro h
    exact (List.getElem?_eq_some_iff.1 (digB_at hb h)).1
end

set_option maxHeartbeats 1000000 in
theorem rtrim_any (A : Option Addr) (c : Nat) (l : List Nat) (w : World) (h : Arr 1 encD w w.heap.size A l) (hl : l.length ≤ c) (hc : c ≤ maxLen) :
    Calls Try.prog 131 #[.slice A l.length c] w fun e w' => e = .returned (.slice A (trimL l).length c) ∧ w = w' := by
  unfold maxLen at hc
  go_enter Try.func131, Try.ntmps131
  go_wp2
  go_loop [3] (fun i => ∃ k : Nat, k ≤ l.length ∧ i = .int .i64 k ∧ trimL (l.take k) = trimL l) (fun i => (intOf i).toNat)
  case atStart => exact ⟨_, Nat.le_refl _, rfl, by rw [List.take_length]⟩
  case round =>
    obtain ⟨k, hk, rfl, ht⟩ := hrel
    have Ht := Lib.hid ht
    clear ht
    cases k with
    | zero =>
      go_wp2
      go_ret
      exact ⟨by rw [← Ht.out]; rfl, rfl⟩
    | succ j =>
      obtain ⟨b, off, x, rfl, hbb, hq, c0⟩ := h.dig (k := j) (by omega) (Below.refl _ _)
      rcases Nat.eq_zero_or_pos x with rfl | hx
      · go_wp2
        go_round
        case rel => exact ⟨j, by omega, by go_num, by rw [← trim_next hq.out]; exact Ht.out⟩
        case measure => (simp [intOf] <;> omega)
      · have hx' : ((x : Int) == 0) = false := by simp; omega
        go_wp2
        go_ret
        exact ⟨by rw [← Ht.out, trim_stop hq.out (by omega)]; rfl, rfl⟩
theorem rtrim_dn {A : Option Addr} {c : Nat} {l : List Nat} {w : World} (h : Dn w A c l) :
    Calls Try.prog 131 #[.slice A l.length c] w fun e w' => e = .returned (.slice A (dg (valB 256 l)).length c) ∧ w = w' := by
  have := rtrim_any A c l w h.arr h.len h.cap
  rw [trimL_eq b8 h.dig] at this; exact this

/-- The four digits of a limb. -/
theorem limb_digits {x : Nat} (hx : x < 4294967296) : ∃ d0 d1 d2 d3 q1 q2 : Nat, (x : Int) % 256 = (d0 : Int) ∧ (x : Int) / 256 = (q1 : Int) ∧ (q1 : Int) % 256 = (d1 : Int) ∧ (x : Int) / 65536 = (q2 : Int) ∧ (q2 : Int) % 256 = (d2 : Int) ∧ (x : Int) / 16777216 = (d3 : Int) ∧
    Hid (Dig 256 [d0, d1, d2, d3] ∧ valB 256 [d0, d1, d2, d3] = x) := by
  refine ⟨x % 256, x / 256 % 256, x / 65536 % 256, x / 16777216, x / 256, x / 65536, by omega, by omega, by omega, by omega, by omega, by omega, Lib.hid ⟨?_, ?_⟩⟩
  · exact Dig.cons (by omega) (Dig.cons (by omega) (Dig.cons (by omega) (Dig.cons (by omega) Dig.nil)))
  · simp only [valB]; omega
theorem b8_pow (k : Nat) : 256 ^ (4 * k) = B32 ^ k := by rw [Nat.pow_mul]

set_option maxRecDepth 100000 in
set_option maxHeartbeats 1000000 in
theorem digits_any (A : Option Addr) (c : Nat) (l : List Nat) (w : World) (h : Nt w A c l) (hl : l.length ≤ 1000000) :
    Calls Try.prog 129 #[.slice A l.length c] w fun e w' => ∃ v, e = .returned v ∧ Dg w' w.heap.size v (V l) ∧ Below w.heap.size w w' := by
  obtain ⟨i0, hi, hz0, hz1, hz2⟩ := info_parts int_info
  go_enter Try.func129, Try.ntmps129
  go_wp2
  go_loopw [3, 4] (fun v i wr => ∃ (k : Nat) (O : List Nat), k ≤ l.length ∧ i = .int .i64 k ∧ O.length = 4 * k ∧ Dig 256 O ∧ valB 256 O = valB B32 (l.take k) ∧ Own wr w.heap.size 3 1 encD v O ∧ Below w.heap.size w wr) (fun _ i _ => l.length - (intOf i).toNat)
  case atStart => exact ⟨0, [], Nat.zero_le _, rfl, rfl, Dig.nil, rfl, Own.nil, Below.refl _ _⟩
  case round =>
    obtain ⟨k, O, hk, rfl, hO, hd, hv, hown, hb⟩ := hrel
    have HO := Lib.hid hO; have Hd := Lib.hid hd; have Hv := Lib.hid hv
    clear hO hd hv
    by_cases hlt : k < l.length
    · obtain ⟨b1, o1, x, rfl, hb1, hx, c1⟩ := h.arr.u32 hlt hb
      have x1 := h.lt hx.out
      obtain ⟨d0, d1, d2, d3, q1, q2, e0, e1, e2, e3, e4, e5, hds⟩ := limb_digits x1
      have hbnd : O.length ≤ 4000000 := by rw [HO.out]; omega
      have hst : Hid (valB 256 (O ++ [d0, d1, d2, d3]) = valB B32 (l.take (k + 1))) := Lib.hid (by
        rw [valB_app, HO.out, b8_pow, hds.out.2, Hv.out, valB_snoc hx.out])
      go_wp2_with (at_builtin; refine wpList_app rfl _ _ 22 rfl w.heap.size 3 i0 _ 1 8 Try.underlying22 hi hz0 hz1 hz2 rfl (by decide) (enc := encD) encD_len encD_one _ O [d0, d1, d2, d3] _ 4 _ rfl (hown.alloc _) rfl (arr_lit wr [d0, d1, d2, d3] _ 3 rfl encD_len) (fun h => by cases h) (by simp; omega) (by decide) (by have := hb.size; simp; omega) ?_; intro v' w5 hown5 hb5)
      go_roundw
      case rel => exact ⟨k + 1, O ++ [d0, d1, d2, d3], by omega, by go_num, by rw [List.length_append, HO.out]; rfl, Hd.out.app hds.out.1, hst.out, hown5, (below_alloc hb _).trans hb5⟩
      case measure => (simp [intOf] <;> omega)
    · obtain rfl : k = l.length := by omega
      obtain ⟨A1, c1, rfl, n1⟩ := own_dn hown Hd.out
      have cT := rtrim_dn n1
      have hfin : valB 256 O = V l := by rw [Hv.out, List.take_length]; rfl
      have ht := Own.trimD hown Hd.out
      rw [hfin] at cT ht
      go_wp2_with (go_at_call 131; refine (cT).mono ?_; rintro e w' ⟨rfl, rfl⟩)
      go_ret
      exact ⟨_, rfl, ht, hb⟩

end Go.Proofs.Ytmlppnapodamaaa
