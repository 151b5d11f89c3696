/- Plain laws of the greatest common divisor: halves, differences, reduced fractions. No condition. Contracts of exact's half and fit. For numbers of at most 1000000 limbs. Contract of exact's common. For numbers of at most 1000 limbs. Contract of exact's common. For numbers of at most 1000 limbs. Contracts of exact's fit and reduced. For numbers of at most 1000 limbs whose quotients have at most 64. Contract of exact's FracMul. For valid fractions of small numbers. Contracts of exact's FracAdd and FracSub. For valid fractions of small numbers. Contracts of exact's Divide and Small. For numbers of at most 64 limbs; Small for a number below 2^32. -/
import Derived.Test.YtfolgmcoggejbaaGreatNumAll
import Derived.Test.YtfolgmcoggejbaaGreatApt
import Derived.Deep.DeepCutAuto
import Derived.Deep.CutBlock
import Derived.Test.YtfolgmcoggejbaaGreatNtxAll
namespace Go.Proofs.YtfolgmcoggejbaaGreat
open Go.RowKit

theorem gcd_both {a b : Nat} (ha : a % 2 = 0) (hb : b % 2 = 0) : Nat.gcd a b = 2 * Nat.gcd (a / 2) (b / 2) := by
  rw [← Nat.gcd_mul_left]
  congr 1 <;> omega
theorem gcd_odd {a b : Nat} (h : ¬ (a % 2 = 0 ∧ b % 2 = 0)) : Nat.gcd a b % 2 = 1 := by
  refine Classical.byContradiction fun hc => h ?_
  have h2 : 2 ∣ Nat.gcd a b := Nat.dvd_of_mod_eq_zero (by omega)
  exact ⟨Nat.mod_eq_zero_of_dvd (Nat.dvd_trans h2 (Nat.gcd_dvd_left _ _)), Nat.mod_eq_zero_of_dvd (Nat.dvd_trans h2 (Nat.gcd_dvd_right _ _))⟩
theorem cop_two {b : Nat} (h : b % 2 = 1) : Nat.Coprime 2 b := by
  unfold Nat.Coprime
  rw [Nat.gcd_rec, h, Nat.gcd_one_left]
theorem gcd_halfl {a b : Nat} (ho : Nat.gcd a b % 2 = 1) (ha : a % 2 = 0) : Nat.gcd (a / 2) b = Nat.gcd a b := by
  have hb : b % 2 = 1 := by
    refine Classical.byContradiction fun hc => ?_
    rw [gcd_both ha (by omega)] at ho
    omega
  have e : a = 2 * (a / 2) := by omega
  have := (cop_two hb).gcd_mul_left_cancel (a / 2)
  rw [← e] at this
  exact this.symm
theorem gcd_halfr {a b : Nat} (ho : Nat.gcd a b % 2 = 1) (hb : b % 2 = 0) : Nat.gcd a (b / 2) = Nat.gcd a b := by
  rw [Nat.gcd_comm a b] at ho ⊢
  rw [Nat.gcd_comm a]
  exact gcd_halfl ho hb
theorem gcd_minus {a b : Nat} (h : b ≤ a) : Nat.gcd (a - b) b = Nat.gcd a b := Nat.gcd_sub_self_left h
theorem cop_cross {x y u v : Nat} (h1 : Nat.Coprime x y) (h2 : Nat.Coprime u v) (h : x * v = u * y) : x = u ∧ y = v := by
  refine ⟨Nat.dvd_antisymm ?_ ?_, Nat.dvd_antisymm ?_ ?_⟩
  · exact h1.dvd_of_dvd_mul_right (m := u) (by rw [← h]; exact Nat.dvd_mul_right _ _)
  · exact h2.dvd_of_dvd_mul_right (m := x) (by rw [h]; exact Nat.dvd_mul_right _ _)
  · exact h1.symm.dvd_of_dvd_mul_left (m := x) (by rw [h]; exact Nat.dvd_mul_left _ _)
  · exact h2.symm.dvd_of_dvd_mul_left (m := u) (by rw [← h]; exact Nat.dvd_mul_left _ _)
/-- Numerator and denominator of a reduced fraction. -/
def rfN (a b : Nat) : Nat := a / Nat.gcd a b
def rdD (a b : Nat) : Nat := b / Nat.gcd a b
theorem rd_spec {a b : Nat} (hb : 0 < b) : 0 < Nat.gcd a b ∧ a = Nat.gcd a b * rfN a b ∧ b = Nat.gcd a b * rdD a b ∧ Nat.Coprime (rfN a b) (rdD a b) ∧ 0 < rdD a b := by
  have g1 : 0 < Nat.gcd a b := Nat.gcd_pos_of_pos_right _ hb
  refine ⟨g1, (Nat.mul_div_cancel' (Nat.gcd_dvd_left a b)).symm, (Nat.mul_div_cancel' (Nat.gcd_dvd_right a b)).symm, Nat.coprime_div_gcd_div_gcd g1, Nat.div_pos (Nat.le_of_dvd hb (Nat.gcd_dvd_right a b)) g1⟩
theorem rd_le (a b : Nat) : rfN a b ≤ a ∧ rdD a b ≤ b := ⟨Nat.div_le_self _ _, Nat.div_le_self _ _⟩
theorem rd_cross {a b : Nat} (hb : 0 < b) : rfN a b * b = a * rdD a b := by
  obtain ⟨_, e1, e2, _⟩ := rd_spec (a := a) hb
  generalize Nat.gcd a b = g at *
  generalize rfN a b = x at *
  generalize rdD a b = y at *
  subst e1 e2
  rw [← Nat.mul_assoc, Nat.mul_comm x g]
theorem rd_eq {a b c d : Nat} (hb : 0 < b) (hd : 0 < d) (h : a * d = c * b) : rfN a b = rfN c d ∧ rdD a b = rdD c d := by
  obtain ⟨p1, e1, e2, k1, _⟩ := rd_spec (a := a) hb
  obtain ⟨p2, e3, e4, k2, _⟩ := rd_spec (a := c) hd
  generalize Nat.gcd a b = g at *
  generalize Nat.gcd c d = k at *
  generalize rfN a b = x at *
  generalize rdD a b = y at *
  generalize rfN c d = u at *
  generalize rdD c d = v at *
  refine cop_cross k1 k2 ?_
  rw [e1, e2, e3, e4] at h
  have h2 : g * k * (x * v) = g * k * (u * y) := by
    have l1 : g * x * (k * v) = g * k * (x * v) := Nat.mul_mul_mul_comm _ _ _ _
    have l2 : k * u * (g * y) = k * g * (u * y) := Nat.mul_mul_mul_comm _ _ _ _
    rw [← l1, h, l2, Nat.mul_comm k g]
  exact Nat.eq_of_mul_eq_mul_left (Nat.mul_pos p1 p2) h2
theorem rd_zero {d : Nat} (hd : 0 < d) : rfN 0 d = 0 ∧ rdD 0 d = 1 := by
  unfold rfN rdD
  rw [Nat.gcd_zero_left, Nat.zero_div, Nat.div_self hd]
  exact ⟨rfl, rfl⟩
theorem rd_one {d : Nat} (hd : 0 < d) : rfN d d = 1 ∧ rdD d d = 1 := by
  unfold rfN rdD
  rw [Nat.gcd_self, Nat.div_self hd]
  exact ⟨rfl, rfl⟩
/-- One step of the reference's way to the divisor. -/
theorem gcd_next {a b : Nat} : Nat.gcd b (a % b) = Nat.gcd a b := by
  rw [Nat.gcd_comm b, ← Nat.gcd_rec, Nat.gcd_comm]

end Go.Proofs.YtfolgmcoggejbaaGreat

namespace Go.Proofs.YtfolgmcoggejbaaGreat
open Go.RowKit
set_option linter.unusedVariables false
set_option linter.unusedSimpArgs false

/-- The limbs of the half. -/
def hL : List Nat → List Nat
  | [] => []
  | [x] => [x / 2]
  | x :: y :: t => (x / 2 + y % 2 * 2147483648) :: hL (y :: t)
theorem hL_len : ∀ l : List Nat, (hL l).length = l.length
  | [] => rfl
  | [x] => rfl
  | x :: y :: t => by simp [hL, hL_len (y :: t)]
theorem hL_val : ∀ l : List Nat, V (hL l) = V l / 2
  | [] => rfl
  | [x] => by simp [hL, V, valB]
  | x :: y :: t => by
    have h1 : V (hL (x :: y :: t)) = (x / 2 + y % 2 * 2147483648) + B32 * V (hL (y :: t)) := rfl
    have h2 : V (x :: y :: t) = x + B32 * V (y :: t) := rfl
    have h3 : V (y :: t) = y + B32 * V t := rfl
    rw [h1, hL_val (y :: t), h2]
    simp only [B32] at *
    omega
theorem hL_dig : ∀ {l : List Nat}, Dig B32 l → Dig B32 (hL l)
  | [], h => h
  | [x], h => fun y hy => by
    have := h x (by simp)
    simp only [hL, List.mem_singleton] at hy
    omega
  | x :: y :: t, h => by
    have h1 := h x (by simp)
    refine Dig.cons ?_ (hL_dig h.tail)
    simp only [B32] at *
    omega
theorem hL_at : ∀ {l : List Nat} {k x y : Nat}, l[k]? = some x → l[k + 1]? = some y → (hL l)[k]? = some (x / 2 + y % 2 * 2147483648)
  | [], k, x, y, h, _ => by simp at h
  | [z], k, x, y, _, h => by simp at h
  | z :: u :: t, 0, x, y, h1, h2 => by
    simp at h1 h2
    subst h1 h2
    rfl
  | z :: u :: t, k + 1, x, y, h1, h2 => by
    have := hL_at (l := u :: t) (k := k) (x := x) (y := y) (by simpa using h1) (by simpa using h2)
    simpa [hL] using this
theorem hL_last : ∀ {l : List Nat} {k x : Nat}, l[k]? = some x → l.length = k + 1 → (hL l)[k]? = some (x / 2)
  | [], k, x, h, _ => by simp at h
  | [z], k, x, h, hl => by
    obtain rfl : k = 0 := by simpa using hl.symm
    simp at h
    subst h
    rfl
  | z :: u :: t, 0, x, _, hl => by simp at hl
  | z :: u :: t, k + 1, x, h, hl => by
    have := hL_last (l := u :: t) (k := k) (x := x) (by simpa using h) (by simpa using hl)
    simpa [hL] using this
/-- The first k limbs are halved. -/
def hTo (l : List Nat) (k : Nat) : List Nat := (hL l).take k ++ l.drop k
theorem hTo_len (l : List Nat) {k : Nat} (h : k ≤ l.length) : (hTo l k).length = l.length := by simp [hTo, hL_len]; omega
theorem hTo_dig {l : List Nat} (h : Dig B32 l) (k : Nat) : Dig B32 (hTo l k) := ((hL_dig h).take k).app (fun x hx => h x (List.mem_of_mem_drop hx))
theorem hTo_at {l : List Nat} {k j : Nat} (hk : k ≤ l.length) (hj : k ≤ j) : (hTo l k)[j]? = l[j]? := by
  have hl : ((hL l).take k).length = k := by simp [hL_len]; omega
  unfold hTo
  rw [List.getElem?_append_right (by omega), hl, List.getElem?_drop]
  congr 1; omega
theorem hTo_set {l : List Nat} {k z : Nat} (hk : k < l.length) (hz : (hL l)[k]? = some z) : (hTo l k).set k z = hTo l (k + 1) := by
  have hl : ((hL l).take k).length = k := by simp [hL_len]; omega
  unfold hTo
  rw [List.set_append, if_neg (by omega), hl, Nat.sub_self, take_snoc hz, List.drop_eq_getElem_cons hk, List.set_cons_zero]
  simp
theorem hTo_all (l : List Nat) : hTo l l.length = hL l := by
  unfold hTo; rw [List.take_of_length_le (by rw [hL_len]; exact Nat.le_refl _)]; simp
theorem half_limb {x y : Nat} (hx : x < 4294967296) (hy : y < 4294967296) : ∃ q r : Nat, (x : Int) / 2 = (q : Int) ∧ bits .or .u32 (q : Int) ((y : Int) * 2147483648 % 4294967296) = (r : Int) ∧ q < 4294967296 ∧ Hid (q = x / 2 ∧ r = x / 2 + y % 2 * 2147483648) := by
  refine ⟨x / 2, x / 2 + y % 2 * 2147483648, by omega, ?_, by omega, Lib.hid ⟨rfl, rfl⟩⟩
  have e : (y : Int) * 2147483648 % 4294967296 = ((y % 2 * 2147483648 : Nat) : Int) := by omega
  rw [e]
  have h1 := u32_or_nat (y % 2 * 2147483648) (x / 2) (by omega) (by omega)
  rw [nat_join 31 _ _ (by omega) (by omega)] at h1
  have h2 : bits .or .u32 ((x / 2 : Nat) : Int) ((y % 2 * 2147483648 : Nat) : Int) = bits .or .u32 ((y % 2 * 2147483648 : Nat) : Int) ((x / 2 : Nat) : Int) := by
    rw [u32_or_nat (x / 2) (y % 2 * 2147483648) (by omega) (by omega), u32_or_nat (y % 2 * 2147483648) (x / 2) (by omega) (by omega), Nat.or_comm]
  rw [h2, h1, Nat.add_comm]

set_option maxRecDepth 100000 in
set_option maxHeartbeats 2000000 in
theorem half_any (g c n base : Nat) (l : List Nat) (w : World) (hA : Own w base 117 1 enc32 (.slice (some ⟨g, 0, none⟩) n c) l) (hn : l.length = n) (hd : Dig B32 l) (hl : n ≤ 1000000) :
    Calls Tryz.prog 251 #[.slice (some ⟨g, 0, none⟩) n c] w fun e w' => ∃ v, e = .returned v ∧ Big w' base v (V l / 2) ∧ v.ownBlock = some g ∧ w.grownBy w' (some g) := by
  have Hn := Lib.hid hn; have Hd := Lib.hid hd
  have hnc : n ≤ c ∧ c ≤ maxLen := by
    obtain ⟨A, c', h1, h2, h3, _, _⟩ := hA.form enc32_len
    simp at h1
    omega
  obtain ⟨hnc, hcm⟩ := hnc
  unfold maxLen at hcm
  clear hn hd
  go_enter Tryz.func251, Tryz.ntmps251
  go_wp2
  go_loopw [6] (fun i wr => ∃ (k : Nat), k ≤ n ∧ i = .int .i64 k ∧ Own wr base 117 1 enc32 (.slice (some ⟨g, 0, none⟩) n c) (hTo l k) ∧ w.grownBy wr (some g)) (fun i _ => n - (intOf i).toNat)
  case atStart => exact ⟨0, Nat.zero_le _, rfl, hA, grown_refl _ _⟩
  case round =>
    obtain ⟨k, hk, rfl, hown, hgr⟩ := hrel
    obtain ⟨w6, rfl⟩ : ∃ w6, w6 = wr := ⟨_, rfl⟩
    have Tl := Lib.hid ((hTo_len l (k := k) (by rw [Hn.out]; exact hk)).trans Hn.out)
    by_cases hlt : k < n
    · obtain ⟨x, hx⟩ : ∃ x, l[k]? = some x := ⟨_, List.getElem?_eq_getElem (by rw [Hn.out]; exact hlt)⟩
      have x1 : x < 4294967296 := Hd.out.get hx
      have d0 := Own.at1 (f := fun n : Nat => Value.int .u32 n) hown Tl.out ((hTo_at (by rw [Hn.out]; exact hk) (Nat.le_refl k)).trans hx)
      have d1 := Own.fr1 (f := fun n : Nat => Value.int .u32 n) hown Tl.out k
      have Hx := Lib.hid hx
      clear hx
      by_cases hlt2 : k + 1 < n
      · obtain ⟨y, hy⟩ : ∃ y, l[k + 1]? = some y := ⟨_, List.getElem?_eq_getElem (by rw [Hn.out]; exact hlt2)⟩
        have y1 : y < 4294967296 := Hd.out.get hy
        have d2 := Own.at1 (f := fun n : Nat => Value.int .u32 n) hown Tl.out ((hTo_at (by rw [Hn.out]; exact hk) (Nat.le_succ k)).trans hy)
        obtain ⟨q, r, e1, e2, q1, hqr⟩ := half_limb x1 y1
        have ht := hTo_set (l := l) (k := k) (by rw [Hn.out]; exact hlt) (hL_at Hx.out hy)
        rw [← hqr.out.2] at ht
        have s1 := Own.set1 (f := fun n : Nat => Value.int .u32 n) hown Tl.out k q
        have s2 := Own.set1 (f := fun n : Nat => Value.int .u32 n) s1 (by rw [List.length_set]; exact Tl.out) k r
        rw [List.set_set, ht] at s2
        have S2 := Lib.hid s2
        have klt : (k : Int) + 1 < (n : Int) := by omega
        clear hy ht s1 s2 hqr
        go_wp2_with fail
        go_region
        all_goals (go_wp2_with fail)
        all_goals exact ⟨⟨k + 1, by omega, by go_num, S2.out.drew, grown_trans (grown_trans hgr (grown_trans (grown_set _ _ _ _) (grown_set _ _ _ _))) ⟨rfl, rfl, rfl, Nat.le_refl _, fun _ _ _ => rfl⟩⟩, by simp [intOf]; omega⟩
      · have hkn : k + 1 = n := by omega
        have ht := hTo_set (l := l) (k := k) (by rw [Hn.out]; exact hlt) (hL_last Hx.out (by rw [Hn.out]; omega))
        obtain ⟨q, e1⟩ : ∃ q : Nat, (x : Int) / 2 = (q : Int) := ⟨x / 2, by omega⟩
        have q1 : q < 4294967296 := by omega
        rw [show x / 2 = q from by omega] at ht
        have s1 := Own.set1 (f := fun n : Nat => Value.int .u32 n) hown Tl.out k q
        rw [ht] at s1
        have S1 := Lib.hid s1
        have klt : ¬ (k : Int) + 1 < (n : Int) := by omega
        clear ht s1
        go_wp2_with fail
        exact ⟨⟨k + 1, by omega, by go_num, S1.out, grown_trans hgr (grown_set _ _ _ _)⟩, by simp [intOf]; omega⟩
    · obtain rfl : k = n := by omega
      have e1 : hTo l k = hL l := by rw [← Hn.out]; exact hTo_all l
      rw [e1] at hown
      have hln : (hL l).length = k := (hL_len l).trans Hn.out
      have ht := Own.trim hown (hL_dig Hd.out)
      rw [hL_val] at ht
      obtain ⟨A2, c2, hv2, _, _, _, ar2⟩ := hown.form enc32_len
      rw [hln] at hv2
      obtain ⟨rfl, rfl⟩ : some ⟨g, 0, none⟩ = A2 ∧ c = c2 := by simpa using hv2
      have cT := trim_any (some ⟨g, 0, none⟩) c (hL l) w6 ar2 (by rw [hln]; exact hnc) (by unfold maxLen; omega)
      rw [hln] at cT
      have Ht := Lib.hid ht
      clear ht hv2 e1 hln
      go_wp2_with (go_at_call 94; refine (cT).mono ?_; rintro e w' ⟨rfl, rfl⟩)
      go_ret
      exact ⟨_, rfl, Ht.out, rfl, hgr⟩

end Go.Proofs.YtfolgmcoggejbaaGreat

namespace Go.Proofs.YtfolgmcoggejbaaGreat
open Go.RowKit
set_option linter.unusedVariables false
set_option linter.unusedSimpArgs false

theorem big_shape {w : World} {B x : Nat} {v : Value} (h : Big w B v x) (hx : 0 < x) : ∃ g c, v = .slice (some ⟨g, 0, none⟩) (limbs x).length c ∧ B ≤ g ∧ 0 < (limbs x).length := by
  have hl : (limbs x) ≠ [] := fun e => by
    have := V_limbs x
    rw [e] at this
    simp [V, valB] at this
    omega
  have hl2 : 0 < (limbs x).length := List.length_pos_iff.2 hl
  rcases h.2 with ⟨_, h0⟩ | ⟨g, cap, cur, hv, hb, _⟩
  · omega
  · exact ⟨g, cap, hv, hb, hl2⟩
theorem limbs_none {x : Nat} (h : (limbs x).length = 0) : x = 0 := by
  have := V_limbs x
  rw [List.eq_nil_of_length_eq_zero h] at this
  simpa [V, valB] using this.symm
theorem limbs_zero : limbs 0 = [] := by unfold limbs; exact digB_zero ..
theorem limbs_le_of {x k : Nat} (h : x < B32 ^ k) : (limbs x).length ≤ k := digB_len_le b32 h
theorem limbs_mono {x y : Nat} (h : x ≤ y) : (limbs x).length ≤ (limbs y).length := by
  refine limbs_le_of ?_
  have := digB_lt b32 y
  exact Nat.lt_of_le_of_lt h this

/-- Two numbers of the call's own, side by side. -/
structure Two (w : World) (B : Nat) (va vb : Value) (x y : Nat) : Prop where
  a : Big w B va x
  b : Big w B vb y
  ap : Ap va vb
theorem Two.swap {w : World} {B : Nat} {va vb : Value} {x y : Nat} (h : Two w B va vb x y) : Two w B vb va y x := ⟨h.b, h.a, h.ap.symm⟩

/-- half, of the first of two. -/
theorem half_two (B : Nat) (va vb : Value) (x y : Nat) (w : World) (h : Two w B va vb x y) (hx : 0 < x) (hl : (limbs x).length ≤ 1000000) :
    Calls Tryz.prog 251 #[va] w fun e w' => ∃ v, e = .returned v ∧ Two w' B v vb (x / 2) y ∧ (∀ K, K ≤ B → Below K w w') := by
  obtain ⟨g, c, rfl, hg, hp⟩ := big_shape h.a hx
  have c1 := half_any g c _ B (limbs x) w h.a rfl (limbs_dig x) hl
  rw [V_limbs] at c1
  refine c1.mono ?_
  rintro e w' ⟨v, rfl, b1, hv, gr⟩
  refine ⟨v, rfl, ⟨b1, own_new h.b h.ap.symm gr, ?_⟩, fun K hK => ?_⟩
  · have := h.ap
    unfold Ap at *
    rw [hv]
    rcases this with h0 | h0
    · exact .inl (by simp [Value.ownBlock] at h0)
    · exact .inr h0
  · have := (World.ownsRow.lt h.a g rfl).2
    exact (Below.refl K w).grown gr (by omega) (fun q hq => by cases hq; omega)

/-- double, of an own number with room. -/
theorem dbl_room {n L : Nat} {l' : List Nat} {h : Nat} {l : List Nat} (hl : l'.length = n) (hv : V l' + B32 ^ n * h = 2 * V l + 0) (hr : 2 * V l < B32 ^ n) : V l' = 2 * V l := by
  rcases Nat.eq_zero_or_pos h with rfl | h0
  · omega
  · have : B32 ^ n * 1 ≤ B32 ^ n * h := Nat.mul_le_mul_left _ h0
    omega
/-- What is left of the doublings. -/
def Dbl (G t k v n : Nat) : Prop := v = G * 2 ^ k ∧ G * 2 ^ t < B32 ^ n
theorem Dbl.next {G t k v n : Nat} (h : Dbl G t k v n) (hk : k < t) : 2 * v < B32 ^ n ∧ Dbl G t (k + 1) (2 * v) n := by
  obtain ⟨h1, h2⟩ := h
  have e : 2 * v = G * 2 ^ (k + 1) := by rw [h1, Nat.pow_succ, Nat.mul_comm (2 ^ k) 2, Nat.mul_left_comm]
  refine ⟨?_, e, h2⟩
  rw [e]
  exact Nat.lt_of_le_of_lt (Nat.mul_le_mul_left _ (Nat.pow_le_pow_right (by decide) hk)) h2
theorem dbl_start {G t n q : Nat} (hn : n = (limbs G).length + q + 1) (hq : q = t / 32) : Dbl G t 0 G n := by
  refine ⟨by simp, ?_⟩
  have h1 : G < B32 ^ (limbs G).length := digB_lt b32 G
  have h2 : 2 ^ t ≤ B32 ^ (q + 1) := by
    rw [b32_pow]
    exact Nat.pow_le_pow_right (by decide) (by omega)
  have h3 : 0 < 2 ^ t := Nat.pow_pos (by decide)
  rw [hn, Nat.add_assoc, Nat.pow_add]
  exact Nat.lt_of_lt_of_le (Nat.mul_lt_mul_of_pos_right h1 h3) (Nat.mul_le_mul_left _ h2)
/-- The twos that two numbers have in common. -/
def Tw (X Y x y t : Nat) : Prop := Nat.gcd X Y = 2 ^ t * Nat.gcd x y ∧ X = 2 ^ t * x
theorem Tw.next {X Y x y t : Nat} (h : Tw X Y x y t) (hx : x % 2 = 0) (hy : y % 2 = 0) : Tw X Y (x / 2) (y / 2) (t + 1) := by
  obtain ⟨h1, h2⟩ := h
  refine ⟨?_, ?_⟩
  · rw [h1, gcd_both hx hy, Nat.pow_succ, Nat.mul_assoc]
  · rw [h2, Nat.pow_succ, Nat.mul_assoc]
    congr 1; omega
theorem Tw.lt {X Y x y t n : Nat} (h : Tw X Y x y t) (hx : 0 < x) (hX : X < B32 ^ n) : t < 32 * n := by
  refine Classical.byContradiction fun hc => ?_
  have h1 : 2 ^ (32 * n) ≤ 2 ^ t := Nat.pow_le_pow_right (by decide) (by omega)
  have h2 : 2 ^ t * 1 ≤ 2 ^ t * x := Nat.mul_le_mul_left _ hx
  rw [b32_pow] at hX
  have := h.2
  omega

end Go.Proofs.YtfolgmcoggejbaaGreat

namespace Go.Proofs.YtfolgmcoggejbaaGreat
open Go.RowKit
set_option linter.unusedVariables false
set_option linter.unusedSimpArgs false

/-- The number that a slice of limbs shows. -/
def numIn (w : World) (v : Value) : Nat :=
  match v with
  | .slice (some a) n _ =>
    match w.heap[a.block]? with
    | some (.cells cur _ _) => V ((cur.toList.take n).map fun u => match u with | .int _ z => z.toNat | _ => 0)
    | _ => 0
  | _ => 0
theorem numIn_big {w : World} {B x : Nat} {v : Value} (h : Big w B v x) : numIn w v = x := by
  rcases h.2 with ⟨hv, h0⟩ | ⟨g, cap, cur, hv, _, hg, _, _, _, ht⟩
  · subst hv
    have := limbs_none h0
    subst this
    rfl
  · subst hv
    have e : cur.toList.take (limbs x).length = (limbs x).flatMap enc32 := by simpa using ht
    simp only [numIn, hg]
    rw [e]
    have : ((limbs x).flatMap enc32).map (fun u => match u with | Value.int _ z => z.toNat | _ => 0) = limbs x := by
      induction limbs x with
      | nil => rfl
      | cons y t ih => simp [enc32] at ih ⊢; exact ih
    rw [this, V_limbs]

theorem big_nt {w : World} {B g n c x : Nat} (h : Big w B (.slice (some ⟨g, 0, none⟩) n c) x) : n = (limbs x).length ∧ Nt w (some ⟨g, 0, none⟩) c (limbs x) := by
  obtain ⟨A1, c1, hv, hn⟩ := h.nt
  simp only [Value.slice.injEq] at hv
  obtain ⟨rfl, h2, rfl⟩ := hv
  exact ⟨h2, hn⟩
theorem limbs_pos {x : Nat} (h : 0 < (limbs x).length) : 0 < x := Nat.pos_of_ne_zero fun e => by subst e; rw [limbs_zero] at h; exact Nat.lt_irrefl _ h
/-- minus, of two numbers of the call's own. -/
theorem minus_two (B : Nat) (va vb : Value) (x y : Nat) (w : World) (h : Two w B va vb x y) (hle : y ≤ x) (hx : (limbs x).length ≤ 1000) (hB : B ≤ w.heap.size) :
    Calls Tryz.prog 169 #[va, vb] w fun e w' => ∃ v, e = .returned v ∧ Two w' B v vb (x - y) y ∧ Below w.heap.size w w' := by
  obtain ⟨A1, c1, rfl, n1⟩ := h.a.nt
  obtain ⟨A2, c2, rfl, n2⟩ := h.b.nt
  have hy := limbs_mono hle
  have c := minus_any A1 c1 _ A2 c2 _ w n1 n2 (by omega) (by omega) (by rw [V_limbs, V_limbs]; exact hle)
  rw [V_limbs, V_limbs] at c
  refine c.mono ?_
  rintro e w' ⟨v, rfl, b1, hb⟩
  exact ⟨v, rfl, ⟨b1.down hB, h.b.below hb, ap_low h.b b1⟩, hb⟩
/-- order, of two numbers. -/
theorem order_two (B : Nat) (va vb : Value) (x y : Nat) (w : World) (h : Two w B va vb x y) :
    Calls Tryz.prog 153 #[va, vb] w fun e w' => e = .returned (.int .i64 (cmpI x y)) ∧ Below w.heap.size w w' := by
  obtain ⟨A1, c1, rfl, n1⟩ := h.a.nt
  obtain ⟨A2, c2, rfl, n2⟩ := h.b.nt
  have c := order_any A1 c1 _ A2 c2 _ w n1.arr n2.arr n1.len n1.cap n2.len n2.cap n1.dig n2.dig
  rw [V_limbs, V_limbs] at c
  exact c
theorem Two.on {w w' : World} {B : Nat} {va vb : Value} {x y : Nat} (h : Two w B va vb x y) (hb : Below w.heap.size w w') : Two w' B va vb x y := ⟨h.a.below hb, h.b.below hb, h.ap⟩
theorem bit_two {w : World} {B g c x p : Nat} (h : Big w B (.slice (some ⟨g, 0, none⟩) (limbs x).length c) x) (hx : 0 < (limbs x).length) (hl : (limbs x).length ≤ 1000000) (hp : x % 2 = p) :
    Calls Tryz.prog 168 #[.slice (some ⟨g, 0, none⟩) (limbs x).length c, .int .i64 0] w fun e w' => e = .returned (.int .u32 (p : Int)) ∧ w = w' := by
  have hb := bit_any _ c (limbs x) 0 w (big_nt h).2 hl (by omega)
  rw [V_limbs, Nat.pow_zero, Nat.div_one, hp] at hb
  exact hb

set_option maxRecDepth 100000 in
set_option maxHeartbeats 4000000 in
theorem common_any (A : Option Addr) (c : Nat) (l : List Nat) (C : Option Addr) (d : Nat) (m : List Nat) (w : World) (hA : Nt w A c l) (hC : Nt w C d m) (hl : l.length ≤ 1000) (hm : m.length ≤ 1000) :
    Calls Tryz.prog 209 #[.slice A l.length c, .slice C m.length d] w fun e w' => ∃ v, e = .returned v ∧ Big w' w.heap.size v (Nat.gcd (V l) (V m)) ∧ Below w.heap.size w w' := by
  obtain ⟨i0, hi, hz0, hz1, hz2⟩ := info_parts u32_info
  have cA := clone_any A c l w hA (by omega)
  have cC := fun w' hb => clone_any C d m w' (hC.on hb) (by omega)
  have kX := limbs_le hA.dig
  have kY := limbs_le hC.dig
  have bX := V_le_len hA.dig
  obtain ⟨X, hX⟩ : ∃ X, V l = X := ⟨_, rfl⟩
  obtain ⟨Y, hY⟩ : ∃ Y, V m = Y := ⟨_, rfl⟩
  rw [hX] at cA kX bX
  rw [hX, hY]
  simp only [hY] at cC kY
  go_enter Tryz.func209, Tryz.ntmps209
  go_wp2_with fail
  refine cA.mono ?_
  rintro e w1 ⟨va, rfl, ba, hb1⟩
  go_wp2_with fail
  refine (cC w1 hb1).mono ?_
  rintro e w2 ⟨vb, rfl, bb, hb2⟩
  have apab := (ap_low ba bb).symm
  have two : Two w2 w.heap.size va vb X Y := ⟨ba.below hb2, bb.down hb1.size, apab⟩
  have hb12 := below_trans hb1 hb2
  obtain ⟨A1, c1, hva, _⟩ := ba.nt
  obtain ⟨A2, c2, hvb, _⟩ := bb.nt
  clear ba bb apab cA cC hb1 hb2
  by_cases x0 : (limbs X).length = 0
  · have x00 := limbs_none x0
    have two' := Lib.hid two
    subst hva hvb
    rw [x0]
    clear two
    go_wp2_with fail
    go_ret
    subst x00
    rw [Nat.gcd_zero_left]
    exact ⟨_, rfl, two'.out.b, hb12⟩
  by_cases y0 : (limbs Y).length = 0
  · have y00 := limbs_none y0
    have two' := Lib.hid two
    subst hva hvb
    clear two
    rw [y0]
    go_wp2_with fail
    go_ret
    subst y00
    rw [Nat.gcd_zero_right]
    exact ⟨_, rfl, two'.out.a, hb12⟩
  have xp : 0 < X := Nat.pos_of_ne_zero fun h => x0 (by rw [h, limbs_zero]; rfl)
  have x0b : (((limbs X).length : Int) == 0) = false := by rw [beq_eq_false_iff_ne]; omega
  have y0b : (((limbs Y).length : Int) == 0) = false := by rw [beq_eq_false_iff_ne]; omega
  have yp : 0 < Y := Nat.pos_of_ne_zero fun h => y0 (by rw [h, limbs_zero]; rfl)
  have kX2 : (limbs X).length ≤ 1000 := by omega
  have kY2 : (limbs Y).length ≤ 1000 := by omega
  obtain ⟨G, hG⟩ : ∃ G, Nat.gcd X Y = G := ⟨_, rfl⟩
  have hTw : Tw X Y X Y 0 := ⟨by simp, by simp⟩
  subst hva hvb
  have XLT : Hid (X < B32 ^ l.length) := Lib.hid (by rw [← hX]; exact valB_lt hA.dig)
  clear bX hX hY
  have HG := Lib.hid hG
  clear hG
  go_upto_block 0 with fail
  go_cut [0, 1, 5] (fun va vb i wr => ∃ (x y t : Nat), i = .int .i64 t ∧ t ≤ 32000 ∧ Hid (Tw X Y x y t) ∧ Hid (¬ (x % 2 = 0 ∧ y % 2 = 0)) ∧ 0 < x ∧ 0 < y ∧ x ≤ X ∧ y ≤ Y ∧ Two wr w.heap.size va vb x y ∧ Below w.heap.size w wr)
  case first =>
    go_wp2_with fail
    go_loopw [0, 1, 5] (fun va vb i wr => ∃ (x y t : Nat), i = .int .i64 t ∧ t ≤ 32000 ∧ Hid (Tw X Y x y t) ∧ 0 < x ∧ 0 < y ∧ x ≤ X ∧ y ≤ Y ∧ Two wr w.heap.size va vb x y ∧ Below w.heap.size w wr) (fun _ _ i _ => 32001 - (intOf i).toNat)
    case atStart => exact ⟨X, Y, 0, rfl, by omega, Lib.hid hTw, xp, yp, Nat.le_refl _, Nat.le_refl _, two, hb12⟩
    case round =>
      obtain ⟨x, y, t, rfl, ht, tw, x1, y1, xX, yY, tt, hb⟩ := hrel
      obtain ⟨g1, c1', rfl, hg1, lx⟩ := big_shape tt.a x1
      obtain ⟨g2, c2', rfl, hg2, ly⟩ := big_shape tt.b y1
      have kx := limbs_mono xX
      have ky := limbs_mono yY
      obtain ⟨p, hp⟩ : ∃ p, x % 2 = p := ⟨_, rfl⟩
      obtain ⟨q, hq⟩ : ∃ q, y % 2 = q := ⟨_, rfl⟩
      have cBx := bit_two tt.a lx (by omega) hp
      have cBy := bit_two tt.b ly (by omega) hq
      have hp2 : p = 0 ∨ p = 1 := by omega
      have hq2 : q = 0 ∨ q = 1 := by omega
      have Hp := Lib.hid hp
      have Hq := Lib.hid hq
      have Tt := Lib.hid tt
      clear hp hq tt
      rcases hp2 with rfl | rfl
      · rcases hq2 with rfl | rfl
        · have cH := half_two w.heap.size _ _ x y wr Tt.out x1 (by omega)
          have t32 := tw.out.lt x1 XLT.out
          have tw' := Lib.hid (tw.out.next Hp.out Hq.out)
          have x2 : 0 < x / 2 := by have := Hp.out; omega
          have y2 : 0 < y / 2 := by have := Hq.out; omega
          have Q1 := Lib.hid (show x / 2 ≤ X by omega)
          have Q2 := Lib.hid (show y / 2 ≤ Y by omega)
          go_wp2_with (first
            | (go_at_call 168; refine Calls.on (args' := #[.slice (some ⟨g1, 0, none⟩) (limbs x).length c1', .int .i64 0]) rfl ?_; refine cBx.mono ?_; rintro e w' ⟨rfl, rfl⟩)
            | (go_at_call 168; refine Calls.on (args' := #[.slice (some ⟨g2, 0, none⟩) (limbs y).length c2', .int .i64 0]) rfl ?_; refine cBy.mono ?_; rintro e w' ⟨rfl, rfl⟩))
          refine cH.mono ?_
          rintro e w5 ⟨v5, rfl, t5, hb5⟩
          have b5 := hb5 w.heap.size (Nat.le_refl _)
          go_wp2_with fail
          refine (half_two w.heap.size _ _ y (x / 2) w5 t5.swap y1 (by omega)).mono ?_
          rintro e w6 ⟨v6, rfl, t6, hb6⟩
          have b6 := hb6 w.heap.size (Nat.le_refl _)
          go_wp2_with fail
          go_roundw
          case rel => exact ⟨x / 2, y / 2, t + 1, by go_num, by omega, tw', x2, y2, Q1.out, Q2.out, t6.swap, (hb.trans b5).trans b6⟩
          case measure => (simp [intOf] <;> omega)
        · go_wp2_with (first
            | (go_at_call 168; refine Calls.on (args' := #[.slice (some ⟨g1, 0, none⟩) (limbs x).length c1', .int .i64 0]) rfl ?_; refine cBx.mono ?_; rintro e w' ⟨rfl, rfl⟩)
            | (go_at_call 168; refine Calls.on (args' := #[.slice (some ⟨g2, 0, none⟩) (limbs y).length c2', .int .i64 0]) rfl ?_; refine cBy.mono ?_; rintro e w' ⟨rfl, rfl⟩))
          go_meet
          case rel => exact ⟨x, y, t, rfl, ht, tw, Lib.hid (by have := Hq.out; omega), x1, y1, xX, yY, Tt.out, hb⟩
      · go_wp2_with (first
            | (go_at_call 168; refine Calls.on (args' := #[.slice (some ⟨g1, 0, none⟩) (limbs x).length c1', .int .i64 0]) rfl ?_; refine cBx.mono ?_; rintro e w' ⟨rfl, rfl⟩)
            | (go_at_call 168; refine Calls.on (args' := #[.slice (some ⟨g2, 0, none⟩) (limbs y).length c2', .int .i64 0]) rfl ?_; refine cBy.mono ?_; rintro e w' ⟨rfl, rfl⟩))
        go_meet
        case rel => exact ⟨x, y, t, rfl, ht, tw, Lib.hid (by have := Hp.out; omega), x1, y1, xX, yY, Tt.out, hb⟩
  obtain ⟨x, y, t, rfl, ht, tw, hno, x1, y1, xX, yY, tt, hb⟩ := hcut
  obtain ⟨M, kM, xM, yM⟩ : ∃ M, (limbs M).length ≤ 1000 ∧ X ≤ M ∧ Y ≤ M := by
    rcases Nat.le_total X Y with h | h
    · exact ⟨Y, kY2, h, Nat.le_refl _⟩
    · exact ⟨X, kX2, Nat.le_refl _, h⟩
  have xM2 : x ≤ M := Nat.le_trans xX xM
  have yM2 : y ≤ M := Nat.le_trans yY yM
  obtain ⟨D, hD⟩ : ∃ D, Nat.gcd x y = D := ⟨_, rfl⟩
  have hodd := gcd_odd hno.out
  rw [hD] at hodd
  have Hodd := Lib.hid hodd
  have HD := Lib.hid hD
  have hGD : Hid (Nat.gcd X Y = 2 ^ t * D) := Lib.hid (by rw [tw.out.1, hD])
  clear hodd hD hno tw xX yY hTw two hb12
  obtain ⟨w3, rfl⟩ : ∃ w3, w3 = wc := ⟨_, rfl⟩
  go_upto_block 2 with fail
  go_cut [0, 1] (fun va vb wr => Big wr w.heap.size vb D ∧ Below w.heap.size w wr)
  case first =>
    go_wp2_with fail
    go_loopw [0, 1] (fun va vb wr => ∃ (x2 y2 : Nat), Hid (Nat.gcd x2 y2 = D) ∧ 0 < y2 ∧ x2 ≤ M ∧ y2 ≤ M ∧ Two wr w.heap.size va vb x2 y2 ∧ Below w.heap.size w wr) (fun va vb wr => numIn wr va + numIn wr vb)
    case atStart => exact ⟨x, y, HD, y1, xM2, yM2, tt, hb⟩
    case round =>
      obtain ⟨x2, y2, hg, y20, x2M, y2M, t2, hb2⟩ := hrel
      obtain ⟨w4, rfl⟩ : ∃ w4, w4 = wr := ⟨_, rfl⟩
      by_cases x00 : x2 = 0
      · subst x00
        have e0 : (limbs 0).length = 0 := by rw [limbs_zero]; rfl
        obtain ⟨A3, c3, hv3, _⟩ := t2.a.nt
        rw [e0] at hv3
        have eD : y2 = D := by have := hg.out; rwa [Nat.gcd_zero_left] at this
        subst eD
        have T2 := Lib.hid t2.b
        clear t2
        subst hv3
        go_wp2_with fail
        go_meet
        case rel => exact ⟨T2.out, hb2⟩
      · have M1 := numIn_big t2.a
        have M2 := numIn_big t2.b
        have Meas := Lib.hid (show numIn w4 u0 + numIn w4 u1 = x2 + y2 by rw [M1, M2])
        clear M1 M2
        have x20 : 0 < x2 := by omega
        obtain ⟨g1, c1', hu0, hg1, lx⟩ := big_shape t2.a x20
        obtain ⟨g2, c2', hu1, hg2, ly⟩ := big_shape t2.b y20
        subst hu0 hu1
        have kx := limbs_mono x2M
        have ky := limbs_mono y2M
        have hB4 := hb2.size
        go_upto_block 4 with fail
        go_cut [0] (fun va wr => ∃ x3, Hid (Nat.gcd x3 y2 = D) ∧ Hid (x3 % 2 = 1) ∧ 0 < x3 ∧ x3 ≤ x2 ∧ Two wr w.heap.size va (.slice (some ⟨g2, 0, none⟩) (limbs y2).length c2') x3 y2 ∧ Below w.heap.size w wr)
        case first =>
          go_wp2_with fail
          go_loopw [0] (fun va wr => ∃ x3, Hid (Nat.gcd x3 y2 = D) ∧ 0 < x3 ∧ x3 ≤ x2 ∧ Two wr w.heap.size va (.slice (some ⟨g2, 0, none⟩) (limbs y2).length c2') x3 y2 ∧ Below w.heap.size w wr) (fun va wr => numIn wr va)
          case atStart => exact ⟨x2, hg, x20, Nat.le_refl _, t2, hb2⟩
          case round =>
            obtain ⟨x3, hg3, x30, x32, t3, hb3⟩ := hrel
            have M1 := Lib.hid (numIn_big t3.a)
            obtain ⟨g3, c3', rfl, hg3', lx3⟩ := big_shape t3.a x30
            have k3 := limbs_mono x32
            obtain ⟨p, hp⟩ : ∃ p, x3 % 2 = p := ⟨_, rfl⟩
            have cB := bit_two t3.a lx3 (by omega) hp
            have hp2 : p = 0 ∨ p = 1 := by omega
            have Hp := Lib.hid hp
            have T3 := Lib.hid t3
            clear hp t3
            rcases hp2 with rfl | rfl
            · go_wp2_with (go_at_call 168; refine cB.mono ?_; rintro e w' ⟨rfl, rfl⟩)
              refine (half_two w.heap.size _ _ x3 y2 wr T3.out x30 (by omega)).mono ?_
              rintro e w5 ⟨v5, rfl, t5, hb5⟩
              have b5 := hb5 w.heap.size (Nat.le_refl _)
              have hg5 : Hid (Nat.gcd (x3 / 2) y2 = D) := Lib.hid (by rw [gcd_halfl (by rw [hg3.out]; exact Hodd.out) Hp.out]; exact hg3.out)
              have x5 : 0 < x3 / 2 := by have := Hp.out; omega
              have Q1 := Lib.hid (show x3 / 2 ≤ x2 by omega)
              have M5 := Lib.hid (numIn_big t5.a)
              go_wp2_with fail
              go_roundw
              case rel => exact ⟨x3 / 2, hg5, x5, Q1.out, t5, hb3.trans b5⟩
              case measure => rw [M1.out, M5.out]; omega
            · go_wp2_with (go_at_call 168; refine cB.mono ?_; rintro e w' ⟨rfl, rfl⟩)
              go_meet
              case rel => exact ⟨x3, hg3, Hp, x30, x32, T3.out, hb3⟩
        obtain ⟨x3, hg3, ho3, x30, x32, t3, hb3⟩ := hcut
        obtain ⟨w5, rfl⟩ : ∃ w5, w5 = wc := ⟨_, rfl⟩
        go_upto_block 6 with fail
        go_cut [1] (fun vb wr => ∃ y3, Hid (Nat.gcd x3 y3 = D) ∧ 0 < y3 ∧ y3 ≤ y2 ∧ Two wr w.heap.size u0 vb x3 y3 ∧ Below w.heap.size w wr)
        case first =>
          go_wp2_with fail
          go_loopw [1] (fun vb wr => ∃ y3, Hid (Nat.gcd x3 y3 = D) ∧ 0 < y3 ∧ y3 ≤ y2 ∧ Two wr w.heap.size u0 vb x3 y3 ∧ Below w.heap.size w wr) (fun vb wr => numIn wr vb)
          case atStart => exact ⟨y2, hg3, y20, Nat.le_refl _, t3, hb3⟩
          case round =>
            obtain ⟨y3, hg4, y30, y32, t4, hb4⟩ := hrel
            have M1 := Lib.hid (numIn_big t4.b)
            obtain ⟨g4, c4', rfl, hg4', ly4⟩ := big_shape t4.b y30
            have k3 := limbs_mono y32
            obtain ⟨p, hp⟩ : ∃ p, y3 % 2 = p := ⟨_, rfl⟩
            have cB := bit_two t4.b ly4 (by omega) hp
            have hp2 : p = 0 ∨ p = 1 := by omega
            have Hp := Lib.hid hp
            have T4 := Lib.hid t4
            clear hp t4
            rcases hp2 with rfl | rfl
            · go_wp2_with (go_at_call 168; refine cB.mono ?_; rintro e w' ⟨rfl, rfl⟩)
              refine (half_two w.heap.size _ _ y3 x3 wr T4.out.swap y30 (by omega)).mono ?_
              rintro e w7 ⟨v5, rfl, t5, hb5⟩
              have b5 := hb5 w.heap.size (Nat.le_refl _)
              have hg5 : Hid (Nat.gcd x3 (y3 / 2) = D) := Lib.hid (by rw [gcd_halfr (by rw [hg4.out]; exact Hodd.out) Hp.out]; exact hg4.out)
              have x5 : 0 < y3 / 2 := by have := Hp.out; omega
              have Q1 := Lib.hid (show y3 / 2 ≤ y2 by omega)
              have M5 := Lib.hid (numIn_big t5.a)
              go_wp2_with fail
              go_roundw
              case rel => exact ⟨y3 / 2, hg5, x5, Q1.out, t5.swap, hb4.trans b5⟩
              case measure => rw [M1.out, M5.out]; omega
            · go_wp2_with (go_at_call 168; refine cB.mono ?_; rintro e w' ⟨rfl, rfl⟩)
              go_meet
              case rel => exact ⟨y3, hg4, y30, y32, T4.out, hb4⟩
        obtain ⟨y3, hg4, y30, y32, t4, hb4⟩ := hcut
        obtain ⟨w6, rfl⟩ : ∃ w6, w6 = wc := ⟨_, rfl⟩
        have k3 := limbs_mono x32
        have k4 := limbs_mono y32
        have cO := order_two _ _ _ _ _ _ t4
        by_cases hlt : x3 < y3
        · rw [cmpI_lt hlt] at cO
          have T4 := Lib.hid t4
          clear t4
          have m1 := limbs_mono y2M
          go_wp2_with (go_at_call 153; refine (cO).mono ?_; rintro e w7 ⟨rfl, hb7⟩)
          have hg7 : Hid (Nat.gcd (y3 - x3) x3 = D) := Lib.hid (by rw [gcd_minus (Nat.le_of_lt hlt), Nat.gcd_comm]; exact hg4.out)
          have b67 := hb4.trans (hb7.mono hb4.size)
          have Q1 := Lib.hid (show y3 - x3 ≤ M ∧ x3 ≤ M ∧ y3 - x3 + x3 < x2 + y2 by omega)
          refine (minus_two w.heap.size _ _ y3 x3 w7 (T4.out.swap.on hb7) (Nat.le_of_lt hlt) (by omega) b67.size).mono ?_
          rintro e w8 ⟨v8, rfl, t8, hb8⟩
          have b8 := b67.trans (hb8.mono b67.size)
          have Ms := Lib.hid (show numIn w8 v8 + numIn w8 u0 = y3 - x3 + x3 by rw [numIn_big t8.a, numIn_big t8.b])
          go_wp2_with fail
          go_roundw
          case rel => exact ⟨y3 - x3, x3, hg7, x30, Q1.out.1, Q1.out.2.1, t8, b8⟩
          case measure => rw [Meas.out, Ms.out]; exact Q1.out.2.2
        · obtain ⟨o, ho, ho0⟩ : ∃ o, cmpI x3 y3 = o ∧ 0 ≤ o := by
            refine ⟨_, rfl, ?_⟩
            unfold cmpI
            rw [if_neg hlt]
            split <;> decide
          rw [ho] at cO
          have hle : y3 ≤ x3 := by omega
          have T4 := Lib.hid t4
          clear t4 ho
          have m1 := limbs_mono x2M
          go_wp2_with (go_at_call 153; refine (cO).mono ?_; rintro e w7 ⟨rfl, hb7⟩)
          have hg7 : Hid (Nat.gcd (x3 - y3) y3 = D) := Lib.hid (by rw [gcd_minus hle]; exact hg4.out)
          have b67 := hb4.trans (hb7.mono hb4.size)
          have Q1 := Lib.hid (show x3 - y3 ≤ M ∧ y3 ≤ M ∧ x3 - y3 + y3 < x2 + y2 by omega)
          refine (minus_two w.heap.size _ _ x3 y3 w7 (T4.out.on hb7) hle (by omega) b67.size).mono ?_
          rintro e w8 ⟨v8, rfl, t8, hb8⟩
          have b8 := b67.trans (hb8.mono b67.size)
          have Ms := Lib.hid (show numIn w8 v8 + numIn w8 u1 = x3 - y3 + y3 by rw [numIn_big t8.a, numIn_big t8.b])
          go_wp2_with fail
          go_roundw
          case rel => exact ⟨x3 - y3, y3, hg7, y30, Q1.out.1, Q1.out.2.1, t8, b8⟩
          case measure => rw [Meas.out, Ms.out]; exact Q1.out.2.2
  obtain ⟨bD, hb9⟩ := hcut
  obtain ⟨w9, rfl⟩ : ∃ w9, w9 = wc := ⟨_, rfl⟩
  have D0 : 0 < D := by have := Hodd.out; omega
  have kD : (limbs D).length ≤ 1000 := by
    have h1 : D ≤ y := Nat.le_of_dvd y1 (by rw [← HD.out]; exact Nat.gcd_dvd_right _ _)
    have := limbs_mono (Nat.le_trans h1 yM2)
    omega
  obtain ⟨g9, c9, rfl, hg9, lD⟩ := big_shape bD D0
  obtain ⟨_, nD⟩ := big_nt bD
  obtain ⟨q, hq⟩ : ∃ q : Nat, (t : Int) / 32 = (q : Int) := ⟨t / 32, by omega⟩
  obtain ⟨N, hN⟩ : ∃ N : Nat, ((limbs D).length : Int) + (q : Int) + 1 = (N : Int) := ⟨(limbs D).length + q + 1, by omega⟩
  have HN : Hid (N = (limbs D).length + q + 1) := Lib.hid (by omega)
  have Hq : Hid (q = t / 32) := Lib.hid (by omega)
  have n3 : N ≤ 3000 := by omega
  have n4 : (limbs D).length ≤ N := by omega
  go_wp2_with (first
    | (at_make; refine wpList_mk rfl _ _ 30 rfl 117 i0 _ 4 Tryz.underlying30 hi hz0 hz1 hz2 rfl (fun n : Nat => Value.int .u32 n) 0 rfl _ _ _ _ N rfl rfl (by omega) (by omega) (by omega) (by unfold maxLen; omega) ?_; intro w10 hown10 hb10)
    | (refine wpList_cp rfl _ _ 30 30 rfl 117 Tryz.underlying30 u32_size (f := fun n : Nat => Value.int .u32 n) (fun _ => rfl) (m := limbs D) rfl rfl hown10 (by simp) (nD.arr.on hb10) n4 hb10 ?_; intro w11 hown11 hb11))
  have v11 : V (limbs D ++ List.drop (limbs D).length (List.replicate N 0)) = D := by
    rw [List.drop_replicate, V_app, V_rep, V_limbs, Nat.mul_zero, Nat.add_zero]
  have d11 : Dig B32 (limbs D ++ List.drop (limbs D).length (List.replicate N 0)) := (limbs_dig D).app (fun x hx => Dig.rep (b := B32) (by decide) N x (List.mem_of_mem_drop hx))
  have l11 : (limbs D ++ List.drop (limbs D).length (List.replicate N 0)).length = N := by
    rw [List.length_append, List.length_drop, List.length_replicate]; omega
  have b9 : Below w.heap.size w w11 := hb9.trans (hb11.mono hb9.size)
  have st := dbl_start HN.out Hq.out
  have sz9 := hb9.size
  generalize limbs D ++ List.drop (limbs D).length (List.replicate N 0) = L0 at *
  have St : Hid (Dbl D t 0 (V L0) N) := Lib.hid (by rw [v11]; exact st)
  have D11 := Lib.hid d11; have L11 := Lib.hid l11
  clear v11 d11 l11 st hN hq hown10
  go_loopw [66] (fun i wr => ∃ (k : Nat) (L : List Nat), k ≤ t ∧ i = .int .i64 k ∧ Hid (L.length = N) ∧ Hid (Dig B32 L) ∧ Hid (Dbl D t k (V L) N) ∧ Own wr w9.heap.size 117 1 enc32 (.slice (some ⟨w9.heap.size, 0, none⟩) N N) L ∧ Below w.heap.size w wr) (fun i _ => t - (intOf i).toNat)
  case atStart => exact ⟨0, L0, Nat.zero_le _, rfl, L11, D11, St, hown11, b9⟩
  case round =>
    obtain ⟨k, L, hk, rfl, hL, hd, hD, own, hbr⟩ := hrel
    by_cases hlt : k < t
    · have cD := double_any w9.heap.size L 0 w9.heap.size N wr own hL.out hd.out (by omega) (by decide)
      obtain ⟨r1, r2⟩ := hD.out.next hlt
      have R1 := Lib.hid r1; have R2 := Lib.hid r2
      clear r1 r2
      go_wp2_with fail
      refine cD.mono ?_
      rintro e w12 ⟨rfl, L', h, hL', hd', hv', own', gr'⟩
      have eV := dbl_room (L := N) (l := L) hL' hv' R1.out
      have bb : Below w.heap.size w w12 := hbr.grown gr' hbr.size (fun q hq => by cases hq; omega)
      have HL' := Lib.hid hL'; have Hd' := Lib.hid hd'
      have R3 : Hid (Dbl D t (k + 1) (V L') N) := Lib.hid (by rw [eV]; exact R2.out)
      clear hL' hd' hv' eV
      go_wp2_with fail
      go_roundw
      case rel => exact ⟨k + 1, L', by omega, by go_num, HL', Hd', R3, own', bb⟩
      case measure => simp [intOf]; omega
    · obtain rfl : k = t := by omega
      have nt := own_ntf own hd.out
      have cT := trim_nt nt
      rw [hL.out] at cT
      have bT := Own.trim own hd.out
      rw [trim_limbs hd.out] at bT
      have eV : V L = Nat.gcd X Y := by rw [hD.out.1, hGD.out, Nat.mul_comm]
      rw [eV] at cT bT
      have BT := Lib.hid (Big.down bT sz9)
      clear bT eV nt
      go_wp2_with (go_at_call 94; refine (cT).mono ?_; rintro e w' ⟨rfl, rfl⟩)
      go_ret
      exact ⟨_, rfl, BT.out, hbr⟩

end Go.Proofs.YtfolgmcoggejbaaGreat

namespace Go.Proofs.YtfolgmcoggejbaaGreat
open Go.RowKit
set_option linter.unusedVariables false
set_option linter.unusedSimpArgs false

set_option maxHeartbeats 1000000 in
theorem fit_any (A : Option Addr) (c n : Nat) (w : World) (h : Nt w A c (limbs n)) (hl : (limbs n).length ≤ 64) :
    Calls Tryz.prog 211 #[.slice A (limbs n).length c] w fun e w' => ∃ v, e = .returned (.tuple #[v, .int .i64 0]) ∧ Big w' w.heap.size v n ∧ Below w.heap.size w w' := by
  have cC := clone_any A c (limbs n) w h (by omega)
  rw [V_limbs] at cC
  go_enter Tryz.func211, Tryz.ntmps211
  go_wp2_with fail
  refine cC.mono ?_
  rintro e w1 ⟨v, rfl, b1, hb1⟩
  obtain ⟨A1, c1, hv, _⟩ := b1.nt
  subst hv
  go_wp2_with fail
  go_ret2
  exact ⟨_, rfl, b1, hb1⟩

set_option maxHeartbeats 1000000 in
theorem red1_any (p q : Nat) (A : Option Addr) (c n : Nat) (u : Value) (w : World) (h0 : w.cell? ⟨p, 0, none⟩ = some (.slice A (limbs n).length c)) (h : Nt w A c (limbs n)) (hl : (limbs n).length ≤ 64) (hq : w.cell? ⟨q, 0, none⟩ = some u) (hf : w.frozen? ⟨q, 0, none⟩ = false) :
    Calls Tryz.prog 210 #[.pointer (some ⟨p, 0, none⟩), .pointer (some ⟨q, 0, none⟩)] w fun e w' => e = .returned (.int .i64 0) ∧ ∃ v w1, Big w1 w.heap.size v n ∧ Below w.heap.size w w1 ∧ w' = w1.setCell ⟨q, 0, none⟩ v := by
  have cF := fit_any A c n w h hl
  go_enter Tryz.func210, Tryz.ntmps210
  go_wp2_with fail
  refine cF.mono ?_
  rintro e w1 ⟨v, rfl, b1, hb1⟩
  obtain ⟨A1, c1, hv, _⟩ := b1.nt
  subst hv
  have hq1 := bel_cell hb1 hq
  have hf1 := (hb1.frozen (p := ⟨q, 0, none⟩) (World.block_lt_of_cell? w _ hq)).trans hf
  go_wp2_with fail
  go_ret
  exact ⟨rfl, _, w1, b1, hb1, rfl⟩
set_option maxHeartbeats 1000000 in
theorem red2_any (p q : Nat) (A : Option Addr) (c n : Nat) (u : Value) (w : World) (h0 : w.cell? ⟨p, 0, none⟩ = some (.slice A (limbs n).length c)) (h : Nt w A c (limbs n)) (hl : (limbs n).length ≤ 64) (hq : w.cell? ⟨q, 1, none⟩ = some u) (hf : w.frozen? ⟨q, 1, none⟩ = false) :
    Calls Tryz.prog 212 #[.pointer (some ⟨p, 0, none⟩), .pointer (some ⟨q, 0, none⟩)] w fun e w' => e = .returned (.int .i64 0) ∧ ∃ v w1, Big w1 w.heap.size v n ∧ Below w.heap.size w w1 ∧ w' = w1.setCell ⟨q, 1, none⟩ v := by
  have cF := fit_any A c n w h hl
  go_enter Tryz.func212, Tryz.ntmps212
  go_wp2_with fail
  refine cF.mono ?_
  rintro e w1 ⟨v, rfl, b1, hb1⟩
  obtain ⟨A1, c1, hv, _⟩ := b1.nt
  subst hv
  have hq1 := bel_cell hb1 hq
  have hf1 := (hb1.frozen (p := ⟨q, 1, none⟩) (World.block_lt_of_cell? w _ hq)).trans hf
  go_wp2_with fail
  go_ret
  exact ⟨rfl, _, w1, b1, hb1, rfl⟩

/-- The three blocks of reduced: what is to be made to fit, the fraction, the two steps. -/
structure RS (w : World) (H : Nat) (u1 u2 v9 o0 o1 : Value) : Prop where
  f0 : w.cell? ⟨H + 1 + 1, 0, none⟩ = some u1
  f1 : w.cell? ⟨H + 1 + 1, 1, none⟩ = some u2
  c9 : w.cell? ⟨H, 0, none⟩ = some v9
  k0 : w.cell? ⟨H + 1, 0, none⟩ = some o0
  r0 : w.frozen? ⟨H + 1, 0, none⟩ = false
  k1 : w.cell? ⟨H + 1, 1, none⟩ = some o1
  r1 : w.frozen? ⟨H + 1, 1, none⟩ = false
theorem RS.on {w w' : World} {H : Nat} {u1 u2 v9 o0 o1 : Value} (h : RS w H u1 u2 v9 o0 o1) (hb : Below w.heap.size w w') : RS w' H u1 u2 v9 o0 o1 :=
  ⟨bel_cell hb h.f0, bel_cell hb h.f1, bel_cell hb h.c9, bel_cell hb h.k0, (hb.frozen (p := ⟨H + 1, 0, none⟩) (World.block_lt_of_cell? w _ h.k0)).trans h.r0, bel_cell hb h.k1, (hb.frozen (p := ⟨H + 1, 1, none⟩) (World.block_lt_of_cell? w _ h.k1)).trans h.r1⟩
theorem RS.set0 {w : World} {H : Nat} {u1 u2 v9 o0 o1 : Value} (h : RS w H u1 u2 v9 o0 o1) (v : Value) : RS (w.setCell ⟨H + 1, 0, none⟩ v) H u1 u2 v9 v o1 := by
  obtain ⟨f0, f1, c9, k0, r0, k1, r1⟩ := h
  refine ⟨?_, ?_, ?_, ?_, ?_, ?_, ?_⟩ <;> go_simp
theorem RS.set1 {w : World} {H : Nat} {u1 u2 v9 o0 o1 : Value} (h : RS w H u1 u2 v9 o0 o1) (v : Value) : RS (w.setCell ⟨H + 1, 1, none⟩ v) H u1 u2 v9 o0 v := by
  obtain ⟨f0, f1, c9, k0, r0, k1, r1⟩ := h
  refine ⟨?_, ?_, ?_, ?_, ?_, ?_, ?_⟩ <;> go_simp
theorem RS.new (w : World) (u1 u2 v9 o0 o1 : Value) (T1 T2 T3 : TypeId) : RS (((w.alloc (.cells #[v9] T1)).alloc (.cells #[o0, o1] T2)).alloc (.cells #[u1, u2] T3)) w.heap.size u1 u2 v9 o0 o1 := by
  refine ⟨?_, ?_, ?_, ?_, ?_, ?_, ?_⟩ <;> go_simp

set_option maxRecDepth 100000 in
set_option maxHeartbeats 4000000 in
theorem reduced_any (A : Option Addr) (c : Nat) (l : List Nat) (C : Option Addr) (d : Nat) (m : List Nat) (w : World) (hA : Nt w A c l) (hC : Nt w C d m) (hl : l.length ≤ 1000) (hm : m.length ≤ 1000) (h0 : 0 < V m) (hn : (limbs (rfN (V l) (V m))).length ≤ 64) (hd : (limbs (rdD (V l) (V m))).length ≤ 64) :
    Calls Tryz.prog 164 #[.slice A l.length c, .slice C m.length d] w fun e w' => ∃ v1 v2, e = .returned (.tuple #[.agg #[v1, v2], .int .i64 0]) ∧ Big w' w.heap.size v1 (rfN (V l) (V m)) ∧ Big w' w.heap.size v2 (rdD (V l) (V m)) ∧ Below w.heap.size w w' := by
  have b0 := below_alloc (Below.refl w.heap.size w) (.cells #[.slice none 0 0, .slice none 0 0] 33)
  have g0 : 0 < Nat.gcd (V l) (V m) := Nat.gcd_pos_of_pos_right _ h0
  have cC := common_any A c l C d m _ (hA.on b0) (hC.on b0) hl hm
  have lg : (limbs (Nat.gcd (V l) (V m))).length ≤ 1000 := by
    have := limbs_mono (Nat.le_of_dvd h0 (Nat.gcd_dvd_right (V l) (V m)))
    have := limbs_le hC.dig
    omega
  have cS1 := fun w' (hb : Below w.heap.size w w') B e (ng : Nt w' B e (limbs (Nat.gcd (V l) (V m)))) => split_any A c l B e (limbs (Nat.gcd (V l) (V m))) w' (hA.on hb) ng (by omega) (by omega) (by rw [V_limbs]; exact g0)
  have cS2 := fun w' (hb : Below w.heap.size w w') B e (ng : Nt w' B e (limbs (Nat.gcd (V l) (V m)))) => split_any C d m B e (limbs (Nat.gcd (V l) (V m))) w' (hC.on hb) ng (by omega) (by omega) (by rw [V_limbs]; exact g0)
  simp only [V_limbs] at cS1 cS2
  unfold rfN at hn ⊢
  unfold rdD at hd ⊢
  obtain ⟨X, hX⟩ : ∃ X, V l / Nat.gcd (V l) (V m) = X := ⟨_, rfl⟩
  obtain ⟨Y, hY⟩ : ∃ Y, V m / Nat.gcd (V l) (V m) = Y := ⟨_, rfl⟩
  rw [hX] at hn ⊢
  rw [hY] at hd ⊢
  simp only [hX] at cS1
  simp only [hY] at cS2
  clear hX hY g0
  go_enter Tryz.func164, Tryz.ntmps164
  go_wp2_with fail
  refine cC.mono ?_
  rintro e w1 ⟨v1, rfl, bg, hb1⟩
  obtain ⟨A1, c1, rfl, ng⟩ := bg.nt
  have q1 := below_trans b0 hb1
  go_wp2_with fail
  refine (cS1 w1 q1 A1 c1 ng).mono ?_
  rintro e w2 ⟨v2, v2', rfl, bn, _, hb2⟩
  have q2 := below_trans q1 hb2
  obtain ⟨A2, c2, rfl, nn⟩ := bn.nt
  go_wp2_with fail
  have q3 := below_alloc q2 (.cells #[.slice A2 (limbs X).length c2] 30)
  have al := below_alloc (Below.refl w2.heap.size w2) (.cells #[.slice A2 (limbs X).length c2] 30)
  have z0 : (w2.alloc (.cells #[.slice A2 (limbs X).length c2] 30)).cell? ⟨w2.heap.size, 0, none⟩ = some (.slice A2 (limbs X).length c2) := by go_simp
  have n3 := nn.on al
  refine (cS2 _ q3 A1 c1 ((ng.on hb2).on al)).mono ?_
  rintro e w4 ⟨v4, v4', rfl, bd, _, hb4⟩
  have q4 := below_trans q3 hb4
  obtain ⟨A4, c4, rfl, nd⟩ := bd.nt
  have z1 := bel_cell hb4 z0
  have n4 := n3.on hb4
  go_wp2_with fail
  have rs0 := RS.new w4 (.func (.func 210) #[] #[.pointer (some ⟨w2.heap.size, 0, none⟩), .pointer (some ⟨w4.heap.size + 1, 0, none⟩)]) (.func (.func 212) #[] #[.pointer (some ⟨w4.heap.size, 0, none⟩), .pointer (some ⟨w4.heap.size + 1, 0, none⟩)]) (.slice A4 (limbs Y).length c4) (.slice none 0 0) (.slice none 0 0) 30 33 91
  have al5 := below_alloc (below_alloc (below_alloc (Below.refl w4.heap.size w4) (.cells #[.slice A4 (limbs Y).length c4] 30)) (.cells #[.slice none 0 0, .slice none 0 0] 33)) (.cells #[.func (.func 210) #[] #[.pointer (some ⟨w2.heap.size, 0, none⟩), .pointer (some ⟨w4.heap.size + 1, 0, none⟩)], .func (.func 212) #[] #[.pointer (some ⟨w4.heap.size, 0, none⟩), .pointer (some ⟨w4.heap.size + 1, 0, none⟩)]] 91)
  have zb0 := (blk_new (below_trans hb1 (below_trans hb2 (below_trans al hb4))) (g := w.heap.size) rfl (j := 0) rfl)
  have zb1 := (blk_new (below_trans hb1 (below_trans hb2 (below_trans al hb4))) (g := w.heap.size) rfl (j := 1) rfl)
  have sw : w.heap.size < w4.heap.size := World.block_lt_of_cell? w4 _ zb0.1
  have Zb0 := Lib.hid zb0; have Zb1 := Lib.hid zb1
  clear zb0 zb1
  go_loopw [34] (fun iv wr => ∃ (k : Nat) (o0 o1 : Value), k ≤ 2 ∧ iv = .int .i64 k ∧ Below w4.heap.size w4 wr ∧ RS wr w4.heap.size (.func (.func 210) #[] #[.pointer (some ⟨w2.heap.size, 0, none⟩), .pointer (some ⟨w4.heap.size + 1, 0, none⟩)]) (.func (.func 212) #[] #[.pointer (some ⟨w4.heap.size, 0, none⟩), .pointer (some ⟨w4.heap.size + 1, 0, none⟩)]) (.slice A4 (limbs Y).length c4) o0 o1 ∧ w4.heap.size + 1 + 1 ≤ wr.heap.size ∧ (1 ≤ k → Big wr (w4.heap.size + 1 + 1) o0 X) ∧ (2 ≤ k → Big wr (w4.heap.size + 1 + 1) o1 Y)) (fun iv _ => 2 - (intOf iv).toNat)
  case atStart => exact ⟨0, _, _, by omega, rfl, al5, rs0, by simp, fun h => by omega, fun h => by omega⟩
  case round =>
    obtain ⟨k, o0, o1, hk, rfl, hbr, rs, szr, B0, B1⟩ := hrel
    have z7 := bel_cell hbr z1
    have m2 := n4.on hbr
    have m4 := nd.on hbr
    rcases (show k = 0 ∨ k = 1 ∨ k = 2 by omega) with rfl | rfl | rfl
    · have f0 := rs.f0
      have RSt := Lib.hid rs
      have cR := red1_any w2.heap.size (w4.heap.size + 1) A2 c2 X o0 wr z7 m2 hn rs.k0 rs.r0
      clear B0 B1 rs
      go_wp2_with fail
      refine cR.mono ?_
      rintro e w' ⟨rfl, v, w5, bv, hb5, rfl⟩
      have r5 := (RSt.out.on hb5).set0 v
      have b5 : Below w4.heap.size w4 (w5.setCell ⟨w4.heap.size + 1, 0, none⟩ v) := (below_trans hbr hb5).setCell (Nat.le_succ _) v
      have s5 : w4.heap.size + 1 + 1 ≤ (w5.setCell ⟨w4.heap.size + 1, 0, none⟩ v).heap.size := by have := hb5.size; simp; omega
      have bv' : Big (w5.setCell ⟨w4.heap.size + 1, 0, none⟩ v) (w4.heap.size + 1 + 1) v X := Big.down (Own.keep_lt bv (grown_set _ _ _ _) (by omega)) (by omega)
      go_wp2_with fail
      exact ⟨⟨1, v, o1, by omega, rfl, b5, r5, s5, fun _ => bv', fun h => by omega⟩, by simp [intOf]⟩
    · have f1 := rs.f1
      have RSt := Lib.hid rs
      have B0' := B0 (Nat.le_refl _)
      have cR := red2_any w4.heap.size (w4.heap.size + 1) A4 c4 Y o1 wr rs.c9 m4 hd rs.k1 rs.r1
      clear B0 B1 rs
      simp only [show ((1 : Nat) : Int) = 1 from rfl]
      go_wp2_with fail
      refine cR.mono ?_
      rintro e w' ⟨rfl, v, w5, bv, hb5, rfl⟩
      have r5 := (RSt.out.on hb5).set1 v
      have b5 : Below w4.heap.size w4 (w5.setCell ⟨w4.heap.size + 1, 1, none⟩ v) := (below_trans hbr hb5).setCell (Nat.le_succ _) v
      have s5 : w4.heap.size + 1 + 1 ≤ (w5.setCell ⟨w4.heap.size + 1, 1, none⟩ v).heap.size := by have := hb5.size; simp; omega
      have bv' : Big (w5.setCell ⟨w4.heap.size + 1, 1, none⟩ v) (w4.heap.size + 1 + 1) v Y := Big.down (Own.keep_lt bv (grown_set _ _ _ _) (by omega)) (by omega)
      have bo : Big (w5.setCell ⟨w4.heap.size + 1, 1, none⟩ v) (w4.heap.size + 1 + 1) o0 X := Own.keep_lt (B0'.below hb5) (grown_set _ _ _ _) (Nat.lt_succ_self _)
      go_wp2_with fail
      exact ⟨⟨2, o0, v, by omega, rfl, b5, r5, s5, fun _ => bo, fun _ => bv'⟩, by simp [intOf]⟩
    · have B0' := B0 (by omega)
      have B1' := B1 (by omega)
      obtain ⟨P0, e0, rfl, _⟩ := B0'.nt
      obtain ⟨P1, e1, rfl, _⟩ := B1'.nt
      have k0 := rs.k0
      have k1 := rs.k1
      have y0 := bel_cell hbr Zb0.out.1
      have y1 := bel_cell hbr Zb1.out.1
      have t0 := (hbr.frozen (p := ⟨w.heap.size, 0, none⟩) sw).trans Zb0.out.2
      have t1 := (hbr.frozen (p := ⟨w.heap.size, 1, none⟩) sw).trans Zb1.out.2
      have q5 := (below_trans q4 hbr)
      clear B0 B1 rs cS1 cS2
      simp only [show ((2 : Nat) : Int) = 2 from rfl]
      go_wp2_with fail
      (try simp only [Exit.inBlock, Exit.then])
      refine bodyPost_ret (v := .tuple #[.agg #[.slice P0 (limbs X).length e0, .slice P1 (limbs Y).length e1], .int .i64 0]) ?_ rfl ⟨_, _, rfl, ?_, ?_, ?_⟩
      · rw [results_cell_tmp rfl]
        go_simp
      · exact Big.down (Own.keep_lt (Own.keep_lt B0' (grown_set _ _ _ _) (by omega)) (grown_set _ _ _ _) (by omega)) (by omega)
      · exact Big.down (Own.keep_lt (Own.keep_lt B1' (grown_set _ _ _ _) (by omega)) (grown_set _ _ _ _) (by omega)) (by omega)
      · exact (q5.setCell (Nat.le_refl _) _).setCell (Nat.le_refl _) _

end Go.Proofs.YtfolgmcoggejbaaGreat

namespace Go.Proofs.YtfolgmcoggejbaaGreat
open Go.RowKit
set_option linter.unusedVariables false
set_option linter.unusedSimpArgs false

/-- What a fraction's call hands back: a reduced fraction. -/
def FrR (w w' : World) (a b : Nat) (e : Ending) : Prop := ∃ v1 v2, e = .returned (.tuple #[.agg #[v1, v2], .int .i64 0]) ∧ Big w' w.heap.size v1 (rfN a b) ∧ Big w' w.heap.size v2 (rdD a b) ∧ Below w.heap.size w w'

theorem big_set2 {w : World} {B g x : Nat} {v : Value} (h : Big w B v x) (hlt : g < B) (a0 a1 : Value) : Big ((w.setCell ⟨g, 0, none⟩ a0).setCell ⟨g, 1, none⟩ a1) B v x :=
  Own.keep_lt (Own.keep_lt h (grown_set _ _ _ _) hlt) (grown_set _ _ _ _) hlt

theorem mulS {w y : World} {a b c d : Value} (h : Below w.heap.size w y) (h0 : y.cell? ⟨w.heap.size, 0, none⟩ = some a) (h1 : y.cell? ⟨w.heap.size, 1, none⟩ = some b) (h2 : y.cell? ⟨w.heap.size + 1, 0, none⟩ = some c) (h3 : y.cell? ⟨w.heap.size + 1, 1, none⟩ = some d) (u v : Value) :
    Below w.heap.size w ((y.setCell ⟨w.heap.size + 1 + 1, 0, none⟩ u).setCell ⟨w.heap.size + 1 + 1, 1, none⟩ v) ∧ ((y.setCell ⟨w.heap.size + 1 + 1, 0, none⟩ u).setCell ⟨w.heap.size + 1 + 1, 1, none⟩ v).cell? ⟨w.heap.size, 0, none⟩ = some a ∧ ((y.setCell ⟨w.heap.size + 1 + 1, 0, none⟩ u).setCell ⟨w.heap.size + 1 + 1, 1, none⟩ v).cell? ⟨w.heap.size, 1, none⟩ = some b ∧ ((y.setCell ⟨w.heap.size + 1 + 1, 0, none⟩ u).setCell ⟨w.heap.size + 1 + 1, 1, none⟩ v).cell? ⟨w.heap.size + 1, 0, none⟩ = some c ∧ ((y.setCell ⟨w.heap.size + 1 + 1, 0, none⟩ u).setCell ⟨w.heap.size + 1 + 1, 1, none⟩ v).cell? ⟨w.heap.size + 1, 1, none⟩ = some d := by
  have e : w.heap.size ≤ w.heap.size + 1 + 1 := by omega
  refine ⟨(h.setCell e u).setCell e v, ?_, ?_, ?_, ?_⟩ <;> go_simp

set_option maxRecDepth 100000 in
set_option maxHeartbeats 8000000 in
theorem FracMul_any (f g : Frc) (w : World) (hf : f.In w) (hg : g.In w) (h0 : validE [f, g] = 0) (hn : (limbs (V f.l * V g.l)).length ≤ 64) (hd : (limbs (V f.m * V g.m)).length ≤ 64) (hp : 0 < V f.m * V g.m) :
    Calls Tryz.prog 303 #[f.val, g.val] w fun e w' => FrR w w' (V f.l * V g.l) (V f.m * V g.m) e := by
  have hb1 := below_alloc (below_alloc (below_alloc (Below.refl w.heap.size w) (.cells #[.slice f.A f.l.length f.c, .slice f.C f.m.length f.d] 33)) (.cells #[.slice g.A g.l.length g.c, .slice g.C g.m.length g.d] 33)) (.cells #[.slice none 0 0, .slice none 0 0] 33)
  have hb0 := below_alloc hb1 (.cells #[.slice f.A f.l.length f.c, .slice f.C f.m.length f.d, .slice g.A g.l.length g.c, .slice g.C g.m.length g.d] 33)
  have cV := valid_any (some ⟨w.heap.size + 1 + 1 + 1, 0, none⟩) 2 [f, g] _ (frc_lit2 (((w.alloc (.cells #[.slice f.A f.l.length f.c, .slice f.C f.m.length f.d] 33)).alloc (.cells #[.slice g.A g.l.length g.c, .slice g.C g.m.length g.d] 33)).alloc (.cells #[.slice none 0 0, .slice none 0 0] 33)) f g (by simp)) (in_two hf hg hb0) (by simp)
  have hlen2 : ([f, g] : List Frc).length = 2 := rfl
  rw [hlen2, h0] at cV
  clear hlen2
  obtain ⟨s1, s2, s3, s4⟩ := short2 h0
  clear h0
  obtain ⟨X, hX⟩ : ∃ X, V f.l * V g.l = X := ⟨_, rfl⟩
  obtain ⟨Y, hY⟩ : ∃ Y, V f.m * V g.m = Y := ⟨_, rfl⟩
  have c1 := fun w' (hb : Below w.heap.size w w') => times_any f.A f.c f.l g.A g.c g.l w' (hf.on hb).n (hg.on hb).n (by omega) (by omega)
  have c2 := fun w' (hb : Below w.heap.size w w') => times_any f.C f.d f.m g.C g.d g.m w' (hf.on hb).d (hg.on hb).d (by omega) (by omega)
  rw [hX] at hn ⊢
  rw [hY] at hd hp ⊢
  simp only [hX] at c1
  simp only [hY] at c2
  have c3 := fun w' P p Q q (n1 : Nt w' P p (limbs X)) (n2 : Nt w' Q q (limbs Y)) => reduced_any P p (limbs X) Q q (limbs Y) w' n1 n2 (by omega) (by omega) (by rw [V_limbs]; exact hp) (by rw [V_limbs, V_limbs]; exact Nat.le_trans (limbs_mono (rd_le X Y).1) hn) (by rw [V_limbs, V_limbs]; exact Nat.le_trans (limbs_mono (rd_le X Y).2) hd)
  simp only [V_limbs] at c3
  clear hX hY
  unfold FrR Frc.val
  go_enter Tryz.func303, Tryz.ntmps303
  go_wp2_with fail
  refine cV.mono ?_
  rintro e w3 ⟨rfl, hb3⟩
  have q3 := below_trans hb0 hb3
  have k0 : w3.cell? ⟨w.heap.size, 0, none⟩ = some (.slice f.A f.l.length f.c) := bel_cell hb3 (by go_simp)
  have k1 : w3.cell? ⟨w.heap.size, 1, none⟩ = some (.slice f.C f.m.length f.d) := bel_cell hb3 (by go_simp)
  have k2 : w3.cell? ⟨w.heap.size + 1, 0, none⟩ = some (.slice g.A g.l.length g.c) := bel_cell hb3 (by go_simp)
  have k3 : w3.cell? ⟨w.heap.size + 1, 1, none⟩ = some (.slice g.C g.m.length g.d) := bel_cell hb3 (by go_simp)
  have j0 := blk_new (below_trans (below_alloc (Below.refl _ _) (.cells #[.slice f.A f.l.length f.c, .slice f.C f.m.length f.d, .slice g.A g.l.length g.c, .slice g.C g.m.length g.d] 33)) hb3) (g := w.heap.size + 1 + 1) (by simp) (j := 0) rfl
  have j1 := blk_new (below_trans (below_alloc (Below.refl _ _) (.cells #[.slice f.A f.l.length f.c, .slice f.C f.m.length f.d, .slice g.A g.l.length g.c, .slice g.C g.m.length g.d] 33)) hb3) (g := w.heap.size + 1 + 1) (by simp) (j := 1) rfl
  have sz3 : w.heap.size + 1 + 1 < w3.heap.size := World.block_lt_of_cell? w3 _ j0.1
  have J := fun w' (hb : Below w3.heap.size w3 w') => And.intro (And.intro (bel_cell hb j0.1) ((hb.frozen (p := ⟨w.heap.size + 1 + 1, 0, none⟩) sz3).trans j0.2)) (And.intro (bel_cell hb j1.1) ((hb.frozen (p := ⟨w.heap.size + 1 + 1, 1, none⟩) sz3).trans j1.2))
  clear j0 j1
  go_wp2_with fail
  go_region_held3 (fun w' => Below w.heap.size w w' ∧ w'.cell? ⟨w.heap.size, 0, none⟩ = some (.slice f.A f.l.length f.c) ∧ w'.cell? ⟨w.heap.size, 1, none⟩ = some (.slice f.C f.m.length f.d) ∧ w'.cell? ⟨w.heap.size + 1, 0, none⟩ = some (.slice g.A g.l.length g.c) ∧ w'.cell? ⟨w.heap.size + 1, 1, none⟩ = some (.slice g.C g.m.length g.d))
    (first | (exact ⟨q3.drew, k0, k1, k2, k3⟩) | (go_split_ands; exact ⟨below_trans (by assumption) hx1, bel_cell hx1 (by assumption), bel_cell hx1 (by assumption), bel_cell hx1 (by assumption), bel_cell hx1 (by assumption)⟩) | (go_split_ands; exact ⟨below_trans (by assumption) hx2, bel_cell hx2 (by assumption), bel_cell hx2 (by assumption), bel_cell hx2 (by assumption), bel_cell hx2 (by assumption)⟩) | (go_split_ands; exact ⟨below_trans (by assumption) hx3, bel_cell hx3 (by assumption), bel_cell hx3 (by assumption), bel_cell hx3 (by assumption), bel_cell hx3 (by assumption)⟩) | (go_split_ands; exact mulS (by assumption) (by assumption) (by assumption) (by assumption) (by assumption) _ _))
    (first
      | (go_at_call 121; refine Calls.on (args' := #[.slice f.A f.l.length f.c, .slice g.A g.l.length g.c]) rfl ?_; refine (c1 _ (by go_split_ands; assumption)).mono ?_; rintro e y1 ⟨v1, rfl, b1, hx1⟩; obtain ⟨A1, e1, hv1, n1⟩ := b1.nt; rw [hv1])
      | (go_at_call 121; refine Calls.on (args' := #[.slice f.C f.m.length f.d, .slice g.C g.m.length g.d]) rfl ?_; refine (c2 _ (by go_split_ands; assumption)).mono ?_; rintro e y2 ⟨v2, rfl, b2, hx2⟩; obtain ⟨A2, e2, hv2, n2⟩ := b2.nt; rw [hv2])
      | (go_at_call 164; refine (c3 _ _ _ _ _ (n1.on hx2) n2).mono ?_; rintro e y3 ⟨v3, v4, rfl, b3, b4, hx3⟩; obtain ⟨A3, e3, hv3, n3⟩ := b3.nt; obtain ⟨A4, e4, hv4, n4⟩ := b4.nt; subst hv3 hv4; have HS : w3.heap.size ≤ y2.heap.size := Nat.le_trans hx1.size hx2.size; have HB := below_trans (below_trans (below_trans (Below.refl _ _).drew hx1) hx2) hx3; obtain ⟨⟨z0, z1⟩, z2, z3⟩ := J _ HB)
      | (go_at_call 164; refine (c3 _ _ _ _ _ n1 (n2.on hx1)).mono ?_; rintro e y3 ⟨v3, v4, rfl, b3, b4, hx3⟩; obtain ⟨A3, e3, hv3, n3⟩ := b3.nt; obtain ⟨A4, e4, hv4, n4⟩ := b4.nt; subst hv3 hv4; have HS : w3.heap.size ≤ y1.heap.size := Nat.le_trans hx2.size hx1.size; have HB := below_trans (below_trans (below_trans (Below.refl _ _).drew hx2) hx1) hx3; obtain ⟨⟨z0, z1⟩, z2, z3⟩ := J _ HB))
  all_goals (
    have F1 := Big.down (base' := w.heap.size) (big_set2 b3 (g := w.heap.size + 1 + 1) (by omega) (.slice A3 (limbs (rfN X Y)).length e3) (.slice A4 (limbs (rdD X Y)).length e4)) (by omega)
    have F2 := Big.down (base' := w.heap.size) (big_set2 b4 (g := w.heap.size + 1 + 1) (by omega) (.slice A3 (limbs (rfN X Y)).length e3) (.slice A4 (limbs (rdD X Y)).length e4)) (by omega)
    have F3 := ((below_trans q3 HB).setCell (p := ⟨w.heap.size + 1 + 1, 0, none⟩) (by simp; omega) (.slice A3 (limbs (rfN X Y)).length e3)).setCell (p := ⟨w.heap.size + 1 + 1, 1, none⟩) (by simp; omega) (.slice A4 (limbs (rdD X Y)).length e4)
    go_wp2_with fail
    (try simp only [Exit.inBlock, Exit.then])
    refine bodyPost_ret (v := .tuple #[.agg #[.slice A3 (limbs (rfN X Y)).length e3, .slice A4 (limbs (rdD X Y)).length e4], .int .i64 0]) ?_ rfl ⟨_, _, rfl, F1, F2, F3⟩
    rw [results_cell_tmp rfl]
    go_simp)

end Go.Proofs.YtfolgmcoggejbaaGreat

namespace Go.Proofs.YtfolgmcoggejbaaGreat
open Go.RowKit
set_option linter.unusedVariables false
set_option linter.unusedSimpArgs false

set_option maxRecDepth 100000 in
set_option maxHeartbeats 8000000 in
theorem FracAdd_any (f g : Frc) (w : World) (hf : f.In w) (hg : g.In w) (h0 : validE [f, g] = 0) (hn : (limbs (V f.l * V g.m + V g.l * V f.m)).length ≤ 64) (hk : (limbs (V f.l * V g.m)).length ≤ 1000) (hk2 : (limbs (V g.l * V f.m)).length ≤ 1000) (hd : (limbs (V f.m * V g.m)).length ≤ 64) (hp : 0 < V f.m * V g.m) :
    Calls Tryz.prog 315 #[f.val, g.val] w fun e w' => FrR w w' (V f.l * V g.m + V g.l * V f.m) (V f.m * V g.m) e := by
  have hb1 := below_alloc (below_alloc (below_alloc (Below.refl w.heap.size w) (.cells #[.slice f.A f.l.length f.c, .slice f.C f.m.length f.d] 33)) (.cells #[.slice g.A g.l.length g.c, .slice g.C g.m.length g.d] 33)) (.cells #[.slice none 0 0, .slice none 0 0] 33)
  have hb0 := below_alloc hb1 (.cells #[.slice f.A f.l.length f.c, .slice f.C f.m.length f.d, .slice g.A g.l.length g.c, .slice g.C g.m.length g.d] 33)
  have cV := valid_any (some ⟨w.heap.size + 1 + 1 + 1, 0, none⟩) 2 [f, g] _ (frc_lit2 (((w.alloc (.cells #[.slice f.A f.l.length f.c, .slice f.C f.m.length f.d] 33)).alloc (.cells #[.slice g.A g.l.length g.c, .slice g.C g.m.length g.d] 33)).alloc (.cells #[.slice none 0 0, .slice none 0 0] 33)) f g (by simp)) (in_two hf hg hb0) (by simp)
  have hlen2 : ([f, g] : List Frc).length = 2 := rfl
  rw [hlen2, h0] at cV
  clear hlen2
  obtain ⟨s1, s2, s3, s4⟩ := short2 h0
  clear h0
  have cX := fun w' (hb : Below w.heap.size w w') => cross_any f g w' (hf.on hb) (hg.on hb) (by omega) (by omega) (by omega) (by omega)
  obtain ⟨P, hP⟩ : ∃ P, V f.l * V g.m = P := ⟨_, rfl⟩
  obtain ⟨Q, hQ⟩ : ∃ Q, V g.l * V f.m = Q := ⟨_, rfl⟩
  rw [hP, hQ] at hn ⊢
  rw [hP] at hk
  rw [hQ] at hk2
  simp only [hP, hQ] at cX
  clear hP hQ
  obtain ⟨X, hX⟩ : ∃ X, P + Q = X := ⟨_, rfl⟩
  obtain ⟨Y, hY⟩ : ∃ Y, V f.m * V g.m = Y := ⟨_, rfl⟩
  have c1 := fun w' A c B d (n1 : Nt w' A c (limbs P)) (n2 : Nt w' B d (limbs Q)) => plus_any A c (limbs P) B d (limbs Q) w' n1 n2 (by omega) (by omega)
  have c2 := fun w' (hb : Below w.heap.size w w') => times_any f.C f.d f.m g.C g.d g.m w' (hf.on hb).d (hg.on hb).d (by omega) (by omega)
  rw [hX] at hn ⊢
  rw [hY] at hd hp ⊢
  simp only [V_limbs, hX] at c1
  simp only [hY] at c2
  have c3 := fun w' P p Q q (n1 : Nt w' P p (limbs X)) (n2 : Nt w' Q q (limbs Y)) => reduced_any P p (limbs X) Q q (limbs Y) w' n1 n2 (by omega) (by omega) (by rw [V_limbs]; exact hp) (by rw [V_limbs, V_limbs]; exact Nat.le_trans (limbs_mono (rd_le X Y).1) hn) (by rw [V_limbs, V_limbs]; exact Nat.le_trans (limbs_mono (rd_le X Y).2) hd)
  simp only [V_limbs] at c3
  clear hX hY
  unfold FrR Frc.val
  go_enter Tryz.func315, Tryz.ntmps315
  go_wp2_with fail
  refine cV.mono ?_
  rintro e w3 ⟨rfl, hb3⟩
  have q3 := below_trans hb0 hb3
  have k0 : w3.cell? ⟨w.heap.size, 0, none⟩ = some (.slice f.A f.l.length f.c) := bel_cell hb3 (by go_simp)
  have k1 : w3.cell? ⟨w.heap.size, 1, none⟩ = some (.slice f.C f.m.length f.d) := bel_cell hb3 (by go_simp)
  have k2 : w3.cell? ⟨w.heap.size + 1, 0, none⟩ = some (.slice g.A g.l.length g.c) := bel_cell hb3 (by go_simp)
  have k3 : w3.cell? ⟨w.heap.size + 1, 1, none⟩ = some (.slice g.C g.m.length g.d) := bel_cell hb3 (by go_simp)
  have j0 := blk_new (below_trans (below_alloc (Below.refl _ _) (.cells #[.slice f.A f.l.length f.c, .slice f.C f.m.length f.d, .slice g.A g.l.length g.c, .slice g.C g.m.length g.d] 33)) hb3) (g := w.heap.size + 1 + 1) (by simp) (j := 0) rfl
  have j1 := blk_new (below_trans (below_alloc (Below.refl _ _) (.cells #[.slice f.A f.l.length f.c, .slice f.C f.m.length f.d, .slice g.A g.l.length g.c, .slice g.C g.m.length g.d] 33)) hb3) (g := w.heap.size + 1 + 1) (by simp) (j := 1) rfl
  have sz3 : w.heap.size + 1 + 1 < w3.heap.size := World.block_lt_of_cell? w3 _ j0.1
  have J := fun w' (hb : Below w3.heap.size w3 w') => And.intro (And.intro (bel_cell hb j0.1) ((hb.frozen (p := ⟨w.heap.size + 1 + 1, 0, none⟩) sz3).trans j0.2)) (And.intro (bel_cell hb j1.1) ((hb.frozen (p := ⟨w.heap.size + 1 + 1, 1, none⟩) sz3).trans j1.2))
  clear j0 j1
  go_wp2_with fail
  have cX3 := cX w3 q3
  unfold Frc.val at cX3
  refine cX3.mono ?_
  rintro e w4 ⟨u1, u2, rfl, bP, bQ, hb4⟩
  obtain ⟨D1, d1, rfl, nP⟩ := bP.nt
  obtain ⟨D2, d2, rfl, nQ⟩ := bQ.nt
  obtain ⟨w5, hw5⟩ : ∃ w5, w5 = w4 := ⟨_, rfl⟩
  subst hw5
  have q5 := below_trans q3 hb4
  have k0 := bel_cell hb4 k0
  have k1 := bel_cell hb4 k1
  have k2 := bel_cell hb4 k2
  have k3 := bel_cell hb4 k3
  have sz5 : w.heap.size + 1 + 1 < w5.heap.size := Nat.lt_of_lt_of_le sz3 hb4.size
  go_wp2_with fail
  go_region_held3 (fun w' => Below w.heap.size w w' ∧ w'.cell? ⟨w.heap.size, 0, none⟩ = some (.slice f.A f.l.length f.c) ∧ w'.cell? ⟨w.heap.size, 1, none⟩ = some (.slice f.C f.m.length f.d) ∧ w'.cell? ⟨w.heap.size + 1, 0, none⟩ = some (.slice g.A g.l.length g.c) ∧ w'.cell? ⟨w.heap.size + 1, 1, none⟩ = some (.slice g.C g.m.length g.d))
    (first | (exact ⟨q5.drew, k0, k1, k2, k3⟩) | (go_split_ands; exact ⟨below_trans (by assumption) hx1, bel_cell hx1 (by assumption), bel_cell hx1 (by assumption), bel_cell hx1 (by assumption), bel_cell hx1 (by assumption)⟩) | (go_split_ands; exact ⟨below_trans (by assumption) hx2, bel_cell hx2 (by assumption), bel_cell hx2 (by assumption), bel_cell hx2 (by assumption), bel_cell hx2 (by assumption)⟩) | (go_split_ands; exact ⟨below_trans (by assumption) hx3, bel_cell hx3 (by assumption), bel_cell hx3 (by assumption), bel_cell hx3 (by assumption), bel_cell hx3 (by assumption)⟩) | (go_split_ands; exact mulS (by assumption) (by assumption) (by assumption) (by assumption) (by assumption) _ _))
    (first
      | (go_at_call 56; refine (c1 _ _ _ _ _ (nP.on (Below.refl _ _).drew) (nQ.on (Below.refl _ _).drew)).mono ?_; rintro e y1 ⟨v1, rfl, b1, hx1⟩; obtain ⟨A1, e1, hv1, n1⟩ := b1.nt; rw [hv1])
      | (go_at_call 56; refine (c1 _ _ _ _ _ (nP.on (below_trans (Below.refl _ _).drew hx2)) (nQ.on (below_trans (Below.refl _ _).drew hx2))).mono ?_; rintro e y1 ⟨v1, rfl, b1, hx1⟩; obtain ⟨A1, e1, hv1, n1⟩ := b1.nt; rw [hv1])
      | (go_at_call 121; refine Calls.on (args' := #[.slice f.C f.m.length f.d, .slice g.C g.m.length g.d]) rfl ?_; refine (c2 _ (by go_split_ands; assumption)).mono ?_; rintro e y2 ⟨v2, rfl, b2, hx2⟩; obtain ⟨A2, e2, hv2, n2⟩ := b2.nt; rw [hv2])
      | (go_at_call 164; refine (c3 _ _ _ _ _ (n1.on hx2) n2).mono ?_; rintro e y3 ⟨v3, v4, rfl, b3, b4, hx3⟩; obtain ⟨A3, e3, hv3, n3⟩ := b3.nt; obtain ⟨A4, e4, hv4, n4⟩ := b4.nt; subst hv3 hv4; have HS : w5.heap.size ≤ y2.heap.size := Nat.le_trans hx1.size hx2.size; have HB := below_trans (below_trans (below_trans (Below.refl _ _).drew hx1) hx2) hx3; obtain ⟨⟨z0, z1⟩, z2, z3⟩ := J _ (below_trans hb4 HB))
      | (go_at_call 164; refine (c3 _ _ _ _ _ n1 (n2.on hx1)).mono ?_; rintro e y3 ⟨v3, v4, rfl, b3, b4, hx3⟩; obtain ⟨A3, e3, hv3, n3⟩ := b3.nt; obtain ⟨A4, e4, hv4, n4⟩ := b4.nt; subst hv3 hv4; have HS : w5.heap.size ≤ y1.heap.size := Nat.le_trans hx2.size hx1.size; have HB := below_trans (below_trans (below_trans (Below.refl _ _).drew hx2) hx1) hx3; obtain ⟨⟨z0, z1⟩, z2, z3⟩ := J _ (below_trans hb4 HB)))
  all_goals (
    have F1 := Big.down (base' := w.heap.size) (big_set2 b3 (g := w.heap.size + 1 + 1) (by omega) (.slice A3 (limbs (rfN X Y)).length e3) (.slice A4 (limbs (rdD X Y)).length e4)) (by omega)
    have F2 := Big.down (base' := w.heap.size) (big_set2 b4 (g := w.heap.size + 1 + 1) (by omega) (.slice A3 (limbs (rfN X Y)).length e3) (.slice A4 (limbs (rdD X Y)).length e4)) (by omega)
    have F3 := ((below_trans q5 HB).setCell (p := ⟨w.heap.size + 1 + 1, 0, none⟩) (by simp; omega) (.slice A3 (limbs (rfN X Y)).length e3)).setCell (p := ⟨w.heap.size + 1 + 1, 1, none⟩) (by simp; omega) (.slice A4 (limbs (rdD X Y)).length e4)
    go_wp2_with fail
    (try simp only [Exit.inBlock, Exit.then])
    refine bodyPost_ret (v := .tuple #[.agg #[.slice A3 (limbs (rfN X Y)).length e3, .slice A4 (limbs (rdD X Y)).length e4], .int .i64 0]) ?_ rfl ⟨_, _, rfl, F1, F2, F3⟩
    rw [results_cell_tmp rfl]
    go_simp)


set_option maxRecDepth 100000 in
set_option maxHeartbeats 8000000 in
theorem FracSub_any (f g : Frc) (w : World) (hf : f.In w) (hg : g.In w) (h0 : validE [f, g] = 0) (hn : (limbs (V f.l * V g.m - V g.l * V f.m)).length ≤ 64) (hle : V g.l * V f.m ≤ V f.l * V g.m) (hk : (limbs (V f.l * V g.m)).length ≤ 1000) (hd : (limbs (V f.m * V g.m)).length ≤ 64) (hp : 0 < V f.m * V g.m) :
    Calls Tryz.prog 316 #[f.val, g.val] w fun e w' => FrR w w' (V f.l * V g.m - V g.l * V f.m) (V f.m * V g.m) e := by
  have hb1 := below_alloc (below_alloc (below_alloc (Below.refl w.heap.size w) (.cells #[.slice f.A f.l.length f.c, .slice f.C f.m.length f.d] 33)) (.cells #[.slice g.A g.l.length g.c, .slice g.C g.m.length g.d] 33)) (.cells #[.slice none 0 0, .slice none 0 0] 33)
  have hb0 := below_alloc hb1 (.cells #[.slice f.A f.l.length f.c, .slice f.C f.m.length f.d, .slice g.A g.l.length g.c, .slice g.C g.m.length g.d] 33)
  have cV := valid_any (some ⟨w.heap.size + 1 + 1 + 1, 0, none⟩) 2 [f, g] _ (frc_lit2 (((w.alloc (.cells #[.slice f.A f.l.length f.c, .slice f.C f.m.length f.d] 33)).alloc (.cells #[.slice g.A g.l.length g.c, .slice g.C g.m.length g.d] 33)).alloc (.cells #[.slice none 0 0, .slice none 0 0] 33)) f g (by simp)) (in_two hf hg hb0) (by simp)
  have hlen2 : ([f, g] : List Frc).length = 2 := rfl
  rw [hlen2, h0] at cV
  clear hlen2
  obtain ⟨s1, s2, s3, s4⟩ := short2 h0
  clear h0
  have cX := fun w' (hb : Below w.heap.size w w') => cross_any f g w' (hf.on hb) (hg.on hb) (by omega) (by omega) (by omega) (by omega)
  obtain ⟨P, hP⟩ : ∃ P, V f.l * V g.m = P := ⟨_, rfl⟩
  obtain ⟨Q, hQ⟩ : ∃ Q, V g.l * V f.m = Q := ⟨_, rfl⟩
  rw [hP, hQ] at hn ⊢
  rw [hP] at hk
  rw [hQ] at hle
  rw [hP] at hle
  have hk2 := limbs_mono hle
  simp only [hP, hQ] at cX
  clear hP hQ
  obtain ⟨X, hX⟩ : ∃ X, P - Q = X := ⟨_, rfl⟩
  obtain ⟨Y, hY⟩ : ∃ Y, V f.m * V g.m = Y := ⟨_, rfl⟩
  have c1 := fun w' A c B d (n1 : Nt w' A c (limbs P)) (n2 : Nt w' B d (limbs Q)) => minus_any A c (limbs P) B d (limbs Q) w' n1 n2 (by omega) (by omega) (by rw [V_limbs, V_limbs]; exact hle)
  have c2 := fun w' (hb : Below w.heap.size w w') => times_any f.C f.d f.m g.C g.d g.m w' (hf.on hb).d (hg.on hb).d (by omega) (by omega)
  rw [hX] at hn ⊢
  rw [hY] at hd hp ⊢
  simp only [V_limbs, hX] at c1
  simp only [hY] at c2
  have c3 := fun w' P p Q q (n1 : Nt w' P p (limbs X)) (n2 : Nt w' Q q (limbs Y)) => reduced_any P p (limbs X) Q q (limbs Y) w' n1 n2 (by omega) (by omega) (by rw [V_limbs]; exact hp) (by rw [V_limbs, V_limbs]; exact Nat.le_trans (limbs_mono (rd_le X Y).1) hn) (by rw [V_limbs, V_limbs]; exact Nat.le_trans (limbs_mono (rd_le X Y).2) hd)
  simp only [V_limbs] at c3
  clear hX hY
  unfold FrR Frc.val
  go_enter Tryz.func316, Tryz.ntmps316
  go_wp2_with fail
  refine cV.mono ?_
  rintro e w3 ⟨rfl, hb3⟩
  have q3 := below_trans hb0 hb3
  have k0 : w3.cell? ⟨w.heap.size, 0, none⟩ = some (.slice f.A f.l.length f.c) := bel_cell hb3 (by go_simp)
  have k1 : w3.cell? ⟨w.heap.size, 1, none⟩ = some (.slice f.C f.m.length f.d) := bel_cell hb3 (by go_simp)
  have k2 : w3.cell? ⟨w.heap.size + 1, 0, none⟩ = some (.slice g.A g.l.length g.c) := bel_cell hb3 (by go_simp)
  have k3 : w3.cell? ⟨w.heap.size + 1, 1, none⟩ = some (.slice g.C g.m.length g.d) := bel_cell hb3 (by go_simp)
  have j0 := blk_new (below_trans (below_alloc (Below.refl _ _) (.cells #[.slice f.A f.l.length f.c, .slice f.C f.m.length f.d, .slice g.A g.l.length g.c, .slice g.C g.m.length g.d] 33)) hb3) (g := w.heap.size + 1 + 1) (by simp) (j := 0) rfl
  have j1 := blk_new (below_trans (below_alloc (Below.refl _ _) (.cells #[.slice f.A f.l.length f.c, .slice f.C f.m.length f.d, .slice g.A g.l.length g.c, .slice g.C g.m.length g.d] 33)) hb3) (g := w.heap.size + 1 + 1) (by simp) (j := 1) rfl
  have sz3 : w.heap.size + 1 + 1 < w3.heap.size := World.block_lt_of_cell? w3 _ j0.1
  have J := fun w' (hb : Below w3.heap.size w3 w') => And.intro (And.intro (bel_cell hb j0.1) ((hb.frozen (p := ⟨w.heap.size + 1 + 1, 0, none⟩) sz3).trans j0.2)) (And.intro (bel_cell hb j1.1) ((hb.frozen (p := ⟨w.heap.size + 1 + 1, 1, none⟩) sz3).trans j1.2))
  clear j0 j1
  go_wp2_with fail
  have cX3 := cX w3 q3
  unfold Frc.val at cX3
  refine cX3.mono ?_
  rintro e w4 ⟨u1, u2, rfl, bP, bQ, hb4⟩
  obtain ⟨D1, d1, rfl, nP⟩ := bP.nt
  obtain ⟨D2, d2, rfl, nQ⟩ := bQ.nt
  have cO := order_any D1 d1 (limbs P) D2 d2 (limbs Q) w4 nP.arr nQ.arr nP.len nP.cap nQ.len nQ.cap nP.dig nQ.dig
  rw [V_limbs, V_limbs] at cO
  obtain ⟨o, ho, ho0⟩ : ∃ o, cmpI P Q = o ∧ 0 ≤ o := by
    refine ⟨_, rfl, ?_⟩
    unfold cmpI
    rw [if_neg (Nat.not_lt.2 hle)]
    split <;> decide
  rw [ho] at cO
  clear ho
  go_wp2_with fail
  refine cO.mono ?_
  rintro e w5 ⟨rfl, hb5⟩
  obtain ⟨w4', hw4'⟩ : ∃ w4', w4' = w4 := ⟨_, rfl⟩
  have hb4 := below_trans hb4 hb5
  have nP := nP.on hb5
  have nQ := nQ.on hb5
  have q5 := below_trans q3 hb4
  have k0 := bel_cell hb4 k0
  have k1 := bel_cell hb4 k1
  have k2 := bel_cell hb4 k2
  have k3 := bel_cell hb4 k3
  have sz5 : w.heap.size + 1 + 1 < w5.heap.size := Nat.lt_of_lt_of_le sz3 hb4.size
  go_wp2_with fail
  go_region_held3 (fun w' => Below w.heap.size w w' ∧ w'.cell? ⟨w.heap.size, 0, none⟩ = some (.slice f.A f.l.length f.c) ∧ w'.cell? ⟨w.heap.size, 1, none⟩ = some (.slice f.C f.m.length f.d) ∧ w'.cell? ⟨w.heap.size + 1, 0, none⟩ = some (.slice g.A g.l.length g.c) ∧ w'.cell? ⟨w.heap.size + 1, 1, none⟩ = some (.slice g.C g.m.length g.d))
    (first | (exact ⟨q5.drew, k0, k1, k2, k3⟩) | (go_split_ands; exact ⟨below_trans (by assumption) hx1, bel_cell hx1 (by assumption), bel_cell hx1 (by assumption), bel_cell hx1 (by assumption), bel_cell hx1 (by assumption)⟩) | (go_split_ands; exact ⟨below_trans (by assumption) hx2, bel_cell hx2 (by assumption), bel_cell hx2 (by assumption), bel_cell hx2 (by assumption), bel_cell hx2 (by assumption)⟩) | (go_split_ands; exact ⟨below_trans (by assumption) hx3, bel_cell hx3 (by assumption), bel_cell hx3 (by assumption), bel_cell hx3 (by assumption), bel_cell hx3 (by assumption)⟩) | (go_split_ands; exact mulS (by assumption) (by assumption) (by assumption) (by assumption) (by assumption) _ _))
    (first
      | (go_at_call 169; refine (c1 _ _ _ _ _ (nP.on (Below.refl _ _).drew) (nQ.on (Below.refl _ _).drew)).mono ?_; rintro e y1 ⟨v1, rfl, b1, hx1⟩; obtain ⟨A1, e1, hv1, n1⟩ := b1.nt; rw [hv1])
      | (go_at_call 169; refine (c1 _ _ _ _ _ (nP.on (below_trans (Below.refl _ _).drew hx2)) (nQ.on (below_trans (Below.refl _ _).drew hx2))).mono ?_; rintro e y1 ⟨v1, rfl, b1, hx1⟩; obtain ⟨A1, e1, hv1, n1⟩ := b1.nt; rw [hv1])
      | (go_at_call 121; refine Calls.on (args' := #[.slice f.C f.m.length f.d, .slice g.C g.m.length g.d]) rfl ?_; refine (c2 _ (by go_split_ands; assumption)).mono ?_; rintro e y2 ⟨v2, rfl, b2, hx2⟩; obtain ⟨A2, e2, hv2, n2⟩ := b2.nt; rw [hv2])
      | (go_at_call 164; refine (c3 _ _ _ _ _ (n1.on hx2) n2).mono ?_; rintro e y3 ⟨v3, v4, rfl, b3, b4, hx3⟩; obtain ⟨A3, e3, hv3, n3⟩ := b3.nt; obtain ⟨A4, e4, hv4, n4⟩ := b4.nt; subst hv3 hv4; have HS : w5.heap.size ≤ y2.heap.size := Nat.le_trans hx1.size hx2.size; have HB := below_trans (below_trans (below_trans (Below.refl _ _).drew hx1) hx2) hx3; obtain ⟨⟨z0, z1⟩, z2, z3⟩ := J _ (below_trans hb4 HB))
      | (go_at_call 164; refine (c3 _ _ _ _ _ n1 (n2.on hx1)).mono ?_; rintro e y3 ⟨v3, v4, rfl, b3, b4, hx3⟩; obtain ⟨A3, e3, hv3, n3⟩ := b3.nt; obtain ⟨A4, e4, hv4, n4⟩ := b4.nt; subst hv3 hv4; have HS : w5.heap.size ≤ y1.heap.size := Nat.le_trans hx2.size hx1.size; have HB := below_trans (below_trans (below_trans (Below.refl _ _).drew hx2) hx1) hx3; obtain ⟨⟨z0, z1⟩, z2, z3⟩ := J _ (below_trans hb4 HB)))
  all_goals (
    have F1 := Big.down (base' := w.heap.size) (big_set2 b3 (g := w.heap.size + 1 + 1) (by omega) (.slice A3 (limbs (rfN X Y)).length e3) (.slice A4 (limbs (rdD X Y)).length e4)) (by omega)
    have F2 := Big.down (base' := w.heap.size) (big_set2 b4 (g := w.heap.size + 1 + 1) (by omega) (.slice A3 (limbs (rfN X Y)).length e3) (.slice A4 (limbs (rdD X Y)).length e4)) (by omega)
    have F3 := ((below_trans q5 HB).setCell (p := ⟨w.heap.size + 1 + 1, 0, none⟩) (by simp; omega) (.slice A3 (limbs (rfN X Y)).length e3)).setCell (p := ⟨w.heap.size + 1 + 1, 1, none⟩) (by simp; omega) (.slice A4 (limbs (rdD X Y)).length e4)
    go_wp2_with fail
    (try simp only [Exit.inBlock, Exit.then])
    refine bodyPost_ret (v := .tuple #[.agg #[.slice A3 (limbs (rfN X Y)).length e3, .slice A4 (limbs (rdD X Y)).length e4], .int .i64 0]) ?_ rfl ⟨_, _, rfl, F1, F2, F3⟩
    rw [results_cell_tmp rfl]
    go_simp)


end Go.Proofs.YtfolgmcoggejbaaGreat

namespace Go.Proofs.YtfolgmcoggejbaaGreat
open Go.RowKit
set_option linter.unusedVariables false
set_option linter.unusedSimpArgs false

set_option maxRecDepth 100000 in
set_option maxHeartbeats 2000000 in
theorem Divide_any (A : Option Addr) (c : Nat) (l : List Nat) (C : Option Addr) (d : Nat) (m : List Nat) (w : World) (hA : Nt w A c l) (hC : Nt w C d m) (hl : l.length ≤ 64) (hm : m.length ≤ 64) (h0 : 0 < V m) :
    Calls Tryz.prog 304 #[.slice A l.length c, .slice C m.length d] w fun e w' => ∃ v1 v2, e = .returned (.tuple #[v1, v2, .int .i64 0]) ∧ Big w' w.heap.size v1 (V l / V m) ∧ Below w.heap.size w w' := by
  have cK := check_any A c l C d m w
  have e0 : long2E l m = 0 := long2E_zero.2 ⟨hl, hm⟩
  rw [e0] at cK
  have cZ := size_any C d m w hC (by omega)
  have z0 : ((bitLen (V m) : Int) == 0) = false := by
    have := bitLen_pos h0
    simp; omega
  have cS := split_any A c l C d m w hA hC (by omega) (by omega) h0
  clear e0
  go_enter Tryz.func304, Tryz.ntmps304
  go_wp2_with (first | (go_at_call 205; refine (cK).mono ?_; rintro e w' ⟨rfl, rfl⟩) | (go_at_call 59; refine (cZ).mono ?_; rintro e w' ⟨rfl, rfl⟩))
  refine cS.mono ?_
  rintro e w1 ⟨v1, v2, rfl, b1, b2, hb1⟩
  obtain ⟨A1, a1, rfl, _⟩ := b1.nt
  obtain ⟨A2, a2, rfl, _⟩ := b2.nt
  go_wp2_with fail
  refine bodyPost_ret (v := .tuple #[.slice A1 (limbs (V l / V m)).length a1, .slice A2 (limbs (V l % V m)).length a2, .int .i64 0]) ?_ rfl ⟨_, _, rfl, b1, hb1⟩
  unfold results
  go_simp

theorem or_zero64 {u : Nat} (h : u < 4294967296) : bits .or .u64 0 (u : Int) = (u : Int) := by
  have := u64_or_nat 0 u (by decide) (by omega)
  simpa using this

set_option maxRecDepth 100000 in
set_option maxHeartbeats 2000000 in
theorem Small_any (A : Option Addr) (c n : Nat) (w : World) (hA : Nt w A c (limbs n)) (hn : n < 4294967296) :
    Calls Tryz.prog 305 #[.slice A (limbs n).length c] w fun e w' => e = .returned (.tuple #[.int .u64 (n : Int), .int .i64 0]) ∧ w = w' := by
  have cT := trim_nt hA
  rw [V_limbs] at cT
  have l1 := limbs_small (n := n) hn
  have cK := Check_any A c (limbs n) w
  have k0 : longE (limbs n) = 0 := by unfold longE; rw [if_neg (by omega)]
  rw [k0] at cK
  clear k0
  rcases Nat.eq_zero_or_pos n with rfl | hp
  · have e0 : (limbs 0).length = 0 := by rw [limbs_zero]; rfl
    rw [e0] at cT cK ⊢
    clear hA l1 e0
    go_enter Tryz.func305, Tryz.ntmps305
    go_wp2_with (first | (go_at_call 58; refine (cK).mono ?_; rintro e w' ⟨rfl, rfl⟩) | (go_at_call 94; refine (cT).mono ?_; rintro e w' ⟨rfl, rfl⟩))
    go_loop [5, 19] (fun x i => x = .int .u64 0 ∧ i = .int .i64 0) (fun _ _ => 0)
    case atStart => exact ⟨rfl, rfl⟩
    case round =>
      obtain ⟨rfl, rfl⟩ := hrel
      go_wp2_with fail
      go_ret2
      exact ⟨rfl, rfl⟩
  · have e1 : (limbs n).length = 1 := by
      have : (limbs n).length ≠ 0 := fun e => by have := limbs_none e; omega
      omega
    obtain ⟨u, hu⟩ : ∃ u, limbs n = [u] := List.length_eq_one_iff.1 e1
    have hun : u = n := by
      have := V_limbs n
      rw [hu, V_one] at this
      exact this
    subst hun
    obtain ⟨b, off, rfl, _, hc⟩ := hA.arr (by rw [hu]; simp)
    have c0 : w.cell? ⟨b, off, none⟩ = some (.int .u32 (u : Int)) := by
      have := hc 0 u (by rw [hu]; rfl) 0 _ rfl
      simpa using this
    rw [e1] at cT cK ⊢
    clear hA l1 e1 hu hc
    go_enter Tryz.func305, Tryz.ntmps305
    go_wp2_with (first | (go_at_call 58; refine (cK).mono ?_; rintro e w' ⟨rfl, rfl⟩) | (go_at_call 94; refine (cT).mono ?_; rintro e w' ⟨rfl, rfl⟩))
    go_loop [5, 19] (fun x i => (x = .int .u64 0 ∧ i = .int .i64 0) ∨ (x = .int .u64 (u : Int) ∧ i = .int .i64 1)) (fun _ i => 1 - (intOf i).toNat)
    case atStart => exact .inl ⟨rfl, rfl⟩
    case round =>
      rcases hrel with ⟨rfl, rfl⟩ | ⟨rfl, rfl⟩
      · go_wp2_with fail
        exact ⟨.inr ⟨congrArg (Value.int .u64) (or_zero64 hn), rfl⟩, by simp [intOf]⟩
      · go_wp2_with fail
        go_ret2
        exact ⟨rfl, rfl⟩

end Go.Proofs.YtfolgmcoggejbaaGreat
