/- Contracts of exact's half and fit. For numbers of at most 1000000 limbs. -/
import Derived.Test.YtbobbcfjjdmdgaaNumAll
import Derived.Test.YtbobbcfjjdmdgaaApt
namespace Go.Proofs.Ytbobbcfjjdmdgaa
open Go.RowKit
set_option linter.unusedVariables false
set_option linter.unusedSimpArgs false

/-- The limbs of the half. -/
def hL : List Nat → List Nat
  | [] => []
  | [x] => [x / 2]
  | x :: y :: t => (x / 2 + y % 2 * 2147483648) :: hL (y :: t)
theorem hL_len : ∀ l : List Nat, (hL l).length = l.length
  | [] => rfl
  | [x] => rfl
  | x :: y :: t => by simp [hL, hL_len (y :: t)]
theorem hL_val : ∀ l : List Nat, V (hL l) = V l / 2
  | [] => rfl
  | [x] => by simp [hL, V, valB]
  | x :: y :: t => by
    have h1 : V (hL (x :: y :: t)) = (x / 2 + y % 2 * 2147483648) + B32 * V (hL (y :: t)) := rfl
    have h2 : V (x :: y :: t) = x + B32 * V (y :: t) := rfl
    have h3 : V (y :: t) = y + B32 * V t := rfl
    rw [h1, hL_val (y :: t), h2]
    simp only [B32] at *
    omega
theorem hL_dig : ∀ {l : List Nat}, Dig B32 l → Dig B32 (hL l)
  | [], h => h
  | [x], h => fun y hy => by
    have := h x (by simp)
    simp only [hL, List.mem_singleton] at hy
    omega
  | x :: y :: t, h => by
    have h1 := h x (by simp)
    refine Dig.cons ?_ (hL_dig h.tail)
    simp only [B32] at *
    omega
theorem hL_at : ∀ {l : List Nat} {k x y : Nat}, l[k]? = some x → l[k + 1]? = some y → (hL l)[k]? = some (x / 2 + y % 2 * 2147483648)
  | [], k, x, y, h, _ => by simp at h
  | [z], k, x, y, _, h => by simp at h
  | z :: u :: t, 0, x, y, h1, h2 => by
    simp at h1 h2
    subst h1 h2
    rfl
  | z :: u :: t, k + 1, x, y, h1, h2 => by
    have := hL_at (l := u :: t) (k := k) (x := x) (y := y) (by simpa using h1) (by simpa using h2)
    simpa [hL] using this
theorem hL_last : ∀ {l : List Nat} {k x : Nat}, l[k]? = some x → l.length = k + 1 → (hL l)[k]? = some (x / 2)
  | [], k, x, h, _ => by simp at h
  | [z], k, x, h, hl => by
    obtain rfl : k = 0 := by simpa using hl.symm
    simp at h
    subst h
    rfl
  | z :: u :: t, 0, x, _, hl => by simp at hl
  | z :: u :: t, k + 1, x, h, hl => by
    have := hL_last (l := u :: t) (k := k) (x := x) (by simpa using h) (by simpa using hl)
    simpa [hL] using this
/-- The first k limbs are halved. -/
def hTo (l : List Nat) (k : Nat) : List Nat := (hL l).take k ++ l.drop k
theorem hTo_len (l : List Nat) {k : Nat} (h : k ≤ l.length) : (hTo l k).length = l.length := by simp [hTo, hL_len]; omega
theorem hTo_dig {l : List Nat} (h : Dig B32 l) (k : Nat) : Dig B32 (hTo l k) := ((hL_dig h).take k).app (fun x hx => h x (List.mem_of_mem_drop hx))
theorem hTo_at {l : List Nat} {k j : Nat} (hk : k ≤ l.length) (hj : k ≤ j) : (hTo l k)[j]? = l[j]? := by
  have hl : ((hL l).take k).length = k := by simp [hL_len]; omega
  unfold hTo
  rw [List.getElem?_append_right (by omega), hl, List.getElem?_drop]
  congr 1; omega
theorem hTo_set {l : List Nat} {k z : Nat} (hk : k < l.length) (hz : (hL l)[k]? = some z) : (hTo l k).set k z = hTo l (k + 1) := by
  have hl : ((hL l).take k).length = k := by simp [hL_len]; omega
  unfold hTo
  rw [List.set_append, if_neg (by omega), hl, Nat.sub_self, take_snoc hz, List.drop_eq_getElem_cons hk, List.set_cons_zero]
  simp
theorem hTo_all (l : List Nat) : hTo l l.length = hL l := by
  unfold hTo; rw [List.take_of_length_le (by rw [hL_len]; exact Nat.le_refl _)]; simp
theorem half_limb {x y : Nat} (hx : x < 4294967296) (hy : y < 4294967296) : ∃ q r : Nat, (x : Int) / 2 = (q : Int) ∧ bits .or .u32 (q : Int) ((y : Int) * 2147483648 % 4294967296) = (r : Int) ∧ q < 4294967296 ∧ Hid (q = x / 2 ∧ r = x / 2 + y % 2 * 2147483648) := by
  refine ⟨x / 2, x / 2 + y % 2 * 2147483648, by omega, ?_, by omega, Lib.hid ⟨rfl, rfl⟩⟩
  have e : (y : Int) * 2147483648 % 4294967296 = ((y % 2 * 2147483648 : Nat) : Int) := by omega
  rw [e]
  have h1 := u32_or_nat (y % 2 * 2147483648) (x / 2) (by omega) (by omega)
  rw [nat_join 31 _ _ (by omega) (by omega)] at h1
  have h2 : bits .or .u32 ((x / 2 : Nat) : Int) ((y % 2 * 2147483648 : Nat) : Int) = bits .or .u32 ((y % 2 * 2147483648 : Nat) : Int) ((x / 2 : Nat) : Int) := by
    rw [u32_or_nat (x / 2) (y % 2 * 2147483648) (by omega) (by omega), u32_or_nat (y % 2 * 2147483648) (x / 2) (by omega) (by omega), Nat.or_comm]
  rw [h2, h1, Nat.add_comm]

set_option maxRecDepth 100000 in
set_option maxHeartbeats 2000000 in
theorem half_any (g c n base : Nat) (l : List Nat) (w : World) (hA : Own w base 127 1 enc32 (.slice (some ⟨g, 0, none⟩) n c) l) (hn : l.length = n) (hd : Dig B32 l) (hl : n ≤ 1000000) :
    Calls Try.prog 208 #[.slice (some ⟨g, 0, none⟩) n c] w fun e w' => ∃ v, e = .returned v ∧ Big w' base v (V l / 2) ∧ v.ownBlock = some g ∧ w.grownBy w' (some g) := by
  have Hn := Lib.hid hn; have Hd := Lib.hid hd
  have hnc : n ≤ c ∧ c ≤ maxLen := by
    obtain ⟨A, c', h1, h2, h3, _, _⟩ := hA.form enc32_len
    simp at h1
    omega
  obtain ⟨hnc, hcm⟩ := hnc
  unfold maxLen at hcm
  clear hn hd
  go_enter Try.func208, Try.ntmps208
  go_wp2
  go_loopw [6] (fun i wr => ∃ (k : Nat), k ≤ n ∧ i = .int .i64 k ∧ Own wr base 127 1 enc32 (.slice (some ⟨g, 0, none⟩) n c) (hTo l k) ∧ w.grownBy wr (some g)) (fun i _ => n - (intOf i).toNat)
  case atStart => exact ⟨0, Nat.zero_le _, rfl, hA, grown_refl _ _⟩
  case round =>
    obtain ⟨k, hk, rfl, hown, hgr⟩ := hrel
    obtain ⟨w6, rfl⟩ : ∃ w6, w6 = wr := ⟨_, rfl⟩
    have Tl := Lib.hid ((hTo_len l (k := k) (by rw [Hn.out]; exact hk)).trans Hn.out)
    by_cases hlt : k < n
    · obtain ⟨x, hx⟩ : ∃ x, l[k]? = some x := ⟨_, List.getElem?_eq_getElem (by rw [Hn.out]; exact hlt)⟩
      have x1 : x < 4294967296 := Hd.out.get hx
      have d0 := Own.at1 (f := fun n : Nat => Value.int .u32 n) hown Tl.out ((hTo_at (by rw [Hn.out]; exact hk) (Nat.le_refl k)).trans hx)
      have d1 := Own.fr1 (f := fun n : Nat => Value.int .u32 n) hown Tl.out k
      have Hx := Lib.hid hx
      clear hx
      by_cases hlt2 : k + 1 < n
      · obtain ⟨y, hy⟩ : ∃ y, l[k + 1]? = some y := ⟨_, List.getElem?_eq_getElem (by rw [Hn.out]; exact hlt2)⟩
        have y1 : y < 4294967296 := Hd.out.get hy
        have d2 := Own.at1 (f := fun n : Nat => Value.int .u32 n) hown Tl.out ((hTo_at (by rw [Hn.out]; exact hk) (Nat.le_succ k)).trans hy)
        obtain ⟨q, r, e1, e2, q1, hqr⟩ := half_limb x1 y1
        have ht := hTo_set (l := l) (k := k) (by rw [Hn.out]; exact hlt) (hL_at Hx.out hy)
        rw [← hqr.out.2] at ht
        have s1 := Own.set1 (f := fun n : Nat => Value.int .u32 n) hown Tl.out k q
        have s2 := Own.set1 (f := fun n : Nat => Value.int .u32 n) s1 (by rw [List.length_set]; exact Tl.out) k r
        rw [List.set_set, ht] at s2
        have S2 := Lib.hid s2
        have klt : (k : Int) + 1 < (n : Int) := by omega
        clear hy ht s1 s2 hqr
        go_wp2_with fail
        go_region
        all_goals (go_wp2_with fail)
        all_goals exact ⟨⟨k + 1, by omega, by go_num, S2.out.drew, grown_trans (grown_trans hgr (grown_trans (grown_set _ _ _ _) (grown_set _ _ _ _))) ⟨rfl, rfl, rfl, Nat.le_refl _, fun _ _ _ => rfl⟩⟩, by simp [intOf]; omega⟩
      · have hkn : k + 1 = n := by omega
        have ht := hTo_set (l := l) (k := k) (by rw [Hn.out]; exact hlt) (hL_last Hx.out (by rw [Hn.out]; omega))
        obtain ⟨q, e1⟩ : ∃ q : Nat, (x : Int) / 2 = (q : Int) := ⟨x / 2, by omega⟩
        have q1 : q < 4294967296 := by omega
        rw [show x / 2 = q from by omega] at ht
        have s1 := Own.set1 (f := fun n : Nat => Value.int .u32 n) hown Tl.out k q
        rw [ht] at s1
        have S1 := Lib.hid s1
        have klt : ¬ (k : Int) + 1 < (n : Int) := by omega
        clear ht s1
        go_wp2_with fail
        exact ⟨⟨k + 1, by omega, by go_num, S1.out, grown_trans hgr (grown_set _ _ _ _)⟩, by simp [intOf]; omega⟩
    · obtain rfl : k = n := by omega
      have e1 : hTo l k = hL l := by rw [← Hn.out]; exact hTo_all l
      rw [e1] at hown
      have hln : (hL l).length = k := (hL_len l).trans Hn.out
      have ht := Own.trim hown (hL_dig Hd.out)
      rw [hL_val] at ht
      obtain ⟨A2, c2, hv2, _, _, _, ar2⟩ := hown.form enc32_len
      rw [hln] at hv2
      obtain ⟨rfl, rfl⟩ : some ⟨g, 0, none⟩ = A2 ∧ c = c2 := by simpa using hv2
      have cT := trim_any (some ⟨g, 0, none⟩) c (hL l) w6 ar2 (by rw [hln]; exact hnc) (by unfold maxLen; omega)
      rw [hln] at cT
      have Ht := Lib.hid ht
      clear ht hv2 e1 hln
      go_wp2_with (go_at_call 119; refine (cT).mono ?_; rintro e w' ⟨rfl, rfl⟩)
      go_ret
      exact ⟨_, rfl, Ht.out, rfl, hgr⟩

end Go.Proofs.Ytbobbcfjjdmdgaa
