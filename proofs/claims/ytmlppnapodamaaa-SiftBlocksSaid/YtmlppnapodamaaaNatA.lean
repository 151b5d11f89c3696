/- Contracts of exact's trim, Check, check, order. For slices whose length is an int's. -/
import Derived.Test.YtmlppnapodamaaaProg
import Derived.Test.YtmlppnapodamaaaData
import Derived.Test.YtmlppnapodamaaaMade
import Derived.Test.YtmlppnapodamaaaNum
namespace Go.Proofs.Ytmlppnapodamaaa
open Go.RowKit
set_option linter.unusedVariables false
set_option linter.unusedSimpArgs false

def enc32 (n : Nat) : List Value := [.int .u32 n]
def encD (n : Nat) : List Value := [.int .i64 n]
theorem enc32_len (c : Nat) : (enc32 c).length = 1 := rfl
theorem encD_len (c : Nat) : (encD c).length = 1 := rfl
theorem enc32_one (c : Nat) : ∀ u ∈ enc32 c, u.oneCell' = true := by simp [enc32, Value.oneCell']
theorem encD_one (c : Nat) : ∀ u ∈ encD c, u.oneCell' = true := by simp [encD, Value.oneCell']
section
variable {w w' : World} {B : Nat} {A : Option Addr} {k : Nat}
theorem Arr.u32 {l : List Nat} (h : Arr 1 enc32 w B A l) (hk : k < l.length) (hb : Below B w w') :
    ∃ b off x, A = some ⟨b, off, none⟩ ∧ b < B ∧ Hid (l[k]? = some x) ∧ w'.cell? ⟨b, off + k, none⟩ = some (.int .u32 (x : Int)) := by
  obtain ⟨b, off, rfl, hbb, hc⟩ := h.get hk hb
  exact ⟨b, off, _, rfl, hbb, List.getElem?_eq_getElem hk, by have := hc 0 _ rfl; simpa using this⟩
theorem Arr.dig {l : List Nat} (h : Arr 1 encD w B A l) (hk : k < l.length) (hb : Below B w w') :
    ∃ b off x, A = some ⟨b, off, none⟩ ∧ b < B ∧ Hid (l[k]? = some x) ∧ w'.cell? ⟨b, off + k, none⟩ = some (.int .i64 (x : Int)) := by
  obtain ⟨b, off, rfl, hbb, hc⟩ := h.get hk hb
  exact ⟨b, off, _, rfl, hbb, List.getElem?_eq_getElem hk, by have := hc 0 _ rfl; simpa using this⟩
theorem Arr.take {α : Type} {sz : Nat} {enc : α → List Value} {l : List α} (h : Arr sz enc w B A l) (n : Nat) : Arr sz enc w B A (l.take n) := fun hl => by
  obtain ⟨b, off, rfl, hbb, hc⟩ := h (by rintro rfl; simp at hl)
  refine ⟨b, off, rfl, hbb, fun i x hx => hc i x ?_⟩
  rw [List.getElem?_take] at hx
  split at hx
  · exact hx
  · cases hx
end
theorem trim_next {l : List Nat} {k : Nat} (h : l[k]? = some 0) : trimL (l.take (k + 1)) = trimL (l.take k) := by rw [take_snoc h, trimL_zero]
theorem trim_stop {l : List Nat} {k x : Nat} (h : l[k]? = some x) (hx : x ≠ 0) : (trimL (l.take (k + 1))).length = k + 1 := by
  have hk := (List.getElem?_eq_some_iff.1 h).1
  rw [take_snoc h, trimL_last _ hx, List.length_append, List.length_take, Nat.min_eq_left (by omega)]; rfl

set_option maxHeartbeats 1000000 in
theorem trim_any (A : Option Addr) (c : Nat) (l : List Nat) (w : World) (h : Arr 1 enc32 w w.heap.size A l) (hl : l.length ≤ c) (hc : c ≤ maxLen) :
    Calls Try.prog 92 #[.slice A l.length c] w fun e w' => e = .returned (.slice A (trimL l).length c) ∧ w = w' := by
  unfold maxLen at hc
  go_enter Try.func92, Try.ntmps92
  go_wp2
  go_loop [3] (fun i => ∃ k : Nat, k ≤ l.length ∧ i = .int .i64 k ∧ trimL (l.take k) = trimL l) (fun i => (intOf i).toNat)
  case atStart => exact ⟨_, Nat.le_refl _, rfl, by rw [List.take_length]⟩
  case round =>
    obtain ⟨k, hk, rfl, ht⟩ := hrel
    have Ht := Lib.hid ht
    clear ht
    cases k with
    | zero =>
      go_wp2
      go_ret
      exact ⟨by rw [← Ht.out]; rfl, rfl⟩
    | succ j =>
      obtain ⟨b, off, x, rfl, hbb, hq, c0⟩ := h.u32 (k := j) (by omega) (Below.refl _ _)
      rcases Nat.eq_zero_or_pos x with rfl | hx
      · go_wp2
        go_round
        case rel => exact ⟨j, by omega, by go_num, by rw [← trim_next hq.out]; exact Ht.out⟩
        case measure => (simp [intOf] <;> omega)
      · have hx' : ((x : Int) == 0) = false := by simp; omega
        go_wp2
        go_ret
        exact ⟨by rw [← Ht.out, trim_stop hq.out (by omega)]; rfl, rfl⟩

/-- The base of limbs. -/
abbrev B32 : Nat := 4294967296
theorem b32 : 2 ≤ B32 := by decide
def V (l : List Nat) : Nat := valB B32 l
def limbs (n : Nat) : List Nat := digB B32 n
theorem trim_limbs {l : List Nat} (h : Dig B32 l) : trimL l = limbs (V l) := trimL_eq b32 h

def longE (l : List Nat) : Int := if 64 < l.length then 4 else 0
set_option maxHeartbeats 400000 in
theorem Check_any (A : Option Addr) (c : Nat) (l : List Nat) (w : World) :
    Calls Try.prog 125 #[.slice A l.length c] w fun e w' => e = .returned (.int .i64 (longE l)) ∧ w = w' := by
  go_enter Try.func125, Try.ntmps125
  go_wp2
  all_goals (go_ret; exact ⟨ret_int (by unfold longE; split <;> omega), rfl⟩)
def long2E (l m : List Nat) : Int := if 64 < l.length ∨ 64 < m.length then 4 else 0
theorem long2E_zero {l m : List Nat} : long2E l m = 0 ↔ l.length ≤ 64 ∧ m.length ≤ 64 := by unfold long2E; split <;> omega
set_option maxHeartbeats 400000 in
theorem check_any (A : Option Addr) (c : Nat) (l : List Nat) (C : Option Addr) (d : Nat) (m : List Nat) (w : World) :
    Calls Try.prog 119 #[.slice A l.length c, .slice C m.length d] w fun e w' => e = .returned (.int .i64 (long2E l m)) ∧ w = w' := by
  by_cases h1 : 64 < l.length <;> by_cases h2 : 64 < m.length
  all_goals (
    have e1 : Hid (longE l = longE l) := Lib.hid rfl
    go_enter Try.func119, Try.ntmps119
    go_wp2
    go_ret
    exact ⟨ret_int (by unfold long2E; split <;> omega), rfl⟩)

theorem hid_of {p : Prop} (h : p) : Hid p := Lib.hid h

set_option maxRecDepth 100000 in
set_option maxHeartbeats 2000000 in
theorem order_any (A : Option Addr) (c : Nat) (l : List Nat) (C : Option Addr) (d : Nat) (m : List Nat) (w : World) (hA : Arr 1 enc32 w w.heap.size A l) (hC : Arr 1 enc32 w w.heap.size C m) (hl : l.length ≤ c) (hc : c ≤ maxLen) (hm : m.length ≤ d) (hd : d ≤ maxLen) (dl : Dig B32 l) (dm : Dig B32 m) :
    Calls Try.prog 72 #[.slice A l.length c, .slice C m.length d] w fun e w' => e = .returned (.int .i64 (cmpI (V l) (V m))) ∧ Below w.heap.size w w' := by
  have e1 := trim_limbs dl
  have e2 := trim_limbs dm
  have t1 := trimL_take l
  have t2 := trimL_take m
  have a1 := hA.take (trimL l).length
  have a2 := hC.take (trimL m).length
  rw [← t1] at a1
  rw [← t2] at a2
  have k1 := trimL_le l
  have k2 := trimL_le m
  have cA := fun w => trim_any A c l w
  have cC := fun w => trim_any C d m w
  have D1 : Dig B32 (limbs (V l)) := digB_dig b32 _
  have D2 : Dig B32 (limbs (V m)) := digB_dig b32 _
  have v1 : V (limbs (V l)) = V l := digB_val b32 _
  have v2 : V (limbs (V m)) = V m := digB_val b32 _
  have lt1 := fun h => digB_len_lt (n := V l) (m := V m) b32 h
  have lt2 := fun h => digB_len_lt (n := V m) (m := V l) b32 h
  rw [e1] at a1 k1 cA
  rw [e2] at a2 k2 cC
  change (limbs (V l)).length < (limbs (V m)).length → V l < V m at lt1
  change (limbs (V m)).length < (limbs (V l)).length → V m < V l at lt2
  clear e1 e2 t1 t2
  generalize limbs (V l) = L at *
  generalize limbs (V m) = M at *
  have G1 := Lib.hid lt1; have G2 := Lib.hid lt2; have V1 := Lib.hid v1; have V2 := Lib.hid v2
  clear lt1 lt2 v1 v2
  unfold maxLen at hc hd
  go_enter Try.func72, Try.ntmps72
  go_wp2_with fail
  refine (cA _ hA hl (by unfold maxLen; omega)).mono ?_
  rintro e w' ⟨rfl, rfl⟩
  go_wp2_with fail
  refine (cC _ hC hm (by unfold maxLen; omega)).mono ?_
  rintro e w' ⟨rfl, rfl⟩
  clear cA cC
  rcases Nat.lt_trichotomy L.length M.length with hlt | heq | hgt
  · have := G1.out hlt
    go_wp2_with fail
    go_ret
    exact ⟨ret_int (cmpI_lt this).symm, Below.refl _ _⟩
  · have He := Lib.hid heq
    have g1 : decide (L.length < M.length) = false := by simp; omega
    have g2 : decide (M.length < L.length) = false := by simp; omega
    clear heq
    go_wp2_with fail
    go_loopw [5] (fun i wr => ∃ k : Nat, k ≤ L.length ∧ i = .int .i64 ((k : Int) - 1) ∧ L.drop k = M.drop k ∧ Below w.heap.size w wr) (fun i _ => (intOf i + 1).toNat)
    case atStart => exact ⟨_, Nat.le_refl _, rfl, by rw [List.drop_length, He.out, List.drop_length], Below.refl _ _⟩
    case round =>
      obtain ⟨k, hk, rfl, ht, hb⟩ := hrel
      have Ht := Lib.hid ht
      clear ht
      cases k with
      | zero =>
        go_wp2_with fail
        go_ret
        have hLM : L = M := by simpa using Ht.out
        exact ⟨ret_int (cmpI_eq (by rw [← V1.out, ← V2.out, hLM])).symm, hb⟩
      | succ j =>
        have := He.out
        obtain ⟨b1, o1, x, rfl, hb1, hx, c1⟩ := a1.u32 (k := j) (by omega) hb
        obtain ⟨b2, o2, y, rfl, hb2, hy, c2⟩ := a2.u32 (k := j) (by omega) hb
        have j1 : (j : Int) < (L.length : Int) := by omega
        have j2 : (j : Int) < (M.length : Int) := by omega
        have l1 := later_cell c1
        have l2 := later_cell c2
        clear this
        rcases Nat.lt_trichotomy x y with hlt | rfl | hgt
        · have r1 : ((x : Int) != (y : Int)) = true := by simp; omega
          have r2 : decide (x < y) = true := by simp; omega
          have fin : Hid (V l < V m) := Lib.hid (by
            rw [← V1.out, ← V2.out]; exact valB_cmp D1 D2 He.out hx.out hy.out Ht.out hlt)
          clear hlt
          go_wp2_with fail
          (refine wp_region_later (by kernel_rfl) (by kernel_rfl) ?_; (repeat (go_big_quiet_step (fail))); refine wpQuiet_nil ?_; rintro w3 ⟨⟨_, hb3⟩, rfl⟩)
          have m1 := later_cell (bel_cell hb3 c1)
          have m2 := later_cell (bel_cell hb3 c2)
          go_wp2_with fail
          (refine wp_region_later (by kernel_rfl) (by kernel_rfl) ?_; (repeat (go_big_quiet_step (fail))); refine wpQuiet_nil ?_; rintro w4 ⟨⟨_, hb4⟩, rfl⟩)
          go_wp2_with fail
          go_ret
          exact ⟨ret_int (cmpI_lt fin.out).symm, below_trans hb (below_trans hb3 hb4)⟩
        · go_wp2_with fail
          (refine wp_region_later (by kernel_rfl) (by kernel_rfl) ?_; (repeat (go_big_quiet_step (fail))); refine wpQuiet_nil ?_; rintro w3 ⟨⟨_, hb3⟩, rfl⟩)
          go_wp2_with fail
          go_roundw
          case rel => exact ⟨j, by omega, by go_num, drop_same hx.out hy.out Ht.out, below_trans hb hb3⟩
          case measure => (simp [intOf] <;> omega)
        · have r1 : ((x : Int) != (y : Int)) = true := by simp; omega
          have r2 : decide (x < y) = false := by simp; omega
          have fin : Hid (V m < V l) := Lib.hid (by
            rw [← V1.out, ← V2.out]; exact valB_cmp D2 D1 He.out.symm hy.out hx.out Ht.out.symm hgt)
          clear hgt
          go_wp2_with fail
          (refine wp_region_later (by kernel_rfl) (by kernel_rfl) ?_; (repeat (go_big_quiet_step (fail))); refine wpQuiet_nil ?_; rintro w3 ⟨⟨_, hb3⟩, rfl⟩)
          have m1 := later_cell (bel_cell hb3 c1)
          have m2 := later_cell (bel_cell hb3 c2)
          go_wp2_with fail
          (refine wp_region_later (by kernel_rfl) (by kernel_rfl) ?_; (repeat (go_big_quiet_step (fail))); refine wpQuiet_nil ?_; rintro w4 ⟨⟨_, hb4⟩, rfl⟩)
          go_wp2_with fail
          go_ret
          exact ⟨ret_int (cmpI_gt fin.out).symm, below_trans hb (below_trans hb3 hb4)⟩
  · have := G2.out hgt
    go_wp2_with fail
    go_ret
    exact ⟨ret_int (cmpI_gt this).symm, Below.refl _ _⟩

end Go.Proofs.Ytmlppnapodamaaa
