/- Contracts of the reference's divide and row. For at most a million digits; for at most 512 things. -/
import Derived.Test.YtliekcfcdfakjaaDoorRefG
import Derived.Test.YtliekcfcdfakjaaDoorBino
namespace Go.Proofs.YtliekcfcdfakjaaDoor
open Go.RowKit
set_option linter.unusedVariables false
set_option linter.unusedSimpArgs false

set_option maxRecDepth 100000 in
set_option maxHeartbeats 1000000 in
theorem divide_any (A : Option Addr) (c : Nat) (x : Nat) (C : Option Addr) (d : Nat) (y : Nat) (w : World) (hA : Dn w A c (dg x)) (hC : Dn w C d (dg y)) (hl : (dg x).length ≤ 3000000) (hm : (dg y).length ≤ 3000000) (hy : 0 < y) :
    Calls Tryd.prog 121 #[.slice A (dg x).length c, .slice C (dg y).length d] w fun e w' => ∃ v1 A2 c2, e = .returned (.tuple #[v1, .slice A2 (dg (x % y)).length c2]) ∧ Dg w' w.heap.size v1 (x / y) ∧ Dn w' A2 c2 (dg (x % y)) ∧ Below w.heap.size w w' := by
  rcases Nat.lt_or_ge (dg x).length (dg y).length with h | h
  · have hxy : x < y := digB_len_lt b8 h
    rw [Nat.div_eq_of_lt hxy, Nat.mod_eq_of_lt hxy]
    go_enter Tryd.func121, Tryd.ntmps121
    go_wp2_with fail
    go_ret2
    exact ⟨_, _, _, rfl, by unfold Dg dg; rw [digB_zero]; exact Own.nil, hA, Below.refl _ _⟩
  · refine (div_main A c x C d y w hA hC hl hm hy h).mono ?_
    rintro e w' ⟨v1, v2, rfl, h1, h2, hb⟩
    obtain ⟨A2, c2, rfl, n2⟩ := h2.dn
    exact ⟨v1, A2, c2, rfl, h1, n2, hb⟩

theorem dg_len {n k m : Nat} (h : n < 2 ^ m) (hm : m ≤ 8 * k) : (dg n).length ≤ k := digB_len_le b8 (by
  have e : (256 : Nat) ^ k = 2 ^ (8 * k) := by rw [Nat.pow_mul]
  rw [e]; exact Nat.lt_of_lt_of_le h (Nat.pow_le_pow_right (by decide) hm))
theorem dgch_len {n k : Nat} (h : n ≤ 512) : (dg (ch n k)).length ≤ 65 :=
  dg_len (m := n + 1) (Nat.lt_of_le_of_lt (ch_le n k) (Nat.pow_lt_pow_right (by decide) (by omega))) (by omega)
theorem dg_mul (a b : Nat) : (dg (a * b)).length ≤ (dg a).length + (dg b).length := by
  refine digB_len_le b8 ?_
  rw [Nat.pow_add]
  exact Nat.mul_lt_mul'' (digB_lt b8 a) (digB_lt b8 b)

set_option maxRecDepth 100000 in
set_option maxHeartbeats 4000000 in
theorem row_any (n : Nat) (w : World) (hn : n ≤ 512) :
    Calls Tryd.prog 99 #[.int .i64 n] w fun e w' => ∃ v, e = .returned v ∧ Rows w' w.heap.size v (ch n) (n + 1) ∧ Below w.heap.size w w' := by
  go_enter Tryd.func99, Tryd.ntmps99
  go_wp2_with fail
  have c1 : Calls Tryd.prog 120 #[.int .i64 1] w fun e w' => ∃ v, e = .returned v ∧ Dg w' w.heap.size v 1 ∧ Below w.heap.size w w' := small_any 1 w (by decide)
  refine c1.mono ?_
  rintro e w1 ⟨v1, rfl, b1, hb1⟩
  obtain ⟨A1, k1, hv1, n1⟩ := b1.dn
  rw [hv1] at b1 ⊢
  have far1 : ∀ a, A1 = some a → a.block < w1.heap.size := fun a ha => (World.ownsRow.lt b1 a.block (by rw [ha]; rfl)).2
  have rl := rows_lit w1 w.heap.size A1 k1 (ch n) (by rw [ch_zero]; exact n1) far1 hb1.size
  rw [ch_zero] at rl
  go_wp2_with fail
  go_loopw [3, 4] (fun v i wr => ∃ k : Nat, 1 ≤ k ∧ k ≤ n + 1 ∧ i = .int .i64 k ∧ Rows wr w.heap.size v (ch n) k ∧ Below w.heap.size w wr) (fun _ i _ => n + 1 - (intOf i).toNat)
  case atStart => exact ⟨1, Nat.le_refl _, by omega, rfl, rl, below_alloc hb1 _⟩
  case round =>
    obtain ⟨k, hk1, hk8, rfl, hrow, hb⟩ := hrel
    by_cases hk : k ≤ n
    · obtain ⟨j, rfl⟩ : ∃ j, k = j + 1 := ⟨k - 1, by omega⟩
      obtain ⟨g, cap, rfl, hg1, hg2, hget⟩ := hrow.form
      obtain ⟨A2, c2, k2, n2⟩ := hget j (by omega)
      obtain ⟨p, hp⟩ : ∃ p : Nat, (n : Int) - ((j : Int) + 1) = (p : Int) := ⟨n - (j + 1), by omega⟩
      obtain ⟨m, hm⟩ : ∃ m : Nat, (p : Int) + 1 = (m : Int) := ⟨p + 1, by omega⟩
      have wp : IntKind.i64.wrap (p : Int) = (p : Int) := IntWalk.i64_in _ (by omega)
      have wm : IntKind.i64.wrap (m : Int) = (m : Int) := IntWalk.i64_in _ (by omega)
      have hme : Hid (m = n - j) := Lib.hid (by omega)
      have L0 := fun w' (hb' : Below wr.heap.size wr w') => bel_cell hb' k2
      have lc := dgch_len (n := n) (k := j) hn
      have cS1 := fun w' => small_any m w' (by omega)
      have cS2 : ∀ w', Calls Tryd.prog 120 #[.int .i64 ((j : Int) + 1)] w' fun e w'' => ∃ v, e = .returned v ∧ Dg w'' w'.heap.size v (j + 1) ∧ Below w'.heap.size w' w'' := fun w' => small_any (j + 1) w' (by omega)
      have lm : (dg m).length ≤ 2 := dg_len (m := 10) (by omega) (by decide)
      have lj : (dg (j + 1)).length ≤ 2 := dg_len (m := 10) (by omega) (by decide)
      have lp := dg_mul (ch n j) m
      have cM := fun w' (hb' : Below wr.heap.size wr w') A c (hA : Dn w' A c (dg m)) => rmul_any A2 c2 _ A c _ w' (n2.on hb') hA (by omega) (by omega)
      simp only [dg_val] at cM
      have cD := fun w' A c (hA : Dn w' A c (dg (ch n j * m))) A' c' (hA' : Dn w' A' c' (dg (j + 1))) => divide_any A c _ A' c' (j + 1) w' hA hA' (by omega) (by omega) (by omega)
      have ed : ch n j * m / (j + 1) = ch n (j + 1) := by rw [hme.out]; exact ch_div n j
      simp only [ed] at cD
      have wj : IntKind.i64.wrap (j : Int) = (j : Int) := IntWalk.i64_in _ (by omega)
      have ij : (j : Int) < (j : Int) + 1 := by omega
      clear ed
      go_wp2_with fail
      go_region_held3 (fun w' => Below wr.heap.size wr w')
        (first | (exact (Below.refl _ _).drew) | (refine below_trans ?_ hx1; assumption) | (refine below_trans ?_ hx2; assumption) | (refine below_trans ?_ hx3; assumption) | (refine below_trans ?_ hx4; assumption))
        (first | (go_at_call 120; refine Calls.on (args' := #[.int .i64 (m : Int)]) rfl ?_; refine (cS1 _).mono ?_; rintro e y1 ⟨v1, rfl, b1, hx1⟩; obtain ⟨A3, c3, hv3, n3⟩ := b1.dn; rw [hv3]) | (go_at_call 120; refine Calls.on (args' := #[.int .i64 ((j : Int) + 1)]) rfl ?_; refine (cS2 _).mono ?_; rintro e y3 ⟨v3, rfl, b3, hx3⟩; obtain ⟨A5, c5, hv5, n5⟩ := b3.dn; rw [hv5]) | (go_at_call 122; refine (cM _ ?hB _ _ n3).mono ?_; (case hB => assumption); rintro e y2 ⟨v2, rfl, b2, hx2⟩; obtain ⟨A4, c4, hv4, n4⟩ := b2.dn; rw [hv4]) | (go_at_call 121; refine (cD _ _ _ (n4.on hx3) _ _ n5).mono ?_; rintro e y4 ⟨v4, A6, c6, rfl, b4, n6, hx4⟩; obtain ⟨A7, c7, hv7, n7⟩ := b4.dn; rw [hv7] at b4 ⊢))
      have B4 : Below wr.heap.size wr y4 := below_trans (below_trans (below_trans (below_trans (Below.refl _ _).drew hx1) hx2) hx3) hx4
      have far7 := dg_far b4 (g := g) (by have := (below_trans (below_trans (below_trans (Below.refl wr.heap.size wr).drew hx1) hx2) hx3).size; omega)
      have hbs := hb.size
      have b4s := B4.size
      have q4 := hb.trans (B4.mono hbs)
      clear cS1 cS2 cM cD L0
      go_wp2_with (at_builtin; refine wpList_row rfl _ _ rfl w.heap.size (hrow.on (below_alloc B4 _)) rfl (by omega) rfl (new_cell rfl) rfl (n7.on (below_alloc (Below.refl _ _) _)) (far_al far7 _) (by simp; omega) ?_; intro v9 w9 hrow9 hb9)
      go_roundw
      case rel => first | exact ⟨j + 2, by omega, by omega, by go_num, hrow9, (below_alloc q4 _).trans hb9⟩ | ((repeat apply Exists.intro); exact ⟨⟨j + 2, by omega, by omega, by go_num, hrow9, (below_alloc q4 _).trans hb9⟩, rfl⟩)
      case measure => (simp [intOf] <;> omega)
    · obtain rfl : k = n + 1 := by omega
      go_wp2_with fail
      go_ret
      exact ⟨_, rfl, hrow, hb⟩

end Go.Proofs.YtliekcfcdfakjaaDoor
