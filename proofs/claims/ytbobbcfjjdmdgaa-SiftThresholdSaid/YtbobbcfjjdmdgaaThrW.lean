/- The walk of SiftThreshold. For any two bit strings, size of the sample, seed and limit. -/
import Derived.Test.YtbobbcfjjdmdgaaThrA
namespace Go.Proofs.Ytbobbcfjjdmdgaa
open Go.RowKit Go.Deep Go.Joins
set_option linter.unusedVariables false
set_option linter.unusedSimpArgs false

theorem mul_fits (a b A B : Nat) (ha : a ≤ A) (hb : b ≤ B) (hAB : A * B ≤ 1000000) : ∃ x : Nat, a * b = x ∧ x ≤ A * B ∧ wrap64 ((a : Int) * (b : Int)) = (x : Int) := by
  refine ⟨a * b, rfl, Nat.mul_le_mul ha hb, ?_⟩
  have := Nat.mul_le_mul ha hb
  have e : (a : Int) * (b : Int) = ((a * b : Nat) : Int) := by simp
  rw [e]
  generalize a * b = x at *
  generalize A * B = y at *
  exact IntWalk.wrap64_in _ (by omega)
theorem xor_at {a b : List Bool} {j : Nat} {x y : Bool} (ha : a[j]? = some x) (hb : b[j]? = some y) : (xorL a b)[j]? = some (x != y) := by
  unfold xorL
  rw [List.getElem?_zipWith, ha, hb]
theorem cnt_app2 (l : List Bool) (x : Bool) : cntL (l ++ [x]) = cntL l + (if x = true then 1 else 0) := by
  unfold cntL
  rw [List.filter_append, List.length_append]
  cases x <;> rfl
theorem five_newd {W y : World} {T : TypeId} (h : Below (W.alloc (.cells #[.int .i64 0, .int .i64 0, .int .i64 0, .int .i64 0, .int .i64 0] T)).drew.heap.size (W.alloc (.cells #[.int .i64 0, .int .i64 0, .int .i64 0, .int .i64 0, .int .i64 0] T)).drew y) : Five y W.heap.size :=
  five_new (below_trans (Below.refl _ _).drew h) rfl
theorem set5_cells {y : World} {g : Nat} (h : Five y g) (a0 a1 a2 a3 a4 : Value) :
    (((((y.setCell ⟨g, 0, none⟩ a0).setCell ⟨g, 1, none⟩ a1).setCell ⟨g, 2, none⟩ a2).setCell ⟨g, 3, none⟩ a3).setCell ⟨g, 4, none⟩ a4).cell? ⟨g, 0, none⟩ = some a0 ∧
    (((((y.setCell ⟨g, 0, none⟩ a0).setCell ⟨g, 1, none⟩ a1).setCell ⟨g, 2, none⟩ a2).setCell ⟨g, 3, none⟩ a3).setCell ⟨g, 4, none⟩ a4).cell? ⟨g, 1, none⟩ = some a1 ∧
    (((((y.setCell ⟨g, 0, none⟩ a0).setCell ⟨g, 1, none⟩ a1).setCell ⟨g, 2, none⟩ a2).setCell ⟨g, 3, none⟩ a3).setCell ⟨g, 4, none⟩ a4).cell? ⟨g, 2, none⟩ = some a2 ∧
    (((((y.setCell ⟨g, 0, none⟩ a0).setCell ⟨g, 1, none⟩ a1).setCell ⟨g, 2, none⟩ a2).setCell ⟨g, 3, none⟩ a3).setCell ⟨g, 4, none⟩ a4).cell? ⟨g, 3, none⟩ = some a3 ∧
    (((((y.setCell ⟨g, 0, none⟩ a0).setCell ⟨g, 1, none⟩ a1).setCell ⟨g, 2, none⟩ a2).setCell ⟨g, 3, none⟩ a3).setCell ⟨g, 4, none⟩ a4).cell? ⟨g, 4, none⟩ = some a4 := by
  obtain ⟨⟨k0, f0⟩, ⟨k1, f1⟩, ⟨k2, f2⟩, ⟨k3, f3⟩, ⟨k4, f4⟩⟩ := h
  refine ⟨?_, ?_, ?_, ?_, ?_⟩ <;> go_simp
theorem al5_cells (y : World) (a0 a1 a2 a3 a4 : Value) (T : TypeId) :
    (y.alloc (.cells #[a0, a1, a2, a3, a4] T)).cell? ⟨y.heap.size, 0, none⟩ = some a0 ∧ (y.alloc (.cells #[a0, a1, a2, a3, a4] T)).cell? ⟨y.heap.size, 1, none⟩ = some a1 ∧ (y.alloc (.cells #[a0, a1, a2, a3, a4] T)).cell? ⟨y.heap.size, 2, none⟩ = some a2 ∧ (y.alloc (.cells #[a0, a1, a2, a3, a4] T)).cell? ⟨y.heap.size, 3, none⟩ = some a3 ∧ (y.alloc (.cells #[a0, a1, a2, a3, a4] T)).cell? ⟨y.heap.size, 4, none⟩ = some a4 := by
  refine ⟨?_, ?_, ?_, ?_, ?_⟩ <;> go_simp
theorem nk_le {N K NK : Nat} (h : (N : Int) - (K : Int) = (NK : Int)) (h2 : N ≤ 40) : NK ≤ 65536 := by omega
theorem two_ways {b : Int} {U Z W : Nat} (h : (U : Int) - (Z : Int) = (W : Int)) : (decide (b < (U : Int)) = true ∧ decide (b - (Z : Int) < (W : Int)) = true) ∨ (decide (b < (U : Int)) = false ∧ decide (b - (Z : Int) < (W : Int)) = false) := by
  by_cases hb : b < (U : Int)
  · exact .inl ⟨decide_eq_true hb, decide_eq_true (by omega)⟩
  · exact .inr ⟨decide_eq_false hb, decide_eq_false (by omega)⟩
theorem cast_lt1 {M Z : Nat} (h : M < 256 * Z) : (M : Int) < 256 * (Z : Int) := by omega
theorem cast_lt2 {M Z : Nat} (h : ¬ M < 256 * Z) : ¬ (M : Int) < 256 * (Z : Int) := by omega
theorem cast_sub {W Z U : Nat} (h : W + Z = U) : (U : Int) - (Z : Int) = (W : Int) := by omega
theorem rXor_n (A B : Option Addr) (cA cB N : Nat) (a b : List Bool) (w : World) (ha : a.length = N) (hb : b.length = N) (hA : Arr 1 encB w w.heap.size A a) (hB : Arr 1 encB w w.heap.size B b) (hN : N ≤ 65536) :
    Calls Try.prog 43 #[.slice A N cA, .slice B N cB] w fun e w' => ∃ P C, e = .returned (.slice P N C) ∧ Arr 1 encB w' w'.heap.size P (xorL a b) ∧ Below w.heap.size w w' := by
  have h := refXor_any A B cA cB a b w hA hB (by omega) (by omega) (by omega)
  rw [ha, hb] at h
  refine h.mono ?_
  rintro e w' ⟨v, rfl, own, hb'⟩
  rw [List.take_of_length_le (by omega)] at own
  obtain ⟨P, C, hv, ar⟩ := arr_cap own encB_len ((xor_len (by omega)).trans ha)
  exact ⟨P, C, by rw [hv], ar, hb'⟩
theorem rCount_n (A : Option Addr) (cA N : Nat) (a : List Bool) (w : World) (ha : a.length = N) (hA : Arr 1 encB w w.heap.size A a) (hN : N ≤ 65536) :
    Calls Try.prog 42 #[.slice A N cA] w fun e w' => e = .returned (.int .i64 (cntL a)) ∧ w = w' := by
  have h := refCount_any A cA a w hA (by omega)
  rw [ha] at h
  exact h

set_option maxRecDepth 100000 in
set_option maxHeartbeats 8000000 in
theorem thr_walk (A B : Option Addr) (cA cB n m k s part : Nat) (a b : List Bool) (w : World) (ha : a.length = n) (hb : b.length = m) (hA : Arr 1 encB w w.heap.size A a) (hB : Arr 1 encB w w.heap.size B b) (lA : n ≤ cA) (lB : m ≤ cB) (mA : cA ≤ maxLen) (mB : cB ≤ maxLen) (hk : k < 256) (hp : part < 256) :
    Calls Try.prog 7 #[.slice A n cA, .slice B m cB, .int .u8 k, .int .u64 (s : Int), .int .u8 part] w fun e w' => e = .returned (.bool true) ∧ Below w.heap.size w w' := by
  unfold maxLen at mA mB
  obtain ⟨N, hN, hN40, hNn, hNm⟩ : ∃ N : Nat, min (min (n : Int) (m : Int)) 40 = (N : Int) ∧ N ≤ 40 ∧ N ≤ n ∧ N ≤ m := ⟨min (min n m) 40, by omega, by omega, by omega, by omega⟩
  obtain ⟨N1, hN1⟩ : ∃ N1 : Nat, (N : Int) + 1 = (N1 : Int) := ⟨N + 1, by omega⟩
  obtain ⟨K, hK, hKN⟩ : ∃ K : Nat, (k : Int) % (N1 : Int) = (K : Int) ∧ K ≤ N := ⟨k % N1, by simp, by have := Nat.mod_lt k (show 0 < N1 by omega); omega⟩
  have Ha := Lib.hid ha; have Hb := Lib.hid hb
  have l1 : (a.take N).length = N := by rw [List.length_take]; omega
  have l2 : (b.take N).length = N := by rw [List.length_take]; omega
  have hA1 := arr_tk hA N
  have hB1 := arr_tk hB N
  clear ha hb
  go_enter Try.func7, Try.ntmps7
  go_upto_region 1 with fail
  go_cut [11] (fun v wx => v = .int .i64 N ∧ wx = w)
  case first =>
    go_wp2_with fail
    all_goals (
      go_meet
      case rel => exact ⟨congrArg (Value.int .i64) (by omega), rfl⟩)
  obtain ⟨rfl, rfl⟩ := hcut
  clear hN
  go_wp2_with fail
  refine (Of_any part wc (by omega)).mono ?_
  rintro e w1 ⟨v1, rfl, b1, hb1⟩
  obtain ⟨A3, c3, rfl, n3⟩ := b1.nt
  go_wp2_with fail
  refine (Of_any 256 w1 (by decide)).mono ?_
  rintro e w2 ⟨v2, rfl, b2, hb2⟩
  obtain ⟨A4, c4, rfl, n4⟩ := b2.nt
  have n3' := n3.on hb2
  clear n3 b1 b2
  have q2 := below_trans hb1 hb2
  go_wp2_with fail
  have q3 := below_alloc q2 (.cells #[.slice A3 (limbs part).length c3, .slice A4 (limbs 256).length c4] 39)
  have al2 := below_alloc (Below.refl w2.heap.size w2) (.cells #[.slice A3 (limbs part).length c3, .slice A4 (limbs 256).length c4] 39)
  have y0 : (w2.alloc (.cells #[.slice A3 (limbs part).length c3, .slice A4 (limbs 256).length c4] 39)).cell? ⟨w2.heap.size, 0, none⟩ = some (.slice A3 (limbs part).length c3) := by go_simp
  have y1 : (w2.alloc (.cells #[.slice A3 (limbs part).length c3, .slice A4 (limbs 256).length c4] 39)).cell? ⟨w2.heap.size, 1, none⟩ = some (.slice A4 (limbs 256).length c4) := by go_simp
  have m3 := n3'.on al2
  have m4 := n4.on al2
  have sz3 : w2.heap.size < (w2.alloc (.cells #[.slice A3 (limbs part).length c3, .slice A4 (limbs 256).length c4] 39)).heap.size := by simp
  obtain ⟨w3, hw3⟩ : ∃ w3, w2.alloc (.cells #[.slice A3 (limbs part).length c3, .slice A4 (limbs 256).length c4] 39) = w3 := ⟨_, rfl⟩
  rw [hw3] at q3 y0 y1 m3 m4 sz3 ⊢
  clear hw3 al2 n3' n4 q2
  refine (Of_any 1 w3 (by decide)).mono ?_
  rintro e w4 ⟨v1, rfl, b1, hb4⟩
  obtain ⟨A1, c1, rfl, n1⟩ := b1.nt
  go_wp2_with fail
  refine (Of_any 10 w4 (by decide)).mono ?_
  rintro e w5 ⟨v2, rfl, b2, hb5⟩
  obtain ⟨A2, c2, rfl, n2⟩ := b2.nt
  have n1' := n1.on hb5
  have hb45 := below_trans hb4 hb5
  have q5 := below_trans q3 hb45
  have x0 := bel_cell hb45 y0
  have x1 := bel_cell hb45 y1
  have p3 := m3.on hb45
  have p4 := m4.on hb45
  have sz5 : w2.heap.size < w5.heap.size := Nat.lt_of_lt_of_le sz3 hb45.size
  clear n1 b1 b2 q3 y0 y1 m3 m4 sz3 hb4 hb5 hb45
  have q6 := below_alloc q5 (.cells #[.slice A1 (limbs 1).length c1, .slice A2 (limbs 10).length c2] 39)
  have al5 := below_alloc (Below.refl w5.heap.size w5) (.cells #[.slice A1 (limbs 1).length c1, .slice A2 (limbs 10).length c2] 39)
  have y0 := bel_cell al5 x0
  have y1 := bel_cell al5 x1
  have y2 : (w5.alloc (.cells #[.slice A1 (limbs 1).length c1, .slice A2 (limbs 10).length c2] 39)).cell? ⟨w5.heap.size, 0, none⟩ = some (.slice A1 (limbs 1).length c1) := by go_simp
  have y3 : (w5.alloc (.cells #[.slice A1 (limbs 1).length c1, .slice A2 (limbs 10).length c2] 39)).cell? ⟨w5.heap.size, 1, none⟩ = some (.slice A2 (limbs 10).length c2) := by go_simp
  have m1 := n1'.on al5
  have m2 := n2.on al5
  have m3 := p3.on al5
  have m4 := p4.on al5
  go_wp2_with fail
  have sz6 : w5.heap.size < (w5.alloc (.cells #[.slice A1 (limbs 1).length c1, .slice A2 (limbs 10).length c2] 39)).heap.size := by simp
  obtain ⟨w6, hw6⟩ : ∃ w6, w5.alloc (.cells #[.slice A1 (limbs 1).length c1, .slice A2 (limbs 10).length c2] 39) = w6 := ⟨_, rfl⟩
  rw [hw6] at q6 y0 y1 y2 y3 m1 m2 m3 m4 sz6 ⊢
  clear hw6 al5 p3 p4 n1' n2 q5 x0 x1
  obtain ⟨hE, hSl, hRl, hpw, hsn, hsm, hleft⟩ := thr_facts (a := a.take N) (b := b.take N) (n := N) (m := K) (s := s) l1 l2 hKN hN40
  have hmem : ∀ x ∈ smL s N K, 0 ≤ x ∧ x < (N : Int) := fun x hx => sm_mem hx
  obtain ⟨bd, htest⟩ := thr_test (a := a.take N) (b := b.take N) (n := N) (m := K) (s := s) (part := part) l1 l2 hKN hN40 hp A1 A2 A3 A4 c1 c2 c3 c4
  have cS := SampleS_any s N K w6
  have cTst := fun w' (hb : Below w6.heap.size w6 w') => Test_any A B cA cB N N (a.take N) (b.take N) K s ⟨A1, c1, limbs 1, A2, c2, limbs 10⟩ ⟨A3, c3, limbs part, A4, c4, limbs 256⟩ w' l1 l2 (hA1.on (below_trans q6 hb)) (hB1.on (below_trans q6 hb)) (by omega) ⟨m1.on hb, m2.on hb⟩ ⟨m3.on hb, m4.on hb⟩
  unfold SmR at cS
  unfold TsR Frc.val at cTst
  rw [hE] at cS
  obtain ⟨NK, hNK⟩ : ∃ NK : Nat, (N : Int) - (K : Int) = (NK : Int) := ⟨N - K, by omega⟩
  rw [show N - K = NK from by omega] at hRl
  have a1len := l1
  have b1len := l2
  have d0 := xor_len (a := a.take N) (b := b.take N) (by omega)
  have all0 : cntL (xorL (a.take N) (b.take N)) ≤ N := by have := cntL_le (xorL (a.take N) (b.take N)); omega
  generalize a.take N = a1 at *
  generalize b.take N = b1 at *
  generalize seenN a1 b1 K s = Z at *
  generalize smL s N K = S at *
  generalize rsL s N K = R at *
  obtain ⟨U, hU⟩ : ∃ U, cntL (xorL a1 b1) = U := ⟨_, rfl⟩
  have Hsn := Lib.hid hsn; have Hleft := Lib.hid hleft; have Htest := Lib.hid htest; have Hpw := Lib.hid hpw; have Hmem := Lib.hid hmem; have HS := Lib.hid hSl; have HR := Lib.hid hRl
  have L1 := Lib.hid l1; have L2 := Lib.hid l2; have D0 := Lib.hid (d0.trans l1)
  rw [hU] at all0
  have HU := Lib.hid hU
  clear hsn hleft htest hpw hmem hSl hRl l1 l2 d0 hU hE
  refine cS.mono ?_
  rintro e w7 ⟨v1, v2, rfl, ownS, ownR, hb7⟩
  obtain ⟨P1, C1, rfl, arS⟩ := arr_cap ownS encI_len HS.out
  obtain ⟨P2, C2, rfl, arR⟩ := arr_cap ownR encI_len HR.out
  have q7 := below_trans q6 hb7
  have x0 := bel_cell hb7 y0
  have x1 := bel_cell hb7 y1
  have x2 := bel_cell hb7 y2
  have x3 := bel_cell hb7 y3
  have sz7 : w5.heap.size < w7.heap.size := Nat.lt_of_lt_of_le sz6 hb7.size
  have sz75 : w2.heap.size < w7.heap.size := by omega
  clear cS ownS ownR y0 y1 y2 y3 sz6 sz5 arR
  have cX := fun w' (hb : Below w7.heap.size w7 w') => rXor_n A B cA cB N a1 b1 w' L1.out L2.out (hA1.on (below_trans q7 hb)) (hB1.on (below_trans q7 hb)) (by omega)
  have cC := fun w' P C (ar : Arr 1 encB w' w'.heap.size P (xorL a1 b1)) => rCount_n P C N (xorL a1 b1) w' D0.out ar (by omega)
  rw [HU.out] at cC
  have lcA : (N : Int) ≤ (cA : Int) := by omega
  have lcB : (N : Int) ≤ (cB : Int) := by omega
  go_wp2_with fail
  go_region_held3 (fun w' => Below w7.heap.size w7 w')
    (first | (exact (Below.refl _ _).drew) | (exact below_trans (Below.refl _ _).drew hx1) | (refine below_trans ?_ hx1; assumption))
    (first | (go_at_call 43; refine (cX _ ?hB).mono ?_; (case hB => assumption); rintro e z1 ⟨X1, XC, rfl, arX, hx1⟩) | (go_at_call 42; refine (cC _ _ _ arX).mono ?_; rintro e z2 ⟨rfl, rfl⟩))
  have B8 : Below w7.heap.size w7 z1 := below_trans (Below.refl _ _).drew hx1
  have q8 := below_trans q7 B8
  have y0 := bel_cell B8 x0
  have y1 := bel_cell B8 x1
  have y2 := bel_cell B8 x2
  have y3 := bel_cell B8 x3
  have sz8 : w5.heap.size < z1.heap.size := Nat.lt_of_lt_of_le sz7 B8.size
  have sz85 : w2.heap.size < z1.heap.size := Nat.lt_of_lt_of_le sz75 B8.size
  have hS8 := arS.on B8
  have b78 := below_trans hb7 B8
  clear x0 x1 x2 x3 sz7 sz75 cX cC arX hx1 B8 arS
  go_wp2_with fail
  go_loopw [19, 20] (fun sv iv wr => ∃ (k' Zk : Nat), k' ≤ K ∧ iv = .int .i64 k' ∧ sv = .int .i64 Zk ∧ Zk ≤ k' ∧ Hid (Zk = cntL (pickL (xorL a1 b1) (S.take k'))) ∧ Below z1.heap.size z1 wr) (fun _ iv _ => K - (intOf iv).toNat)
  case atStart => exact ⟨0, 0, Nat.zero_le _, rfl, rfl, Nat.le_refl _, Lib.hid rfl, Below.refl _ _⟩
  case round =>
    obtain ⟨k', Zk, hk', rfl, rfl, hZk, hZ, hbr⟩ := hrel
    by_cases hlt : k' < K
    · obtain ⟨x, hx⟩ : ∃ x, S[k']? = some x := ⟨_, List.getElem?_eq_getElem (by rw [HS.out]; exact hlt)⟩
      obtain ⟨r0, r1⟩ := Hmem.out x (List.mem_of_getElem? hx)
      obtain ⟨j, rfl⟩ := Int.eq_ofNat_of_zero_le r0
      have hjN : j < N := by omega
      obtain ⟨xa, hxa⟩ : ∃ y, a1[j]? = some y := ⟨_, List.getElem?_eq_getElem (by rw [L1.out]; exact hjN)⟩
      obtain ⟨xb, hxb⟩ : ∃ y, b1[j]? = some y := ⟨_, List.getElem?_eq_getElem (by rw [L2.out]; exact hjN)⟩
      have Stn : Hid (Zk + (if (xa != xb) = true then 1 else 0) = cntL (pickL (xorL a1 b1) (S.take (k' + 1)))) := Lib.hid (by rw [pick_snoc hx (xor_at hxa hxb), cnt_app2, ← hZ.out])
      obtain ⟨pb, po, rfl, _, hc⟩ := (hS8.on hbr) (by rintro rfl; simp at hx)
      obtain ⟨qa, oa, rfl, _, hca⟩ := (hA1.on (below_trans q8 hbr)) (by rintro rfl; simp at hxa)
      obtain ⟨qb, ob, rfl, _, hcb⟩ := (hB1.on (below_trans q8 hbr)) (by rintro rfl; simp at hxb)
      have e1 : wr.cell? ⟨pb, po + k', none⟩ = some (.int .i64 (j : Int)) := by have := hc k' _ hx 0 _ rfl; simpa using this
      have e2 : wr.cell? ⟨qa, oa + j, none⟩ = some (.bool xa) := by have := hca j _ hxa 0 _ rfl; simpa using this
      have e3 : wr.cell? ⟨qb, ob + j, none⟩ = some (.bool xb) := by have := hcb j _ hxb 0 _ rfl; simpa using this
      have hja : (j : Int) < (n : Int) := by omega
      have hjb : (j : Int) < (m : Int) := by omega
      have hjN2 : (j : Int) < (N : Int) := by omega
      have hkK : (k' : Int) < (K : Int) := by omega
      have d1 : decide ((j : Int) < 0) = false := by simp
      have d2 : decide (N ≤ j) = false := by simp; omega
      rcases Nat.eq_zero_or_pos k' with rfl | hk0
      · clear hc hca hcb
        have Hx := Lib.hid hx; have Hxa := Lib.hid hxa; have Hxb := Lib.hid hxb
        clear hx hxa hxb
        have e1' : wr.cell? ⟨pb, po, none⟩ = some (.int .i64 (j : Int)) := by simpa using e1
        have hZ0 : Zk = 0 := by omega
        subst hZ0
        have F1 := Lib.hid e1'; have F2 := Lib.hid e2; have F3 := Lib.hid e3
        have E1 := later_cell e1'
        clear e1 e1' e2 e3
        have z0 : ((0 : Nat) : Int) = 0 := rfl
        simp only [z0] at hkK ⊢
        clear z0
        by_cases hxx : xa = xb
        · subst hxx
          have Sn : Hid (0 = cntL (pickL (xorL a1 b1) (S.take (0 + 1)))) := Lib.hid (by have := Stn.out; rwa [bne_self_eq_false, if_neg (by decide), Nat.add_zero] at this)
          clear Stn
          go_wp2_with fail
          (refine wp_region_later (by kernel_rfl) (by kernel_rfl) ?_; (repeat (go_big_quiet_step (fail))); refine wpQuiet_nil ?_; rintro w9 ⟨⟨_, hb9⟩, rfl⟩)
          clear E1
          have f1 := later_cell (bel_cell hb9 F1.out)
          have f2 := later_cell (bel_cell hb9 F2.out)
          have f3 := later_cell (bel_cell hb9 F3.out)
          go_wp2_with fail
          (refine wp_region_later (by kernel_rfl) (by kernel_rfl) ?_; (repeat (go_big_quiet_step (fail))); refine wpQuiet_nil ?_; rintro w10 ⟨⟨_, hb10⟩, rfl⟩)
          have hb11 := hbr.trans (hb9.mono hbr.size |>.trans (hb10.mono (Nat.le_trans hbr.size hb9.size)))
          clear f1 f2 f3
          go_wp2_with fail
          exact ⟨⟨0 + 1, 0, by omega, by go_num, rfl, by omega, Sn, hb11⟩, by simp [intOf]; omega⟩
        · have hxn : (xa != xb) = true := by rw [bne_iff_ne]; exact hxx
          have hx3 : (!xa == xb) = true := by revert hxx; cases xa <;> cases xb <;> decide
          have Sn : Hid (0 + 1 = cntL (pickL (xorL a1 b1) (S.take (0 + 1)))) := Lib.hid (by have := Stn.out; rwa [if_pos hxn] at this)
          clear Stn
          go_wp2_with fail
          (refine wp_region_later (by kernel_rfl) (by kernel_rfl) ?_; (repeat (go_big_quiet_step (fail))); refine wpQuiet_nil ?_; rintro w9 ⟨⟨_, hb9⟩, rfl⟩)
          clear E1
          have f1 := later_cell (bel_cell hb9 F1.out)
          have f2 := later_cell (bel_cell hb9 F2.out)
          have f3 := later_cell (bel_cell hb9 F3.out)
          go_wp2_with fail
          (refine wp_region_later (by kernel_rfl) (by kernel_rfl) ?_; (repeat (go_big_quiet_step (fail))); refine wpQuiet_nil ?_; rintro w10 ⟨⟨_, hb10⟩, rfl⟩)
          have hb11 := hbr.trans (hb9.mono hbr.size |>.trans (hb10.mono (Nat.le_trans hbr.size hb9.size)))
          clear f1 f2 f3
          go_wp2_with fail
          exact ⟨⟨0 + 1, 0 + 1, by omega, by go_num, by go_num, by omega, Sn, hb11⟩, by simp [intOf]; omega⟩
      · obtain ⟨r, rfl⟩ : ∃ r, k' = r + 1 := ⟨k' - 1, by omega⟩
        obtain ⟨x2, hx2⟩ : ∃ x, S[r]? = some x := ⟨_, List.getElem?_eq_getElem (by rw [HS.out]; omega)⟩
        obtain ⟨r2, _⟩ := Hmem.out x2 (List.mem_of_getElem? hx2)
        obtain ⟨j2, rfl⟩ := Int.eq_ofNat_of_zero_le r2
        have hlt2 : (j2 : Int) < (j : Int) := List.pairwise_iff_getElem.1 Hpw.out r (r + 1) (by rw [HS.out]; omega) (by rw [HS.out]; omega) (Nat.lt_succ_self r) |> fun h => by
          rw [(List.getElem?_eq_some_iff.1 hx2).2, (List.getElem?_eq_some_iff.1 hx).2] at h; exact h
        have d4 : decide (j ≤ j2) = false := by simp; omega
        have d3 : decide ((0 : Int) < (r : Int) + 1) = true := decide_eq_true (by omega)
        have e4 : wr.cell? ⟨pb, po + r, none⟩ = some (.int .i64 (j2 : Int)) := by have := hc r _ hx2 0 _ rfl; simpa using this
        have hrK : (r : Int) < (K : Int) := by omega
        have F1 := Lib.hid e1; have F2 := Lib.hid e2; have F3 := Lib.hid e3
        have E1 := later_cell e1
        have E4 := later_cell e4
        have Hx := Lib.hid hx; have Hxa := Lib.hid hxa; have Hxb := Lib.hid hxb
        clear hx hxa hxb hx2 e1 e2 e3 e4 hc hca hcb
        by_cases hxx : xa = xb
        · subst hxx
          have Sn : Hid (Zk = cntL (pickL (xorL a1 b1) (S.take (r + 1 + 1)))) := Lib.hid (by have := Stn.out; rwa [bne_self_eq_false, if_neg (by decide), Nat.add_zero] at this)
          clear Stn
          go_wp2_with fail
          (refine wp_region_later (by kernel_rfl) (by kernel_rfl) ?_; (repeat (go_big_quiet_step (fail))); refine wpQuiet_nil ?_; rintro w9 ⟨⟨_, hb9⟩, rfl⟩)
          clear E1 E4
          have f1 := later_cell (bel_cell hb9 F1.out)
          have f2 := later_cell (bel_cell hb9 F2.out)
          have f3 := later_cell (bel_cell hb9 F3.out)
          go_wp2_with fail
          (refine wp_region_later (by kernel_rfl) (by kernel_rfl) ?_; (repeat (go_big_quiet_step (fail))); refine wpQuiet_nil ?_; rintro w10 ⟨⟨_, hb10⟩, rfl⟩)
          have hb11 := hbr.trans (hb9.mono hbr.size |>.trans (hb10.mono (Nat.le_trans hbr.size hb9.size)))
          clear f1 f2 f3
          go_wp2_with fail
          exact ⟨⟨r + 1 + 1, Zk, by omega, by go_num, rfl, by omega, Sn, hb11⟩, by simp [intOf]; omega⟩
        · have hxn : (xa != xb) = true := by rw [bne_iff_ne]; exact hxx
          have hx3 : (!xa == xb) = true := by revert hxx; cases xa <;> cases xb <;> decide
          have Sn : Hid (Zk + 1 = cntL (pickL (xorL a1 b1) (S.take (r + 1 + 1)))) := Lib.hid (by have := Stn.out; rwa [if_pos hxn] at this)
          clear Stn
          go_wp2_with fail
          (refine wp_region_later (by kernel_rfl) (by kernel_rfl) ?_; (repeat (go_big_quiet_step (fail))); refine wpQuiet_nil ?_; rintro w9 ⟨⟨_, hb9⟩, rfl⟩)
          clear E1 E4
          have f1 := later_cell (bel_cell hb9 F1.out)
          have f2 := later_cell (bel_cell hb9 F2.out)
          have f3 := later_cell (bel_cell hb9 F3.out)
          go_wp2_with fail
          (refine wp_region_later (by kernel_rfl) (by kernel_rfl) ?_; (repeat (go_big_quiet_step (fail))); refine wpQuiet_nil ?_; rintro w10 ⟨⟨_, hb10⟩, rfl⟩)
          have hb11 := hbr.trans (hb9.mono hbr.size |>.trans (hb10.mono (Nat.le_trans hbr.size hb9.size)))
          clear f1 f2 f3
          go_wp2_with fail
          exact ⟨⟨r + 1 + 1, Zk + 1, by omega, by go_num, by go_num, by omega, Sn, hb11⟩, by simp [intOf]; omega⟩
    · obtain rfl : k' = K := by omega
      have eS : S.take k' = S := by rw [← HS.out, List.take_length]
      have eZ : Zk = Z := by rw [hZ.out, eS, Hsn.out]
      subst eZ
      clear eS hZ
      have q9 := below_trans q8 hbr
      have x0 := bel_cell hbr y0
      have x1 := bel_cell hbr y1
      have x2 := bel_cell hbr y2
      have x3 := bel_cell hbr y3
      have sz9 : w5.heap.size < wr.heap.size := Nat.lt_of_lt_of_le sz8 hbr.size
      have sz95 : w2.heap.size < wr.heap.size := Nat.lt_of_lt_of_le sz85 hbr.size
      have b69 := below_trans b78 hbr
      have cT := fun w' (hb : Below wr.heap.size wr w') => cTst w' (below_trans b69 hb)
      have L0 := fun w' (hb : Below wr.heap.size wr w') => bel_cell hb x0
      have L1 := fun w' (hb : Below wr.heap.size wr w') => bel_cell hb x1
      have L2 := fun w' (hb : Below wr.heap.size wr w') => bel_cell hb x2
      have L3 := fun w' (hb : Below wr.heap.size wr w') => bel_cell hb x3
      clear y0 y1 y2 y3 x0 x1 x2 x3 sz8 sz85 cTst hS8 b78
      obtain ⟨M, hM, hM2, wM⟩ := mul_fits part k' 255 40 (by omega) (by omega) (by decide)
      have HM := Lib.hid hM; have HwM := Lib.hid wM
      clear wM
      have ht0 := Htest.out
      rw [hM] at ht0
      clear hM
      obtain ⟨ea, eb, ec, ed, ee, E, LL, X5, X6, hV, hE5, hP5, hP6, l5, l6, hcase⟩ : ∃ (ea eb ec ed ee E : Int) (LL : Nat) (X5 X6 : List Bool), tstV a1 b1 (k' : Int) s ⟨A1, c1, limbs 1, A2, c2, limbs 10⟩ ⟨A3, c3, limbs part, A4, c4, limbs 256⟩ = .agg #[.int .i64 ea, .int .i64 eb, .int .i64 ec, .int .i64 ed, .int .i64 ee] ∧ tstE a1 b1 (k' : Int) s ⟨A1, c1, limbs 1, A2, c2, limbs 10⟩ ⟨A3, c3, limbs part, A4, c4, limbs 256⟩ = E ∧ tstP a1 a1 b1 (k' : Int) s ⟨A1, c1, limbs 1, A2, c2, limbs 10⟩ ⟨A3, c3, limbs part, A4, c4, limbs 256⟩ = X5 ∧ tstP b1 a1 b1 (k' : Int) s ⟨A1, c1, limbs 1, A2, c2, limbs 10⟩ ⟨A3, c3, limbs part, A4, c4, limbs 256⟩ = X6 ∧ X5.length = LL ∧ X6.length = LL ∧
          ((M < 256 * Zk ∧ E = 18 ∧ ea = 0 ∧ eb = 0 ∧ ec = 0 ∧ ed = 0 ∧ ee = 0 ∧ LL = 0) ∨ (¬ M < 256 * Zk ∧ E = 0 ∧ 0 ≤ bd ∧ bd ≤ 512 ∧ ec = (Zk : Int) ∧ ed = bd ∧ ee = bd - (Zk : Int) ∧ LL = NK ∧ Hid (X5 = pickL a1 R ∧ X6 = pickL b1 R))) := by
        by_cases hlt2 : M < 256 * Zk
        · rw [if_pos hlt2] at ht0
          obtain ⟨tE, tV, tP⟩ := ht0
          exact ⟨0, 0, 0, 0, 0, 18, 0, [], [], tV, tE, tP _, tP _, rfl, rfl, .inl ⟨hlt2, rfl, rfl, rfl, rfl, rfl, rfl, rfl⟩⟩
        · rw [if_neg hlt2] at ht0
          obtain ⟨tE, bd0, bd1, tV, tP⟩ := ht0
          exact ⟨_, _, _, _, _, 0, NK, _, _, tV, tE, tP _, tP _, by rw [pick_len]; exact HR.out, by rw [pick_len]; exact HR.out, .inr ⟨hlt2, rfl, bd0, bd1, rfl, rfl, rfl, rfl, Lib.hid ⟨rfl, rfl⟩⟩⟩
      simp only [hV, hE5, hP5, hP6] at cT
      have Hcase := Lib.hid hcase; have L5 := Lib.hid l5; have L6 := Lib.hid l6
      clear hV hE5 hP5 hP6 l5 l6 hcase ht0
      go_upto_region 17 with fail
      go_cut [21, 22, 23, 24] (fun v21 v22 v23 v24 wx => ∃ g P5 C5 P6 C6, v21 = .pointer (some ⟨g, 0, none⟩) ∧ v22 = .slice P5 LL C5 ∧ v23 = .slice P6 LL C6 ∧ v24 = .int .i64 E ∧ wx.cell? ⟨g, 0, none⟩ = some (.int .i64 ea) ∧ wx.cell? ⟨g, 1, none⟩ = some (.int .i64 eb) ∧ wx.cell? ⟨g, 2, none⟩ = some (.int .i64 ec) ∧ wx.cell? ⟨g, 3, none⟩ = some (.int .i64 ed) ∧ wx.cell? ⟨g, 4, none⟩ = some (.int .i64 ee) ∧ Arr 1 encB wx wx.heap.size P5 X5 ∧ Arr 1 encB wx wx.heap.size P6 X6 ∧ Below wr.heap.size wr wx)
      case first =>
        go_region_held3 (fun w' => Below wr.heap.size wr w')
          (first | (exact (Below.refl _ _).drew) | (exact below_trans (Below.refl _ _).drew hx1) | (exact (below_alloc (Below.refl _ _) _).drew) | (exact below_alloc (below_trans (Below.refl _ _).drew hx1) _) | (exact below_trans (below_alloc (Below.refl _ _) _).drew hx1) | (exact below_set5 (below_trans (below_alloc (Below.refl _ _) _).drew hx1) (Nat.le_refl _)) | (refine below_trans ?_ hx1; assumption) | (refine below_alloc ?_ _; assumption))
          ((go_at_call 44; refine (cT _ ?hB).mono ?_; (case hB => assumption); rintro e z2 ⟨vX, vY, rfl, own5, own6, hx1⟩; (try have bz1 := five_newd hx1); (try have bz1 := five_new hx1 rfl); (try obtain ⟨⟨kz0, fz0⟩, ⟨kz1, fz1⟩, ⟨kz2, fz2⟩, ⟨kz3, fz3⟩, ⟨kz4, fz4⟩⟩ := bz1)))
        · obtain ⟨P5, C5, h5, ar5⟩ := arr_cap own5 encB_len L5.out
          obtain ⟨P6, C6, h6, ar6⟩ := arr_cap own6 encB_len L6.out
          obtain ⟨d0, d1, d2, d3, d4⟩ := al5_cells z2 (.int .i64 ea) (.int .i64 eb) (.int .i64 ec) (.int .i64 ed) (.int .i64 ee) 104
          have D0 := Lib.hid d0; have D1 := Lib.hid d1; have D2 := Lib.hid d2; have D3 := Lib.hid d3; have D4 := Lib.hid d4
          clear d0 d1 d2 d3 d4
          go_wp2_with fail
          go_meet
          case rel => exact ⟨_, P5, C5, P6, C6, rfl, h5, h6, rfl, D0.out, D1.out, D2.out, D3.out, D4.out, ar5.on (below_alloc (Below.refl _ _) _), ar6.on (below_alloc (Below.refl _ _) _), below_alloc (below_trans (Below.refl _ _).drew hx1) _⟩
        · have o5 := own_set5 (g := wr.heap.size) (a0 := .int .i64 ea) (a1 := .int .i64 eb) (a2 := .int .i64 ec) (a3 := .int .i64 ed) (a4 := .int .i64 ee) own5 (by simp)
          have o6 := own_set5 (g := wr.heap.size) (a0 := .int .i64 ea) (a1 := .int .i64 eb) (a2 := .int .i64 ec) (a3 := .int .i64 ed) (a4 := .int .i64 ee) own6 (by simp)
          obtain ⟨P5, C5, h5, ar5⟩ := arr_cap o5 encB_len L5.out
          obtain ⟨P6, C6, h6, ar6⟩ := arr_cap o6 encB_len L6.out
          obtain ⟨d0, d1, d2, d3, d4⟩ := set5_cells (five_newd hx1) (.int .i64 ea) (.int .i64 eb) (.int .i64 ec) (.int .i64 ed) (.int .i64 ee)
          have D0 := Lib.hid d0; have D1 := Lib.hid d1; have D2 := Lib.hid d2; have D3 := Lib.hid d3; have D4 := Lib.hid d4
          clear d0 d1 d2 d3 d4
          go_wp2_with fail
          go_meet
          case rel => exact ⟨_, P5, C5, P6, C6, rfl, h5, h6, rfl, D0.out, D1.out, D2.out, D3.out, D4.out, ar5, ar6, below_set5 (below_trans (below_alloc (Below.refl _ _) _).drew hx1) (Nat.le_refl _)⟩
      obtain ⟨g, P5, C5, P6, C6, rfl, rfl, rfl, rfl, k0, k1, k2, k3, k4, ar5, ar6, hbc⟩ := hcut
      have q10 := below_trans q9 hbc
      have NK2 := nk_le hNK hN40
      clear lA lB mA mB lcA lcB hNn hNm hN1 hK a1len b1len hlt hk' hsm sz9 sz95 hk
      rcases Hcase.out with ⟨hlt2, rfl, rfl, rfl, rfl, rfl, rfl, rfl⟩ | ⟨hlt2, rfl, bd0, bd1, rfl, rfl, rfl, rfl, hX⟩
      · have hlt3 := cast_lt1 hlt2
        clear cT L0 L1 L2 L3 ar5 ar6
        have wM := HwM.out
        go_wp2_with (go_at_call 10; refine (known_any _).mono ?_; rintro e w11 ⟨rfl, hb11⟩)
        go_ret
        exact ⟨rfl, below_trans q10 hb11⟩
      · have hlt3 := cast_lt2 hlt2
        clear cT L0 L1 L2 L3
        have hX5 := hX.out.1
        have hX6 := hX.out.2
        have lX5 : X5.length = LL := L5.out
        have lX6 : X6.length = LL := L6.out
        obtain ⟨W, hW⟩ : ∃ W, cntL (xorL X5 X6) = W := ⟨_, rfl⟩
        have hWZ : W + Zk = U := by rw [← hW, hX5, hX6, ← HU.out]; exact Hleft.out
        have lX := (xor_len (a := X5) (b := X6) (lX5.trans lX6.symm)).trans lX5
        have cX := rXor_n P5 P6 C5 C6 LL X5 X6 _ lX5 lX6 ar5 ar6 NK2
        have LX := Lib.hid lX; have HW := Lib.hid hW
        have hU := cast_sub hWZ
        clear hX5 hX6 lX5 lX6 hW lX hX hWZ
        have wM := HwM.out
        go_wp2_with fail
        refine cX.mono ?_
        rintro e z3 ⟨X3, XC3, rfl, arX3, hx3⟩
        have cC3 := rCount_n X3 XC3 LL (xorL X5 X6) z3 LX.out arX3 NK2
        rw [HW.out] at cC3
        have k2' := bel_cell hx3 k2
        have k3' := bel_cell hx3 k3
        have k4' := bel_cell hx3 k4
        rcases two_ways (b := ed) hU with ⟨p1, p2⟩ | ⟨p1, p2⟩
        all_goals (
          go_wp2_with (first | (go_at_call 42; refine (cC3).mono ?_; rintro e w' ⟨rfl, rfl⟩) | (go_at_call 10; refine (known_any _).mono ?_; rintro e w11 ⟨rfl, hb11⟩))
          go_ret
          exact ⟨rfl, (below_trans (below_trans q10 hx3) hb11)⟩)

end Go.Proofs.Ytbobbcfjjdmdgaa
