/- Contract of the reference's divide: the doubles of the divisor. For at most a million digits. -/
import Derived.Test.YtliekcfcdfakjaaDoorRefF
import Derived.Test.YtliekcfcdfakjaaDoorNatG
import Derived.Deep.DeepCutAuto
namespace Go.Proofs.YtliekcfcdfakjaaDoor
open Go.RowKit
set_option linter.unusedVariables false
set_option linter.unusedSimpArgs false

theorem dg_len_mul (y k : Nat) : (dg (y * 2 ^ k)).length ≤ (dg y).length + k := by
  refine digB_len_le b8 ?_
  rw [Nat.pow_add]
  have h1 : y < 256 ^ (dg y).length := digB_lt b8 y
  have h2 : 2 ^ k ≤ 256 ^ k := Nat.pow_le_pow_left (by decide) k
  exact Nat.lt_of_lt_of_le (Nat.mul_lt_mul_of_pos_right h1 (Nat.pow_pos (by decide))) (Nat.mul_le_mul_left _ h2)
theorem dbl_next (y j : Nat) : valB 256 (dg (y * 2 ^ j)) + valB 256 (dg (y * 2 ^ j)) = y * 2 ^ (j + 1) := by
  rw [dg_val, Nat.pow_succ, ← Nat.mul_assoc]; omega
theorem Dn.lt_size {w : World} {A : Option Addr} {c : Nat} {l : List Nat} (h : Dn w A c l) (hl : l ≠ []) : ∀ a, A = some a → a.block < w.heap.size := by
  intro a ha
  obtain ⟨b, off, hA, hb, _⟩ := h.arr hl
  rw [hA] at ha; cases ha; exact hb
theorem dg_ne {y : Nat} (h : 0 < y) : dg y ≠ [] := fun h0 => by
  have := (digB_nil b8 (n := y)).1 h0
  omega

theorem Arr.drop {α : Type} {sz : Nat} {enc : α → List Value} {w : World} {B b off : Nat} {l : List α} (h : Arr sz enc w B (some ⟨b, off, none⟩) l) (k : Nat) : Arr sz enc w B (some ⟨b, off + k * sz, none⟩) (l.drop k) := fun hl => by
  obtain ⟨b', off', he, hb, hc⟩ := h (by rintro rfl; simp at hl)
  cases he
  refine ⟨b, _, rfl, hb, fun i x hx j u hu => ?_⟩
  rw [List.getElem?_drop] at hx
  have := hc _ x hx j u hu
  rw [Nat.add_mul, ← Nat.add_assoc] at this
  exact this
theorem valB_drop {b : Nat} {l : List Nat} (h : Dig b l) {k : Nat} (hk : k ≤ l.length) : valB b (l.drop k) = valB b l / b ^ k := by
  have h1 := valB_split (b := b) l k hk
  have h2 := valB_lt (h.take k)
  rw [List.length_take, Nat.min_eq_left hk] at h2
  rw [h1, Nat.add_mul_div_left _ _ (by omega), Nat.div_eq_of_lt h2, Nat.zero_add]
theorem Dig.drop {b : Nat} {l : List Nat} (h : Dig b l) (k : Nat) : Dig b (l.drop k) := fun x hx => h x (List.mem_of_mem_drop hx)
theorem far_al {w : World} {A : Option Addr} {g : Nat} (h : ∀ a, A = some a → a.block ≠ g ∧ a.block < w.heap.size) (o : Obj) {n cap : Nat} : ∀ g', (Value.slice (some ⟨g, 0, none⟩) n cap).ownBlock = some g' → ∀ a, A = some a → a.block ≠ g' ∧ a.block < (w.alloc o).heap.size := by
  intro g' hg'
  cases hg'
  exact fun a ha => ⟨(h a ha).1, by have := (h a ha).2; simp; omega⟩

theorem digit_of {b : Nat} {l : List Nat} (h : Dig b l) {i z : Nat} (hz : l[i]? = some z) : valB b l / b ^ i % b = z := by
  have hi := (List.getElem?_eq_some_iff.1 hz).1
  rw [← valB_drop h (by omega), List.drop_eq_getElem_cons hi, valB, Nat.add_mul_mod_self_left, (List.getElem?_eq_some_iff.1 hz).2]
  exact Nat.mod_eq_of_lt (h.get hz)
theorem set_same {l : List Nat} {i z : Nat} (hz : l[i]? = some z) : l.set i z = l := by
  obtain ⟨hi, rfl⟩ := List.getElem?_eq_some_iff.1 hz
  exact List.set_getElem_self hi
theorem div_round {x y i xi R U z ρ : Nat} (hxi : xi = x / 256 ^ i % 256) (hR : x / 256 ^ (i + 1) % y = R) (hU : xi + 256 * R = U) (hz : z * y + ρ = U) (hρ : ρ < y) : x / 256 ^ i / y = 256 * (x / 256 ^ (i + 1) / y) + z ∧ x / 256 ^ i % y = ρ := by
  have h1 : x / 256 ^ (i + 1) = x / 256 ^ i / 256 := by rw [Nat.pow_succ, Nat.div_div_eq_div_mul]
  have h2 := Nat.mod_add_div (x / 256 ^ i) 256
  have h3 := Nat.mod_add_div (x / 256 ^ (i + 1)) y
  rw [hR] at h3
  generalize x / 256 ^ (i + 1) / y = q at *
  rw [← h1, ← h3, ← hxi] at h2
  have e : x / 256 ^ i = ρ + y * (256 * q + z) := by
    rw [← h2, Nat.mul_add y, Nat.mul_left_comm y 256, Nat.mul_comm y z, Nat.mul_add 256]
    omega
  constructor
  · rw [e, Nat.add_mul_div_left _ _ (by omega), Nat.div_eq_of_lt hρ, Nat.zero_add]
  · rw [e, Nat.add_mul_mod_self_left, Nat.mod_eq_of_lt hρ]
theorem pow_8 {j : Nat} (h : j < 8) : 2 ^ (8 - j) = 2 * 2 ^ (8 - (j + 1)) := by
  rw [← Nat.pow_succ']; congr 1; omega
theorem div_bit0 {y z z2 ρ U j : Nat} (hz : z < 2 ^ (8 - (j + 1))) (hU : z * (y * 2 ^ (j + 1)) + ρ = U) (h2 : z2 = 2 * z) (hj : j < 8) : z2 < 2 ^ (8 - j) ∧ z2 * (y * 2 ^ j) + ρ = U := by
  rw [pow_8 hj, h2]
  refine ⟨by omega, ?_⟩
  rw [← hU, Nat.pow_succ]
  congr 1
  simp only [Nat.mul_comm, Nat.mul_left_comm, Nat.mul_assoc]
theorem div_bit1 {y z z2 ρ U j : Nat} (hz : z < 2 ^ (8 - (j + 1))) (hU : z * (y * 2 ^ (j + 1)) + ρ = U) (h2 : z2 = 2 * z) (hρ : ρ < y * 2 ^ (j + 1)) (hge : y * 2 ^ j ≤ ρ) (hj : j < 8) : z2 + 1 < 2 ^ (8 - j) ∧ (z2 + 1) * (y * 2 ^ j) + (ρ - y * 2 ^ j) = U ∧ ρ - y * 2 ^ j < y * 2 ^ j ∧ z2 + 1 < 256 := by
  obtain ⟨h3, h4⟩ := div_bit0 hz hU h2 hj
  have h5 : 2 ^ (8 - j) ≤ 2 ^ 8 := Nat.pow_le_pow_right (by decide) (by omega)
  have h6 : y * 2 ^ (j + 1) = 2 * (y * 2 ^ j) := by rw [Nat.pow_succ]; simp only [Nat.mul_comm, Nat.mul_left_comm]
  have h7 := pow_8 hj
  have h8 : (2 : Nat) ^ 8 = 256 := by decide
  rw [Nat.add_mul, Nat.one_mul]
  omega
theorem div_first {x y T : Nat} {X Y : List Nat} (hX : dg x = X) (hY : dg y = Y) (hT : T + Y.length = X.length + 1) (hy : 0 < y) : x / 256 ^ T < y := by
  have h1 : x < 256 ^ X.length := by rw [← hX]; exact digB_lt b8 x
  have h2 : 0 < Y.length := by rw [← hY]; exact List.length_pos_iff.2 (dg_ne hy)
  have h3 : 256 ^ (Y.length - 1) ≤ y := (digB_lt_len b8).1 (by change _ < (dg y).length; rw [hY]; omega)
  have h4 : x / 256 ^ T < 256 ^ (Y.length - 1) := by
    rw [Nat.div_lt_iff_lt_mul (Nat.pow_pos (by decide)), ← Nat.pow_add, show Y.length - 1 + T = X.length from by omega]; exact h1
  omega

set_option maxRecDepth 100000 in
set_option maxHeartbeats 4000000 in
theorem div_main (A : Option Addr) (c : Nat) (x : Nat) (C : Option Addr) (d : Nat) (y : Nat) (w : World) (hA : Dn w A c (dg x)) (hC : Dn w C d (dg y)) (hl : (dg x).length ≤ 3000000) (hm : (dg y).length ≤ 3000000) (hy : 0 < y) (hlen : (dg y).length ≤ (dg x).length) :
    Calls Tryd.prog 121 #[.slice A (dg x).length c, .slice C (dg y).length d] w fun e w' => ∃ v1 v2, e = .returned (.tuple #[v1, v2]) ∧ Dg w' w.heap.size v1 (x / y) ∧ Dg w' w.heap.size v2 (x % y) ∧ Below w.heap.size w w' := by
  obtain ⟨i0, hi, hz0, hz1, hz2⟩ := info_parts int_info
  have hly : 0 < (dg y).length := List.length_pos_iff.2 (dg_ne hy)
  have hCs := hC.lt_size (dg_ne hy)
  have rl := rows_lit w w.heap.size C d (fun k => y * 2 ^ k) (by simpa using hC) hCs (Nat.le_refl _)
  simp only [Nat.pow_zero, Nat.mul_one] at rl
  have g0 : decide ((dg x).length < (dg y).length) = false := by simp; omega
  go_enter Tryd.func121, Tryd.ntmps121
  go_wp2_with fail
  go_loopw [6, 7] (fun v i wr => ∃ k : Nat, 1 ≤ k ∧ k ≤ 8 ∧ i = .int .i64 k ∧ Rows wr w.heap.size v (fun k => y * 2 ^ k) k ∧ Below w.heap.size w wr) (fun _ i _ => 8 - (intOf i).toNat)
  case atStart => exact ⟨1, Nat.le_refl _, by decide, rfl, rl, below_alloc (Below.refl _ _) _⟩
  case round =>
    obtain ⟨k, hk1, hk8, rfl, hrow, hb⟩ := hrel
    by_cases hk : k < 8
    · obtain ⟨j, rfl⟩ : ∃ j, k = j + 1 := ⟨k - 1, by omega⟩
      obtain ⟨g, cap, rfl, hg1, hg2, hget⟩ := hrow.form
      obtain ⟨A1, c1, k1, n1⟩ := hget j (by omega)
      have lj := dg_len_mul y j
      have cA := fun w' (hb' : Below wr.heap.size wr w') => radd_any A1 c1 _ A1 c1 _ w' (n1.on hb') (n1.on hb') (by omega) (by omega)
      simp only [dbl_next] at cA
      have wj : IntKind.i64.wrap (j : Int) = (j : Int) := IntWalk.i64_in _ (by omega)
      have ij : (j : Int) < (j : Int) + 1 := by omega
      go_wp2_with fail
      have hbs := hb.size
      go_region_law (first | (refine step_row (by rfl) _ _ (by rfl) w.heap.size (hrow.on (below_alloc (below_trans (Below.refl _ _).drew hx1) _)) (by rfl) (by omega) (by rfl) (new_cell rfl) rfl (n2.on (below_alloc (Below.refl _ _) _)) (far_al far2 _) (by have := hx1.size; simp at this ⊢; omega) ?_; intro v' w5 hrow5 hb5) | (go_simp; go_at_call 100; refine (cA _ (Below.refl _ _).drew).mono ?_; rintro e y1 ⟨v1, rfl, b1, hx1⟩; obtain ⟨A2, c2, hv2, n2⟩ := b1.dn; rw [hv2]; rw [hv2] at b1; have far2 := dg_far b1 hg1))
      all_goals (
        go_wp2_with fail
        go_roundw
        case rel => exact ⟨j + 2, by omega, by omega, by go_num, hrow5, ((below_alloc ((hb.drew).trans (hx1.mono hbs)) _).trans hb5)⟩
        case measure => (simp [intOf] <;> omega)
        )
    · obtain rfl : k = 8 := by omega
      obtain ⟨w6, rfl⟩ : ∃ w6, w6 = wr := ⟨_, rfl⟩
      obtain ⟨g, gc, rfl, hg1, hg2, hget⟩ := hrow.form
      have Hget := Lib.hid hget
      clear hget
      obtain ⟨ba, oa, hAe, hba, _⟩ := hA.arr (by rintro h; rw [h] at hlen; simp only [List.length_nil] at hlen; omega)
      have hA6 := hA.on hb
      have hlc := hA.len; have hcc := hA.cap
      unfold maxLen at hcc
      subst hAe
      obtain ⟨p, hp⟩ : ∃ p : Nat, ((dg x).length : Int) - ((dg y).length : Int) = (p : Int) := ⟨(dg x).length - (dg y).length, by omega⟩
      obtain ⟨T, hT⟩ : ∃ T : Nat, (p : Int) + 1 = (T : Int) := ⟨p + 1, by omega⟩
      have HT : Hid (T + (dg y).length = (dg x).length + 1) := Lib.hid (by omega)
      have hT1 : T ≤ (dg x).length := by omega
      have vX := dg_val x
      have vY := dg_val y
      have dX := dg_dig x
      obtain ⟨D, hD⟩ : ∃ D, (dg x).drop T = D := ⟨_, rfl⟩
      have hDl : (dg x).length - T = D.length := by rw [← hD, List.length_drop]
      have vD : valB 256 D = x / 256 ^ T := by rw [← hD, valB_drop dX hT1, vX]
      have dD : Dig 256 D := by rw [← hD]; exact dX.drop T
      have aD := hA6.arr.drop T
      rw [hD, Nat.mul_one] at aD
      generalize hX : dg x = X at *
      generalize hY : dg y = Y at *
      have HX := Lib.hid hX; have HY := Lib.hid hY; have VX := Lib.hid vX; have VY := Lib.hid vY; have VD := Lib.hid vD; have DX := Lib.hid dX; have DD := Lib.hid dD
      clear hX hY vX vY vD hD dX dD
      go_upto_region 10 with (at_make; refine wpList_mk rfl _ _ 125 rfl 3 i0 _ 8 Tryd.underlying125 hi hz0 hz1 hz2 rfl (fun n : Nat => Value.int .i64 n) 0 rfl _ _ _ _ X.length rfl rfl (by omega) (by omega) (by omega) (by unfold maxLen; omega) ?_; intro w7 ownQ hb7)
      have hDb : D.length ≤ 3000000 := by rw [← hDl]; omega
      go_cut [10] (fun v wx => Dg wx w7.heap.size v (x / 256 ^ T) ∧ Below w7.heap.size w7 wx)
      case first =>
        have cT := fun (w' : World) (A' : Option Addr) (c' : Nat) (h : Dn w' A' c' D) => rtrim_dn h
        simp only [VD.out] at cT
        have aD7 := (aD.on hb7).on (below_alloc (Below.refl _ _) (.cells #[] 3))
        by_cases hTc : T = c
        · have hD0 : D = [] := List.eq_nil_of_length_eq_zero (by omega)
          subst hD0
          subst hTc
          go_wp2_with (at_builtin; refine wpList_app rfl _ _ 125 rfl w7.heap.size 3 i0 _ 1 8 Tryd.underlying125 hi hz0 hz1 hz2 rfl (by decide) (enc := encD) encD_len encD_one _ [] [] _ 0 0 rfl (own_empty w7 w7.heap.size 3 (Nat.le_refl _)) rfl Arr.nil (fun h => by cases h) (by simp) (by decide) (by simp) ?_; intro v8 w8 own8 hb8)
          rw [List.nil_append] at own8
          obtain ⟨A8, c8, hv8, n8⟩ := own_dn own8 DD.out
          rw [hv8] at own8 ⊢
          have ht8 := Own.trimD own8 DD.out
          rw [VD.out] at ht8
          refine (cT _ _ _ n8).mono ?_
          rintro e w9 ⟨rfl, rfl⟩
          go_wp2_with fail
          go_meet
          case rel => exact ⟨ht8, (below_alloc (Below.refl _ _) _).trans hb8⟩
        · go_wp2_with (at_builtin; refine wpList_app rfl _ _ 125 rfl w7.heap.size 3 i0 _ 1 8 Tryd.underlying125 hi hz0 hz1 hz2 rfl (by decide) (enc := encD) encD_len encD_one _ [] D _ _ _ rfl (own_empty w7 w7.heap.size 3 (Nat.le_refl _)) rfl aD7 (fun h => by cases h) (by simp; omega) (by decide) (by simp) ?_; intro v8 w8 own8 hb8)
          rw [List.nil_append] at own8
          obtain ⟨A8, c8, hv8, n8⟩ := own_dn own8 DD.out
          rw [hv8] at own8 ⊢
          have ht8 := Own.trimD own8 DD.out
          rw [VD.out] at ht8
          refine (cT _ _ _ n8).mono ?_
          rintro e w9 ⟨rfl, rfl⟩
          go_wp2_with fail
          go_meet
          case rel => exact ⟨ht8, (below_alloc (Below.refl _ _) _).trans hb8⟩
      obtain ⟨hd8, hb8⟩ := hcut
      have gq := ownQ.g_lt
      have hbc := below_trans hb7 hb8
      have ownQc := ownQ.below hb8
      clear ownQ
      have hxy : Hid (x / 256 ^ T < y) := Lib.hid (div_first HX.out HY.out HT.out hy)
      go_wp2_with fail
      go_loopw [10, 11] (fun v i wr => ∃ (kk : Nat) (Q : List Nat), kk ≤ T ∧ i = .int .i64 ((kk : Int) - 1) ∧ Q.length = X.length ∧ Dig 256 Q ∧ valB 256 Q = x / 256 ^ kk / y * 256 ^ kk ∧ Dg wr w7.heap.size v (x / 256 ^ kk % y) ∧
        Own wr w6.heap.size 3 1 encD (.slice (some ⟨w6.heap.size, 0, none⟩) X.length X.length) Q ∧ w7.heap.size ≤ wr.heap.size ∧ Below w6.heap.size w6 wr) (fun _ i _ => (intOf i + 1).toNat)
      case atStart => exact ⟨T, _, Nat.le_refl _, by go_num, by simp, Dig.rep (by decide) _, by rw [valB_rep, Nat.div_eq_of_lt hxy.out, Nat.zero_mul], by rw [Nat.mod_eq_of_lt hxy.out]; exact hd8, ownQc, hb8.size, hbc⟩
      case round =>
        obtain ⟨kk, Q, hkT, rfl, hQl, dQ, vQ, hdr, ownQ, s79, hb9⟩ := hrel
        have HQl := Lib.hid hQl; have DQ := Lib.hid dQ; have VQ := Lib.hid vQ; have OwnQ := Lib.hid ownQ; have Hdr := Lib.hid hdr
        clear hQl dQ vQ ownQ hdr hd8 ownQc
        cases kk with
        | zero =>
          have nQ := own_dn2 OwnQ.out DQ.out
          have cT := rtrim_dn nQ
          have ht := Own.trimD OwnQ.out DQ.out
          have e1 : valB 256 Q = x / y := by rw [VQ.out]; simp
          rw [e1, HQl.out] at cT
          rw [e1] at ht
          have hdr := Hdr.out
          rw [Nat.pow_zero, Nat.div_one] at hdr
          have Ht := Lib.hid ht; have Hd2 := Lib.hid hdr
          clear e1 ht hdr
          go_wp2_with (go_at_call 123; refine (cT).mono ?_; rintro e w' ⟨rfl, rfl⟩)
          go_ret2
          have s7 := hb7.size
          exact ⟨_, _, rfl, Ht.out.down hb.size, Hd2.out.down (by have := hb.size; omega), hb.trans (hb9.mono hb.size)⟩
        | succ i =>
          have hiX : i < X.length := by omega
          obtain ⟨b1, o1, xi, e1, hb1, hxi, c1⟩ := hA6.arr.dig (k := i) hiX hb9
          obtain ⟨rfl, rfl⟩ : ba = b1 ∧ oa = o1 := by simpa using e1
          have xi1 : xi < 256 := DX.out.get hxi.out
          have hxv : Hid (xi = x / 256 ^ i % 256) := Lib.hid (by have := dg_at x i; rw [HX.out, hxi.out] at this; exact this)
          obtain ⟨R, hR⟩ : ∃ R, x / 256 ^ (i + 1) % y = R := ⟨_, rfl⟩
          have hRy : R < y := by rw [← hR]; exact Nat.mod_lt _ hy
          have hdr := Hdr.out
          rw [hR] at hdr
          obtain ⟨A1, k1, rfl, n1⟩ := hdr.dn
          have HR := Lib.hid hR
          have lR : (dg R).length ≤ 3000000 := by
            have : (dg R).length ≤ (dg y).length := digB_mono b8 (Nat.le_of_lt hRy)
            rw [HY.out] at this; omega
          obtain ⟨U, hU⟩ : ∃ U, xi + 256 * R = U := ⟨_, rfl⟩
          have HU := Lib.hid hU
          have vU : valB 256 ([xi] ++ dg R) = U := by rw [valB_app, valB_one, dg_val]; simpa using hU
          have dU : Dig 256 ([xi] ++ dg R) := (Dig.cons xi1 Dig.nil).app (dg_dig R)
          have VU := Lib.hid vU; have DU := Lib.hid dU
          have cT := fun (w' : World) (A' : Option Addr) (c' : Nat) (h : Dn w' A' c' ([xi] ++ dg R)) => rtrim_dn h
          simp only [VU.out] at cT
          have s9 := hb9.size
          clear hR hdr vU dU e1 hU
          go_wp2_with (at_builtin; refine wpList_app rfl _ _ 125 rfl wr.heap.size 3 i0 _ 1 8 Tryd.underlying125 hi hz0 hz1 hz2 rfl (by decide) (enc := encD) encD_len encD_one _ [xi] (dg R) _ _ _ rfl (World.ownsRow_lit (size := 1) wr #[.int .i64 (xi : Int)] 1 (Nat.le_refl _) (by unfold maxLen; omega) rfl) rfl (n1.on (below_alloc (Below.refl _ _) _)).arr n1.nil (by simp; omega) (by decide) (by simp) ?_; intro v8 w8 own8 hb8')
          obtain ⟨A8, c8, hv8, n8⟩ := own_dn own8 DU.out
          rw [hv8] at own8 ⊢
          have ht8 := Own.trimD own8 DU.out
          rw [VU.out] at ht8
          refine (cT _ _ _ n8).mono ?_
          rintro e w9 ⟨rfl, rfl⟩
          have b98 : Below wr.heap.size wr w8 := (below_alloc (Below.refl _ _) _).trans hb8'
          have hb98 : Below w6.heap.size w6 w8 := hb9.trans (b98.mono hb9.size)
          have s98 : w7.heap.size ≤ w8.heap.size := by have := b98.size; omega
          have OwnQ8 := Lib.hid (OwnQ.out.below b98)
          have hQ0 : Q[i]? = some 0 := by
            have h0 := List.getElem?_eq_getElem (l := Q) (i := i) (by rw [HQl.out]; exact hiX)
            rw [h0, ← digit_of DQ.out h0, VQ.out, Nat.pow_succ, Nat.mul_comm (256 ^ i), ← Nat.mul_assoc, Nat.mul_div_cancel _ (Nat.pow_pos (by decide)), Nat.mul_mod_left]
          have HQ0 := Lib.hid hQ0
          have Ht8 := Lib.hid (ht8.down s79)
          have hUy : Hid (U < y * 2 ^ 8) := Lib.hid (by rw [← HU.out]; omega)
          have lU : Hid (∀ ρ, ρ ≤ U → (dg ρ).length ≤ 3000008) := Lib.hid (fun ρ hρ => by
            have h1 := dg_len_mul y 8
            have h2 : (dg ρ).length ≤ (dg (y * 2 ^ 8)).length := digB_mono b8 (by have := hUy.out; omega)
            rw [HY.out] at h1; omega)
          have lY : Hid (∀ j, j ≤ 8 → (dg (y * 2 ^ j)).length ≤ 3000008) := Lib.hid (fun j hj => by
            have h1 := dg_len_mul y j
            rw [HY.out] at h1; omega)
          clear hQ0 ht8 cT own8 n8 hv8
          go_wp2_with fail
          go_loopw [10, 12] (fun v kv wx => ∃ (t z ρ : Nat), t ≤ 8 ∧ kv = .int .i64 ((t : Int) - 1) ∧ z < 2 ^ (8 - t) ∧ z * (y * 2 ^ t) + ρ = U ∧ ρ < y * 2 ^ t ∧ Dg wx w7.heap.size v ρ ∧ Own wx w6.heap.size 3 1 encD (.slice (some ⟨w6.heap.size, 0, none⟩) X.length X.length) (Q.set i z) ∧
            w7.heap.size ≤ wx.heap.size ∧ Below w6.heap.size w6 wx) (fun _ kv _ => (intOf kv + 1).toNat)
          case atStart => exact ⟨8, 0, U, Nat.le_refl _, by go_num, by decide, by simp, hUy.out, Ht8.out, by rw [set_same HQ0.out]; exact OwnQ8.out, s98, hb98⟩
          case round =>
            obtain ⟨t, z, ρ, ht, rfl, hz, hzU, hρ, hdr, ownQ, s7x, hbx⟩ := hrel
            have HzU := Lib.hid hzU; have Hρ := Lib.hid hρ; have Hz := Lib.hid hz; have OwnQx := Lib.hid ownQ; have Hdx := Lib.hid hdr
            have z256 : z < 256 := Nat.lt_of_lt_of_le hz (by have : 2 ^ (8 - t) ≤ 2 ^ 8 := Nat.pow_le_pow_right (by decide) (by omega); exact this)
            clear hzU hρ hz ownQ hdr
            cases t with
            | zero =>
              obtain ⟨r1, r2⟩ := div_round (x := x) (y := y) (i := i) hxv.out HR.out HU.out (by simpa using HzU.out) (by simpa using Hρ.out)
              have vQ' : valB 256 (Q.set i z) = x / 256 ^ i / y * 256 ^ i := by
                have h1 := valB_set (b := 256) (y := z) HQ0.out
                rw [VQ.out] at h1
                rw [r1, Nat.add_mul]
                rw [Nat.pow_succ] at h1
                have e2 : x / (256 ^ i * 256) / y * (256 ^ i * 256) = 256 * (x / (256 ^ i * 256) / y) * 256 ^ i := by
                  simp only [Nat.mul_comm, Nat.mul_left_comm, Nat.mul_assoc]
                rw [e2] at h1
                have e3 : 256 ^ i * z = z * 256 ^ i := Nat.mul_comm _ _
                rw [Nat.pow_succ]
                omega
              have VQ' := Lib.hid vQ'
              have dr := Hdx.out
              rw [← r2] at dr
              have Dr := Lib.hid dr
              clear vQ' dr r1 r2
              go_wp2_with fail
              go_roundw
              case rel => first | exact ⟨i, Q.set i z, by omega, by go_num, by rw [List.length_set]; exact HQl.out, DQ.out.set z256 i, VQ'.out, Dr.out, OwnQx.out, s7x, hbx⟩ | ((repeat apply Exists.intro); exact ⟨⟨i, Q.set i z, by omega, by go_num, by rw [List.length_set]; exact HQl.out, DQ.out.set z256 i, VQ'.out, Dr.out, OwnQx.out, s7x, hbx⟩, rfl⟩)
              case measure => (simp [intOf] <;> omega)
            | succ j =>
              have lQs : (Q.set i z).length = X.length := by rw [List.length_set]; exact HQl.out
              have atz : (Q.set i z)[i]? = some z := by rw [List.getElem?_set_self (by rw [HQl.out]; exact hiX)]
              have d0 := Own.at1 (f := fun n : Nat => Value.int .i64 n) OwnQx.out lQs atz
              have d1 := Own.fr1 (f := fun n : Nat => Value.int .i64 n) OwnQx.out lQs i
              obtain ⟨z2, hz2⟩ : ∃ z2 : Nat, 2 * (z : Int) = (z2 : Int) := ⟨2 * z, by omega⟩
              have hz2e : Hid (z2 = 2 * z) := Lib.hid (by omega)
              have o2 := Own.set1 (f := fun n : Nat => Value.int .i64 n) OwnQx.out lQs i z2
              rw [List.set_set] at o2
              have OQ2 := Lib.hid o2
              obtain ⟨Ad, cd, kd, nd⟩ := Hget.out j (by omega)
              have hb2 : Below w6.heap.size w6 (wr.setCell ⟨w6.heap.size, i, none⟩ (.int .i64 (z2 : Int))) := hbx.setCell (Nat.le_refl _) _
              have kd2 := bel_cell hb2 kd
              obtain ⟨Ar, cr, rfl, nr⟩ := Hdx.out.dn
              have or2 := Own.keep_lt (g := w6.heap.size) Hdx.out (grown_set wr w6.heap.size i (.int .i64 (z2 : Int))) gq
              have nr2 := own_dn2 or2 (dg_dig ρ)
              have lρ := lU.out ρ (by have := HzU.out; omega)
              have ld := lY.out j (by omega)
              have sz2 : w7.heap.size ≤ (wr.setCell ⟨w6.heap.size, i, none⟩ (.int .i64 (z2 : Int))).heap.size := by simp; omega
              have cC := rcmp_any Ar cr ρ Ad cd (y * 2 ^ j) _ nr2 (nd.on hb2) (by omega) (by omega)
              have Or2 := Lib.hid or2; have Nr2 := Lib.hid nr2
              clear lQs atz o2 or2 nr2 nr
              have hj8 : j < 8 := by omega
              rcases Nat.lt_or_ge ρ (y * 2 ^ j) with hlt | hge
              · rw [cmpI_lt hlt] at cC
                have Hlt := Lib.hid hlt
                have hzz : Hid (z2 < 2 ^ (8 - j) ∧ z2 * (y * 2 ^ j) + ρ = U) := Lib.hid (div_bit0 Hz.out HzU.out hz2e.out (by omega))
                clear hlt
                go_wp2_with (go_at_call 140; refine (cC).mono ?_; rintro e w10 ⟨rfl, hb10⟩)
                have s10 := hb10.size
                go_roundw
                case rel => first | exact ⟨j, z2, ρ, by omega, by go_num, hzz.out.1, hzz.out.2, Hlt.out, Or2.out.below hb10, OQ2.out.below hb10, by omega, hb2.trans (hb10.mono hb2.size)⟩ | ((repeat apply Exists.intro); exact ⟨⟨j, z2, ρ, by omega, by go_num, hzz.out.1, hzz.out.2, Hlt.out, Or2.out.below hb10, OQ2.out.below hb10, by omega, hb2.trans (hb10.mono hb2.size)⟩, rfl⟩)
                case measure => (simp [intOf] <;> omega)
              · obtain ⟨cv, hcv, hcv0⟩ : ∃ cv, cmpI ρ (y * 2 ^ j) = cv ∧ 0 ≤ cv := ⟨_, rfl, by unfold cmpI; split <;> (try split) <;> omega⟩
                rw [hcv] at cC
                have Hge := Lib.hid hge
                have hzz : Hid (z2 + 1 < 2 ^ (8 - j) ∧ (z2 + 1) * (y * 2 ^ j) + (ρ - y * 2 ^ j) = U ∧ ρ - y * 2 ^ j < y * 2 ^ j ∧ z2 + 1 < 256) := Lib.hid (div_bit1 Hz.out HzU.out hz2e.out Hρ.out hge (by omega))
                clear hge hcv
                have lQ2 : (Q.set i z2).length = X.length := by rw [List.length_set]; exact HQl.out
                have atz2 : (Q.set i z2)[i]? = some z2 := by rw [List.getElem?_set_self (by rw [HQl.out]; exact hiX)]
                have LQ2 := Lib.hid lQ2; have At2 := Lib.hid atz2
                clear lQ2 atz2
                go_wp2_with (go_at_call 140; refine (cC).mono ?_; rintro e w10 ⟨rfl, hb10⟩; have kd10 := bel_cell hb10 kd2)
                have b10 : Below w6.heap.size w6 w10 := hb2.trans (hb10.mono hb2.size)
                have cS := rsub_any Ar cr (dg ρ) Ad cd (dg (y * 2 ^ j)) w10 (Nr2.out.on hb10) (nd.on b10) (by omega) (by omega) (by rw [dg_val, dg_val]; exact Hge.out)
                rw [dg_val, dg_val] at cS
                refine cS.mono ?_
                rintro e w11 ⟨v11, rfl, dg11, hb11⟩
                have own11 := (OQ2.out.below hb10).below hb11
                have d0' := Own.at1 (f := fun n : Nat => Value.int .i64 n) own11 LQ2.out At2.out
                have d1' := Own.fr1 (f := fun n : Nat => Value.int .i64 n) own11 LQ2.out i
                obtain ⟨z3, hz3⟩ : ∃ z3 : Nat, (z2 : Int) + 1 = (z3 : Int) := ⟨z2 + 1, by omega⟩
                have hz3e : Hid (z3 = z2 + 1) := Lib.hid (by omega)
                have o3 := Own.set1 (f := fun n : Nat => Value.int .i64 n) own11 LQ2.out i z3
                rw [List.set_set] at o3
                have O3 := Lib.hid o3
                have s10 := hb10.size
                have s11 := hb11.size
                have sz3 : w7.heap.size ≤ (w11.setCell ⟨w6.heap.size, i, none⟩ (.int .i64 (z3 : Int))).heap.size := by simp; omega
                have r11 := Lib.hid (Own.keep_lt (g := w6.heap.size) dg11 (grown_set w11 w6.heap.size i (.int .i64 (z3 : Int))) (by omega))
                have z2b : z2 + 1 < 256 := hzz.out.2.2.2
                have b11 : Below w6.heap.size w6 w11 := b10.trans (hb11.mono b10.size)
                have hzz3 : Hid (z3 < 2 ^ (8 - j) ∧ z3 * (y * 2 ^ j) + (ρ - y * 2 ^ j) = U ∧ ρ - y * 2 ^ j < y * 2 ^ j) := Lib.hid (by rw [hz3e.out]; exact ⟨hzz.out.1, hzz.out.2.1, hzz.out.2.2.1⟩)
                clear o3 own11 dg11 cS kd2 d0 d1
                go_wp2_with fail
                go_roundw
                case rel => first | exact ⟨j, z3, ρ - y * 2 ^ j, by omega, by go_num, hzz3.out.1, hzz3.out.2.1, hzz3.out.2.2, Own.down r11.out (by omega), O3.out, sz3, b11.setCell (Nat.le_refl _) _⟩ | ((repeat apply Exists.intro); exact ⟨⟨j, z3, ρ - y * 2 ^ j, by omega, by go_num, hzz3.out.1, hzz3.out.2.1, hzz3.out.2.2, Own.down r11.out (by omega), O3.out, sz3, b11.setCell (Nat.le_refl _) _⟩, rfl⟩)
                case measure => (simp [intOf] <;> omega)

end Go.Proofs.YtliekcfcdfakjaaDoor
