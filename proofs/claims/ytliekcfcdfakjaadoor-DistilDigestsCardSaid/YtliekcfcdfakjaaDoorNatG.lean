/- Contract of exact's split. For numbers of at most a million limbs. -/
import Derived.Test.YtliekcfcdfakjaaDoorNatF
import Derived.Test.YtliekcfcdfakjaaDoorTail
namespace Go.Proofs.YtliekcfcdfakjaaDoor
open Go.RowKit
set_option linter.unusedVariables false
set_option linter.unusedSimpArgs false

theorem Nt.trim {w : World} {A : Option Addr} {c : Nat} {l : List Nat} (h : Nt w A c l) : Nt w A c (limbs (V l)) := by
  have h1 := h.arr.take (trimL l).length
  rw [← trimL_take, trim_limbs h.dig] at h1
  have h2 := trimL_le l
  rw [trim_limbs h.dig] at h2
  exact ⟨h1, Nat.le_trans h2 h.len, h.cap, limbs_dig _, h.nil⟩
theorem limbs_le {l : List Nat} (h : Dig B32 l) : (limbs (V l)).length ≤ l.length := by
  rw [← trim_limbs h]; exact trimL_le l
theorem trim_nt {A : Option Addr} {c : Nat} {l : List Nat} {w : World} (h : Nt w A c l) :
    Calls Tryd.prog 77 #[.slice A l.length c] w fun e w' => e = .returned (.slice A (limbs (V l)).length c) ∧ w = w' := by
  rw [← trim_limbs h.dig]; exact trim_any A c l w h.arr h.len h.cap
theorem V_lt {l : List Nat} (h : Dig B32 l) : V l < 2 ^ (32 * l.length) := by rw [← b32_pow]; exact valB_lt h
theorem V_le_len {l : List Nat} (h : Dig B32 l) : bitLen (V l) ≤ 32 * l.length := bitLen_le (V_lt h)
theorem V_app (l m : List Nat) : V (l ++ m) = V l + B32 ^ l.length * V m := valB_app l m
theorem V_rep (n : Nat) : V (List.replicate n 0) = 0 := valB_rep n
theorem Own.keep_lt {α : Type} {w w' : World} {base e sz g : Nat} {enc : α → List Value} {v : Value} {l : List α} (h : Own w base e sz enc v l) (hg : w.grownBy w' (some g)) (hlt : g < base) : Own w' base e sz enc v l := by
  refine h.keep hg ?_
  cases hv : v.ownBlock with
  | none => exact .inl rfl
  | some k => exact .inr fun h' => by have := (World.ownsRow.lt h k hv).1; cases h'; omega
theorem own_nt2 {w : World} {base : Nat} {A : Option Addr} {n c : Nat} {l : List Nat} (h : Own w base 98 1 enc32 (.slice A n c) l) (hd : Dig B32 l) : Nt w A c l := by
  obtain ⟨A1, c1, hv1, hn1⟩ := own_nt h hd
  simp only [Value.slice.injEq] at hv1
  obtain ⟨rfl, _, rfl⟩ := hv1
  exact hn1
theorem or_limb {z s : Nat} (hz : z < 4294967296) (hs : s < 32) (h : z / 2 ^ s % 2 = 0) : ∃ y : Nat, bits .or .u32 (z : Int) ((2 : Int) ^ s % 4294967296) = (y : Int) ∧ Hid (y = z + 2 ^ s ∧ y < B32) := by
  refine ⟨z + 2 ^ s, ?_, Lib.hid ⟨rfl, bit_lt hz hs h⟩⟩
  have hp : 2 ^ s < 4294967296 := by
    have h : 2 ^ s < 2 ^ 32 := Nat.pow_lt_pow_right (by decide) hs
    exact h
  have h1 := u32_or_nat z (2 ^ s) hz hp
  rw [or_pow h] at h1
  rw [← h1]
  congr 1
  have e : ((2 ^ s : Nat) : Int) = (2 : Int) ^ s := by simp
  rw [← e]
  generalize 2 ^ s = X at *
  omega
theorem double_fits {b x y X Y h e d : Nat} (hX : X = Y * b) (hb : 2 ≤ b) (hv : x + X * h = 2 * y + e) (hR : y < d) (hd : d ≤ Y) (he : e ≤ 1) : x = 2 * y + e := by
  rcases Nat.eq_zero_or_pos h with rfl | hp
  · simpa using hv
  · have h1 : X * 1 ≤ X * h := Nat.mul_le_mul_left _ hp
    have h2 : Y * 2 ≤ Y * b := Nat.mul_le_mul_left _ hb
    omega

set_option maxRecDepth 100000 in
set_option maxHeartbeats 4000000 in
theorem split_any (A : Option Addr) (c : Nat) (l : List Nat) (C : Option Addr) (dc : Nat) (m : List Nat) (w : World) (hA : Nt w A c l) (hC : Nt w C dc m) (hl : l.length ≤ 1000000) (hm : m.length ≤ 1000000) (hd : 0 < V m) :
    Calls Tryd.prog 109 #[.slice A l.length c, .slice C m.length dc] w fun e w' => ∃ v1 v2, e = .returned (.tuple #[v1, v2]) ∧ Big w' w.heap.size v1 (V l / V m) ∧ Big w' w.heap.size v2 (V l % V m) ∧ Below w.heap.size w w' := by
  obtain ⟨i0, hi, hz0, hz1, hz2⟩ := info_parts u32_info
  have cT := trim_nt hC
  have k1 := limbs_le hC.dig
  have ntL := hC.trim
  have vL := V_limbs (V m)
  have bnd := V_le_len hA.dig
  generalize limbs (V m) = L at *
  obtain ⟨D, hD⟩ : ∃ D, V m = D := ⟨_, rfl⟩
  rw [hD] at hd vL ⊢
  have hDle : Hid (D ≤ B32 ^ L.length) := Lib.hid (by rw [← vL]; exact Nat.le_of_lt (valB_lt ntL.dig))
  have VL := Lib.hid vL
  have Bnd := Lib.hid bnd
  clear vL bnd hD
  obtain ⟨N, hN⟩ : ∃ N : Nat, (L.length : Int) + 1 = (N : Int) := ⟨L.length + 1, by omega⟩
  have HN : Hid (N = L.length + 1) := Lib.hid (by omega)
  have n3 : N ≤ 1000001 := by omega
  have n0 : 0 < N := by omega
  go_enter Tryd.func109, Tryd.ntmps109
  go_wp2_with (first
    | (go_at_call 77; refine (cT).mono ?_; rintro e w' ⟨rfl, rfl⟩)
    | (go_at_call 98; refine (size_any A c l _ (hA.on hb4) hl).mono ?_; rintro e w' ⟨rfl, rfl⟩)
    | (at_make; refine wpList_mk rfl _ _ 50 rfl 98 i0 _ 4 Tryd.underlying50 hi hz0 hz1 hz2 rfl (fun n : Nat => Value.int .u32 n) 0 rfl _ _ _ _ l.length rfl rfl rfl rfl (by omega) (by unfold maxLen; omega) ?_; intro w3 hown3 hb3)
    | (at_make; refine wpList_mk rfl _ _ 50 rfl 98 i0 _ 4 Tryd.underlying50 hi hz0 hz1 hz2 rfl (fun n : Nat => Value.int .u32 n) 0 rfl _ _ _ _ N rfl rfl rfl rfl (by omega) (by unfold maxLen; omega) ?_; intro w4 hown4 hb4'; have hb4 := below_trans hb3 hb4'))
  have hsz3 := hb3.size
  have gq := hown3.g_lt
  have Gq : Hid (w.heap.size ≠ w3.heap.size) := Lib.hid (by omega)
  have HownQ := hown3.below hb4'
  clear cT hown3 hN
  go_loopw [8] (fun i wr => ∃ (k : Nat) (Q R : List Nat), k ≤ bitLen (V l) ∧ i = .int .i64 ((k : Int) - 1) ∧ Q.length = l.length ∧ R.length = N ∧ Dig B32 Q ∧ Dig B32 R ∧ V R = V l / 2 ^ k % D ∧ V Q = V l / 2 ^ k / D * 2 ^ k ∧
    Own wr w.heap.size 98 1 enc32 (.slice (some ⟨w.heap.size, 0, none⟩) l.length l.length) Q ∧ Own wr w.heap.size 98 1 enc32 (.slice (some ⟨w3.heap.size, 0, none⟩) N N) R ∧ Below w.heap.size w wr) (fun i _ => (intOf i + 1).toNat)
  case atStart =>
    have bl := Bnd.out
    have bw : wrap64 ((bitLen (V l) : Int) - 1) = (bitLen (V l) : Int) - 1 := IntWalk.wrap64_in _ (by omega)
    have e0 : V l / 2 ^ bitLen (V l) = 0 := Nat.div_eq_of_lt (bitLen_lt _)
    exact ⟨_, _, _, Nat.le_refl _, by rw [bw], by simp, by simp, Dig.rep (by decide) _, Dig.rep (by decide) _, by rw [e0, V_rep]; simp, by rw [e0, V_rep]; simp, HownQ, hown4.down hsz3, hb4⟩
  case round =>
    obtain ⟨k, Q, R, hk, rfl, hQl, hRl, dQ, dR, vR, vQ, ownQ, ownR, hb⟩ := hrel
    have HQl := Lib.hid hQl; have HRl := Lib.hid hRl; have DQ := Lib.hid dQ; have DR := Lib.hid dR; have VR := Lib.hid vR; have VQ := Lib.hid vQ
    have OwnQ := Lib.hid ownQ; have OwnR := Lib.hid ownR
    clear hQl hRl dQ dR vR vQ ownQ ownR
    cases k with
    | zero =>
      have ntQ := own_ntf OwnQ.out DQ.out
      have ntR := own_ntf OwnR.out DR.out
      have cQ := trim_nt ntQ
      have cR := clone_any _ _ R wr ntR (by rw [HRl.out]; omega)
      rw [HQl.out] at cQ
      rw [HRl.out] at cR
      have vq : V Q = V l / D := by rw [VQ.out]; simp
      have vr : V R = V l % D := by rw [VR.out]; simp
      have bq : Big wr w.heap.size (.slice (some ⟨w.heap.size, 0, none⟩) (limbs (V Q)).length l.length) (V Q) := by
        rw [← trim_limbs DQ.out]; exact Own.trim OwnQ.out DQ.out
      rw [vq] at cQ bq
      rw [vr] at cR
      have Bq := Lib.hid bq
      clear vq vr bq
      go_wp2_with (first | (go_at_call 77; refine (cQ).mono ?_; rintro e w' ⟨rfl, rfl⟩) | (go_at_call 73; refine cR.mono ?_; rintro e w5 ⟨v, rfl, bR, hb5⟩))
      go_ret2
      exact ⟨_, _, rfl, Bq.out.below hb5, bR.down hb.size, hb.trans (hb5.mono hb.size)⟩
    | succ j =>
      have b32l := Bnd.out
      have cB := bit_any A c l j wr (hA.on hb) hl (by omega)
      obtain ⟨e, he⟩ : ∃ e, V l / 2 ^ j % 2 = e := ⟨_, rfl⟩
      have he1 : e ≤ 1 := by omega
      rw [he] at cB
      have hj : j < 32000000 := by omega
      have cD := double_any w3.heap.size R e w.heap.size N wr OwnR.out HRl.out DR.out (by omega) he1
      have He := Lib.hid he
      have Hk := Lib.hid hk
      clear he b32l hk
      go_wp2_with (first | (go_at_call 127; refine (cB).mono ?_; rintro e w' ⟨rfl, rfl⟩) | (go_at_call 126; refine cD.mono ?_; rintro e' w5 ⟨rfl, R', hh, hRl', dR', vR', ownR', gr5⟩))
      have hb5 : Below w.heap.size w w5 := hb.grown gr5 hb.size (fun q hq => by cases hq; omega)
      have nR' := own_ntf ownR' dR'
      have cO := order_any _ _ R' C dc L w5 nR'.arr (ntL.on hb5).arr nR'.len nR'.cap ntL.len ntL.cap dR' ntL.dig
      rw [hRl', VL.out] at cO
      have vR2 : V R' = 2 * V R + e := by
        rw [HN.out] at vR'
        exact double_fits (Nat.pow_succ ..) b32 vR' (by rw [VR.out]; exact Nat.mod_lt _ hd) hDle.out he1
      have ownQ5 : Own w5 w.heap.size 98 1 enc32 (.slice (some ⟨w.heap.size, 0, none⟩) l.length l.length) Q := OwnQ.out.keep gr5 (.inr (by simp [Value.ownBlock]; exact Gq.out))
      have eN := half_bit (V l) j
      rw [He.out] at eN
      rw [VR.out] at vR2
      have HR2 := Lib.hid vR2; have HeN := Lib.hid eN; have HRl' := Lib.hid hRl'; have DR' := Lib.hid dR'; have OwnR' := Lib.hid ownR'; have NR' := Lib.hid nR'; have OwnQ5 := Lib.hid ownQ5
      clear vR2 eN hRl' dR' vR' ownR' nR' ownQ5 cB cD
      rcases Nat.lt_or_ge (V R') D with hlt | hge
      · have dl := div_less hd (by rw [← HR2.out]; exact hlt)
        rw [← HeN.out] at dl
        rw [cmpI_lt hlt] at cO
        have DL := Lib.hid dl
        clear dl hlt
        go_wp2_with (go_at_call 80; refine (cO).mono ?_; rintro e w6 ⟨rfl, hb6⟩)
        have hb6' : Below w.heap.size w w6 := hb5.trans (hb6.mono hb5.size)
        have vq : V Q = V l / 2 ^ j / D * 2 ^ j := by
          rw [VQ.out, DL.out.1, Nat.pow_succ]; simp only [Nat.mul_comm, Nat.mul_left_comm, Nat.mul_assoc]
        go_roundw
        case rel => exact ⟨j, Q, R', by have := Hk.out; omega, by go_num, HQl.out, HRl'.out, DQ.out, DR'.out, by rw [DL.out.2]; exact HR2.out, vq, OwnQ5.out.below hb6, OwnR'.out.below hb6, hb6'⟩
        case measure => (simp [intOf] <;> omega)
      · have dl := div_more hd (by rw [← HR2.out]; exact hge) he1
        rw [← HeN.out] at dl
        obtain ⟨cv, hcv, hcv0⟩ : ∃ cv, cmpI (V R') D = cv ∧ 0 ≤ cv := ⟨_, rfl, by unfold cmpI; split <;> (try split) <;> omega⟩
        rw [hcv] at cO
        have DL := Lib.hid dl; have Hge := Lib.hid hge
        clear dl hcv hge
        go_wp2_with (go_at_call 80; refine (cO).mono ?_; rintro e w6 ⟨rfl, hb6⟩)
        have hb6' : Below w.heap.size w w6 := hb5.trans (hb6.mono hb5.size)
        have cM := minus_any _ _ R' C dc L w6 (NR'.out.on hb6) (ntL.on hb6') (by rw [HRl'.out]; omega) (by omega) (by rw [VL.out]; exact Hge.out)
        rw [HRl'.out, VL.out] at cM
        refine cM.mono ?_
        rintro e' w7 ⟨v, rfl, big7, hb7⟩
        obtain ⟨A1, c1, hv, nt7⟩ := big7.nt
        rw [hv]
        unfold Big at big7
        rw [hv] at big7
        have vl7 := V_limbs (V R' - D)
        have dl7 := limbs_dig (V R' - D)
        have len7 : (limbs (V R' - D)).length ≤ N := by
          have h1 : V R' - D < B32 ^ N := by
            have := valB_lt DR'.out
            rw [HRl'.out] at this
            unfold V; omega
          exact digB_len_le b32 h1
        generalize limbs (V R' - D) = T at *
        have Vl7 := Lib.hid vl7; have Dl7 := Lib.hid dl7
        have lt6 : w3.heap.size < w6.heap.size := (OwnR'.out.below hb6).g_lt
        have ownR7 := (OwnR'.out.below hb6).below hb7
        have OwnQ7 := Lib.hid ((OwnQ5.out.below hb6).below hb7)
        have hb7' : Below w.heap.size w w7 := hb6'.trans (hb7.mono hb6'.size)
        have Big7 := Lib.hid big7
        clear big7 hv vl7 nt7 cM cO dl7
        go_wp2_with (first
          | (refine wpList_clr rfl _ 50 rfl 98 Tryd.underlying50 (.int .u32 0) u32_zero rfl rfl (f := fun n : Nat => Value.int .u32 n) 0 rfl rfl ownR7 HRl'.out n0 ?_; intro w8 ownR8 gr8; have ar8 := (own_nt2 (Big7.out.keep_lt gr8 lt6) Dl7.out).arr)
          | (refine wpList_cp2 rfl _ _ 50 50 rfl 98 Tryd.underlying50 u32_size (f := fun n : Nat => Value.int .u32 n) (fun _ => rfl) (m := T) rfl rfl ownR8 (by simp) ar8 len7 ?_; intro w9 ownR9 gr9))
        have gr79 := grown_trans gr8 gr9
        have ownQ9 := OwnQ7.out.keep gr79 (.inr (by simp [Value.ownBlock]; exact Gq.out))
        have hb9 : Below w.heap.size w w9 := hb7'.grown gr79 hb7'.size (fun q hq => by cases hq; omega)
        have len9 : (T ++ List.drop T.length (List.replicate N 0)).length = N := by simp; omega
        have v9 : V (T ++ List.drop T.length (List.replicate N 0)) = V l / 2 ^ j % D := by
          rw [List.drop_replicate, V_app, V_rep, Nat.mul_zero, Nat.add_zero, Vl7.out, DL.out.2, HR2.out]
        have d9 : Dig B32 (T ++ List.drop T.length (List.replicate N 0)) := by
          rw [List.drop_replicate]; exact Dl7.out.app (Dig.rep (by decide) _)
        generalize T ++ List.drop T.length (List.replicate N 0) = R9 at *
        have hjl : j / 32 < l.length := by have := Bnd.out; have := Hk.out; omega
        obtain ⟨z, hz⟩ : ∃ z, Q[j / 32]? = some z := ⟨_, List.getElem?_eq_getElem (by rw [HQl.out]; exact hjl)⟩
        have z1 : z < 4294967296 := DQ.out.get hz
        have zf : z / 2 ^ (j % 32) % 2 = 0 := by rw [← bit_val hz DQ.out]; exact bit_free VQ.out
        have c9 := later_cell (Own.at1 (f := fun n : Nat => Value.int .u32 n) ownQ9 HQl.out hz)
        have Hz := Lib.hid hz; have Zf := Lib.hid zf
        clear hz zf
        go_simp
        refine wp_region_tail 10 (by kernel_rfl) (by kernel_rfl) ?_
        simp only [List.take_succ_cons, List.take_zero, List.drop_succ_cons, List.drop_zero]
        repeat (go_big_quiet_step (fail))
        refine wpQuiet_nil ?_
        rintro w10 ⟨⟨_, hb10⟩, rfl⟩
        have ownQ10 := ownQ9.below hb10
        have d0 := Own.at1 (f := fun n : Nat => Value.int .u32 n) ownQ10 HQl.out Hz.out
        have d1 := Own.fr1 (f := fun n : Nat => Value.int .u32 n) ownQ10 HQl.out (j / 32)
        obtain ⟨y, ey, hy⟩ := or_limb z1 (s := j % 32) (by omega) Zf.out
        have vQ9 : V (Q.set (j / 32) y) = V l / 2 ^ j / D * 2 ^ j := by
          rw [hy.out.1, set_bit Hz.out, VQ.out, DL.out.1, Nat.pow_succ, Nat.add_mul, Nat.one_mul]
          simp only [Nat.mul_comm, Nat.mul_left_comm, Nat.mul_assoc]
        have Hset : Hid (Own (w10.setCell ⟨w.heap.size, j / 32, none⟩ (.int .u32 (y : Int))) w.heap.size 98 1 enc32 (.slice (some ⟨w.heap.size, 0, none⟩) l.length l.length) (Q.set (j / 32) y)) := Lib.hid (Own.set1 (f := fun n : Nat => Value.int .u32 n) ownQ10 HQl.out (j / 32) y)
        have HR10 : Hid (Own (w10.setCell ⟨w.heap.size, j / 32, none⟩ (.int .u32 (y : Int))) w.heap.size 98 1 enc32 (.slice (some ⟨w3.heap.size, 0, none⟩) N N) R9) := Lib.hid ((ownR9.below hb10).keep (grown_set w10 w.heap.size (j / 32) (.int .u32 (y : Int))) (.inr (by simp [Value.ownBlock]; exact Gq.out.symm)))
        have VQ9 := Lib.hid vQ9; have V9 := Lib.hid v9; have D9 := Lib.hid d9; have L9 := Lib.hid len9
        clear vQ9 v9 d9 len9 c9 ownR9 ownR8 ar8
        go_wp2
        go_roundw
        case rel => exact ⟨j, Q.set (j / 32) y, R9, by have := Hk.out; omega, by go_num, by rw [List.length_set]; exact HQl.out, L9.out, DQ.out.set hy.out.2 _, D9.out, V9.out, VQ9.out, Hset.out, HR10.out, (hb9.trans (hb10.mono hb9.size)).setCell (Nat.le_refl _) _⟩
        case measure => (simp [intOf] <;> omega)

end Go.Proofs.YtliekcfcdfakjaaDoor
