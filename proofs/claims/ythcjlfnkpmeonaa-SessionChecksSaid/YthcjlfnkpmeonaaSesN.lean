/- The walk of SessionChecks. For any setup, letter, numbers and rules. -/
import Derived.Test.YthcjlfnkpmeonaaSesM
namespace Go.Proofs.Ythcjlfnkpmeonaa
open Go.RowKit
set_option linter.unusedVariables false
set_option linter.unusedSimpArgs false

set_option maxRecDepth 100000 in
set_option maxHeartbeats 16000000 in
theorem sess_any (s : Stp) (l : Ltr) (W side : Int) (R : Option Addr) (cr : Nat) (r : List Rul) (x : Nat) (w : World) (hs : s.In w) (hl : l.In w) (hR : Arr 5 Rul.enc w w.heap.size R r) (nR : R = none → cr = 0) (hr : r.length ≤ cr) (hx : x < 256) :
    Calls Try.prog 3 #[s.val, l.val, .int .i64 W, .int .i64 side, .slice R r.length cr, .int .u8 (x : Int)] w fun e w' => e = .returned (.bool true) ∧ Below w.heap.size w w' := by
  have b1 := below_alloc (Below.refl w.heap.size w) (.cells s.cs 35)
  have At1 := StpAt.new w s
  have b2 := below_alloc (Below.refl (w.alloc (.cells s.cs 35)).heap.size (w.alloc (.cells s.cs 35))) (.cells l.cs 38)
  have At2 := At1.on b2
  have Lt2 := LtrAt.new (w.alloc (.cells s.cs 35)) l
  have q2 := below_trans b1 b2
  have hsz : (Try.prog.info? 35).map (·.size) = some s.cs.size := (show (Try.prog.info? 35).map (·.size) = some 34 by kernel_rfl)
  have hszl : (Try.prog.info? 38).map (·.size) = some l.cs.size := (show (Try.prog.info? 38).map (·.size) = some 5 by kernel_rfl)
  have cG := fun w' => great_any s w'
  unfold Stp.val at cG ⊢
  unfold Ltr.val
  simp only [World.size_alloc] at Lt2
  go_enter Try.func3, Try.ntmps3
  go_upto_region 1 with fail
  obtain ⟨w2, hw2⟩ : ∃ w2, (w.alloc (.cells s.cs 35)).alloc (.cells l.cs 38) = w2 := ⟨_, rfl⟩
  rw [hw2] at q2 At2 Lt2 ⊢
  clear hw2 b1 b2 At1
  have y3 : w2.cell? ⟨w.heap.size + 1, 3, none⟩ = some (.slice l.A l.ws.length l.c) := Lt2.c 3
  cases k1 : decide ((l.ws.length : Int) > 5000)
  case true =>
    go_wp2_with fail
    refine (works7_any _).mono ?_
    rintro e w3 ⟨rfl, hb3⟩
    go_wp2_with fail
    go_ret
    exact ⟨rfl, below_trans q2 hb3⟩
  cases k2 : decide ((r.length : Int) > 100)
  case true =>
    go_wp2_with fail
    refine (works7_any _).mono ?_
    rintro e w3 ⟨rfl, hb3⟩
    go_wp2_with fail
    go_ret
    exact ⟨rfl, below_trans q2 hb3⟩
  go_wp2_with (refine wpList_load_at 35 _ rfl w.heap.size 0 rfl s.cs _ (fun j v hv => by rw [Nat.zero_add]; exact (At2.c j).trans hv) Try.underlying35 rfl hsz (by rfl) ?_)
  refine (cG _).mono ?_
  rintro e w3 ⟨g, rfl, hb3, hg⟩
  have q3 := below_trans q2 hb3
  cases g
  case true =>
    go_wp2_with fail
    refine (works7_any _).mono ?_
    rintro e w4 ⟨rfl, hb4⟩
    go_wp2_with fail
    go_ret
    exact ⟨rfl, below_trans q3 hb4⟩
  obtain ⟨g1, g2, g3, g4⟩ := hg rfl
  have hll : s.eps.l.length ≤ 1000 ∧ s.eps.m.length ≤ 1000 ∧ s.lim.l.length ≤ 1000 ∧ s.lim.m.length ≤ 1000 := ⟨by omega, by omega, by omega, by omega⟩
  have hwl : l.ws.length ≤ 5000 := by have := of_decide_eq_false k1; omega
  have hrl : r.length ≤ 100 := by have := of_decide_eq_false k2; omega
  have Hll := Lib.hid hll; have Hwl := Lib.hid hwl; have Hrl := Lib.hid hrl
  have At3 := At2.on hb3
  have Lt3 := Lt2.on hb3
  clear g1 g2 g3 g4 hll hwl hrl hg cG
  go_upto_region 3 with fail
  clear y3 k1 k2 At2 Lt2 q2 hb3
  have Hx := Lib.hid hx
  clear hx
  have c6 := fun (w' : World) (hb : Below w.heap.size w w') => oStp_any s w' (hs.on hb)
  have c7 := fun (w' : World) (hb : Below w.heap.size w w') => rStp_any s w' (hs.on hb)
  obtain ⟨E, hE⟩ : ∃ E, stpE s = E := ⟨_, rfl⟩
  simp only [hE] at c6 c7
  unfold Stp.val at c6 c7
  have HE := Lib.hid hE
  clear hE
  have hS3 : Below w3.heap.size w3 w3.drew := (Below.refl w3.heap.size w3).drew
  refine wp_region_held_drew (S := fun w' => Below w3.heap.size w3 w') (by kernel_rfl) hS3 (fun hHeld => ?_)
  refine wpAnyH_take (i := 0) (v := .agg s.cs) rfl (by kernel_rfl) (by kernel_rfl) (by kernel_rfl) (fun _ _ _ h => h) (yields_load_at rfl 35 _ (by rfl) w.heap.size 0 (by rfl) s.cs _ (fun w' hS j v hv => by rw [Nat.zero_add]; exact ((At3.on hS).c j).trans hv) Try.underlying35 rfl hsz) hHeld ?_
  (try simp only [Act.put, List.getElem_toArray, List.getElem_cons_succ, List.getElem_cons_zero, List.setIfInBounds_toArray, List.set_cons_zero, List.set_cons_succ])
  refine wpAnyH_take (i := 2) (v := .agg s.cs) rfl (by kernel_rfl) (by kernel_rfl) (by kernel_rfl) (fun _ _ _ h => h) (yields_load_at rfl 35 _ (by rfl) w.heap.size 0 (by rfl) s.cs _ (fun w' hS j v hv => by rw [Nat.zero_add]; exact ((At3.on hS).c j).trans hv) Try.underlying35 rfl hsz) hHeld ?_
  (try simp only [Act.put, List.getElem_toArray, List.getElem_cons_succ, List.getElem_cons_zero, List.setIfInBounds_toArray, List.set_cons_zero, List.set_cons_succ])
  refine wpAnyH_ready (rs := [1]) (by kernel_rfl) (by simp) ?_
  refine AllReadyH.cons rfl (fun K1 hK1 => ?_) AllReadyH.nil
  go_simp
  refine (c6 _ (below_trans q3 hS3)).mono ?_
  rintro e w4 ⟨rfl, hb4⟩
  have hS4 : Below w3.heap.size w3 w4 := hS3.trans hb4
  refine hK1.out _ _ hS4 (fun _ => ?_)
  (try simp only [Act.put, List.getElem_toArray, List.getElem_cons_succ, List.getElem_cons_zero, List.setIfInBounds_toArray, List.set_cons_zero, List.set_cons_succ])
  refine wpAnyH_ready (rs := [3]) (by kernel_rfl) (by simp) ?_
  refine AllReadyH.cons rfl (fun K2 hK2 => ?_) AllReadyH.nil
  go_simp
  refine (c7 _ (below_trans q3 hS4)).mono ?_
  rintro e w5 ⟨rfl, hb5⟩
  have hS5 : Below w3.heap.size w3 w5 := hS4.trans (hb5.mono hS4.size)
  refine hK2.out _ _ hS5 (fun _ => ?_)
  (try simp only [Act.put, List.getElem_toArray, List.getElem_cons_succ, List.getElem_cons_zero, List.setIfInBounds_toArray, List.set_cons_zero, List.set_cons_succ])
  (refine wpAnyH_take (i := 4) (v := ?_) rfl (by kernel_rfl) (by kernel_rfl) (by kernel_rfl) (fun _ _ _ h => h) (Or.inl ⟨by rfl, ?_⟩) (by assumption) ?_; rotate_left 1; (focus (intro wz hSz; (try dsimp only at hSz); go_simp; (try with_reducible rfl))); (try simp only [Act.put, List.setIfInBounds_toArray, List.set_cons_zero, List.set_cons_succ]))
  (try simp only [Act.put, List.getElem_toArray, List.getElem_cons_succ, List.getElem_cons_zero, List.setIfInBounds_toArray, List.set_cons_zero, List.set_cons_succ])
  refine wpAnyH_done (by kernel_rfl) ?_ _
  have q5 := below_trans q3 hS5
  have At5 := At3.on hS5
  have Lt5 := Lt3.on hS5
  clear At3 Lt3 q3 hS3 hS4 hS5 hHeld c6 c7 hb4 hb5
  go_upto_region 5 with fail
  have cB := oBits_any l W w5 (hl.on q5) (by have := Hwl.out; omega)
  unfold Ltr.val at cB
  obtain ⟨F, hF⟩ : ∃ F, ltrE W l = F := ⟨_, rfl⟩
  obtain ⟨L, hL⟩ : ∃ L, ltrR W l = L := ⟨_, rfl⟩
  have hL2 : L.length ≤ 4611686018427387904 := by
    rw [← hL]
    unfold ltrR
    split
    · have := Hwl.out
      rw [ltrL, List.length_append, List.length_append, List.length_append, b16_len, b16_len, b16_len, flat16_len]; omega
    · simp
  rw [hF, hL] at cB
  have HL2 := Lib.hid hL2
  clear hL2
  go_wp2_with (refine wpList_load_at 38 _ rfl (w.heap.size + 1) 0 rfl l.cs _ Lt5.all Try.underlying38 rfl hszl (by rfl) ?_)
  refine cB.mono ?_
  rintro e w6 ⟨v6, rfl, ow6, hb6⟩
  obtain ⟨A6, n6, rfl, l6, m6, z6, ar6⟩ := ow6.form encB_len
  have q6 := below_trans q5 hb6
  have At6 := At5.on hb6
  have Lt6 := Lt5.on hb6
  have cB2 := rBits7_any l W w6 (hl.on q6) (by have := Hwl.out; omega)
  unfold Ltr.val at cB2
  rw [hF, hL] at cB2
  clear cB hF hL ow6 l6 m6 z6 At5 Lt5 q5 hb6
  go_wp2_with (refine wpList_load_at 38 _ rfl (w.heap.size + 1) 0 rfl l.cs _ Lt6.all Try.underlying38 rfl hszl (by rfl) ?_)
  refine cB2.mono ?_
  rintro e w7 ⟨v7, rfl, ow7, hb7⟩
  obtain ⟨A7, n7, rfl, l7, m7, z7, ar7⟩ := ow7.form encB_len
  have q7 := below_trans q6 hb7
  have At7 := At6.on hb7
  have cC := Bools5_any A6 A7 n6 n7 L L w7 (ar6.on hb7) ar7 HL2.out HL2.out
  simp only [decide_true] at cC
  clear cB2 ow7 l7 m7 z7 At6 Lt6 q6 hb7 ar6 ar7
  go_upto_region 7 with fail
  go_wp2_with fail
  refine cC.mono ?_
  rintro e w8 ⟨rfl, hb8⟩
  have q8 := below_trans q7 hb8
  have At8 := At7.on hb8
  clear cC q7 At7 hb8
  have hx := Hx.out
  obtain ⟨t, ht⟩ : ∃ t, x % 2 = t := ⟨_, rfl⟩
  have hX : wrap64 (x : Int) = (x : Int) := IntWalk.wrap64_in _ (by omega)
  have hT : (x : Int).tmod 2 = (t : Int) := by rw [← ht]; exact (Int.ofNat_tmod x 2).symm
  obtain ⟨N, hN⟩ : ∃ N, 65536 + t = N := ⟨_, rfl⟩
  have hN1 : wrap64 (65536 + (t : Int)) = (N : Int) := by rw [IntWalk.wrap64_in _ (by omega)]; omega
  have hN2 : N ≤ 65537 := by omega
  clear hN ht hx
  obtain ⟨i0, hi, hz0, hz1, hz2⟩ := info_parts bool_info3
  have Hi := Lib.hid hi; have Hz0 := Lib.hid hz0; have Hz1 := Lib.hid hz1; have Hz2 := Lib.hid hz2
  clear hi hz0 hz1 hz2
  go_upto_region 10 with (at_make; refine wpList_mk rfl _ _ 44 rfl 4 i0 _ 1 Try.underlying44 Hi.out Hz0.out Hz1.out Hz2.out rfl (fun b : Bool => Value.bool b) false rfl _ _ _ _ N rfl rfl (by omega) (by omega) (by omega) (by unfold maxLen; omega) ?_; intro w9 ow9 hb9)
  have q9 := below_trans q8 hb9
  have At9 := At8.on hb9
  have ow9' : Own w9 w8.heap.size 4 1 encB (.slice (some ⟨w8.heap.size, 0, none⟩) N N) (List.replicate N false) := ow9
  obtain ⟨A9, n9, e9, l9, m9, z9, ar9⟩ := ow9'.form encB_len
  simp only [Value.slice.injEq] at e9
  obtain ⟨e9a, e9b, e9c⟩ := e9
  subst e9a e9c
  clear e9b ow9 ow9'
  have hNl : (List.replicate N false).length = N := List.length_replicate
  obtain ⟨pl, hpl⟩ : ∃ pl, List.replicate N false = pl := ⟨_, rfl⟩
  rw [hpl] at ar9 l9 hNl
  have Hn := Lib.hid hN2
  subst hNl
  clear hpl hN2 hN1 hT hX q8 At8 hb9
  have c10 := NewStation_any s side (some ⟨w8.heap.size, 0, none⟩) pl.length pl w9 (hs.on q9) ar9 z9 (Nat.le_refl _) m9 (by have := Hn.out; omega) Hll.out
  obtain ⟨E1, hE1⟩ : ∃ E1, nsE s side pl.length = E1 := ⟨_, rfl⟩
  unfold Stp.val NsR at c10
  rw [hE1] at c10
  go_wp2_with (refine wpList_load_at 35 _ rfl w.heap.size 0 rfl s.cs _ (fun j v hv => by rw [Nat.zero_add]; exact (At9.c j).trans hv) Try.underlying35 rfl hsz (by rfl) ?_)
  refine c10.mono ?_
  rintro e w10 ⟨v10, rfl, hb10, hy10, hn10⟩
  have q10 := below_trans q9 hb10
  have At10 := At9.on hb10
  have ar10 := ar9.on hb10
  have hv10 : (E1 = 0 ∧ ∃ b, v10 = .pointer (some ⟨b, 0, none⟩)) ∨ (E1 ≠ 0 ∧ v10 = .pointer none) := by
    by_cases h : E1 = 0
    · obtain ⟨b, _, _, _, _, _, hv, _⟩ := hy10 h
      exact .inl ⟨h, b, hv⟩
    · exact .inr ⟨h, hn10 h⟩
  have c11 := rNewStation_any s side (some ⟨w8.heap.size, 0, none⟩) pl.length pl.length w10 (hs.on q10)
  unfold Stp.val RnR at c11
  rw [hE1] at c11
  clear c10 hE1 hy10 hn10 At9 ar9 q9 hb10
  go_wp2_with (refine wpList_load_at 35 _ rfl w.heap.size 0 rfl s.cs _ (fun j v hv => by rw [Nat.zero_add]; exact (At10.c j).trans hv) Try.underlying35 rfl hsz (by rfl) ?_)
  refine c11.mono ?_
  rintro e w11 ⟨v11, rfl, hb11, _⟩
  have q11 := below_trans q10 hb11
  have At11 := At10.on hb11
  have ar11 := ar10.on hb11
  clear c11 At10 ar10 q10 hb11
  go_upto_region 12 with fail
  go_cut [88] (fun v wx => v = .bool false ∧ wx = w11)
  case first =>
    rcases hv10 with ⟨rfl, b, rfl⟩ | ⟨hne, rfl⟩
    · go_wp2_with fail
      go_meet
      case rel => exact ⟨rfl, rfl⟩
    · have g1 : (E1 == 0) = false := by simpa using hne
      clear hne
      go_wp2_with fail
      go_meet
      case rel => exact ⟨rfl, rfl⟩
  obtain ⟨rfl, rfl⟩ := hcut
  have c13 := NewPair_any s R cr r (some ⟨w8.heap.size, 0, none⟩) pl.length pl 0 wc (hs.on q11) (hR.on q11) nR hr (by have := Hrl.out; omega) ar11 z9 (Nat.le_refl _) m9 (by have := Hn.out; omega) Hll.out
  obtain ⟨E2, hE2⟩ : ∃ E2, npE s r pl.length = E2 := ⟨_, rfl⟩
  unfold Stp.val NpR at c13
  rw [hE2] at c13
  go_wp2_with (refine wpList_load_at 35 _ rfl w.heap.size 0 rfl s.cs _ (fun j v hv => by rw [Nat.zero_add]; exact (At11.c j).trans hv) Try.underlying35 rfl hsz (by rfl) ?_)
  refine c13.mono ?_
  rintro e w12 ⟨v12, rfl, hb12, hy12, hn12⟩
  have q12 := below_trans q11 hb12
  have At12 := At11.on hb12
  have hv12 : (E2 = 0 ∧ ∃ b, v12 = .pointer (some ⟨b, 0, none⟩)) ∨ (E2 ≠ 0 ∧ v12 = .pointer none) := by
    by_cases h : E2 = 0
    · obtain ⟨b, hv⟩ := hy12 h
      exact .inl ⟨h, b, hv⟩
    · exact .inr ⟨h, hn12 h⟩
  have c14 := rNewPair_any s R cr r (some ⟨w8.heap.size, 0, none⟩) pl.length pl.length 0 w12 (hs.on q12) (hR.on q12) (by have := Hrl.out; omega)
  unfold Stp.val RpR at c14
  rw [hE2] at c14
  clear c13 hE2 hy12 hn12 At11 q11 hb12 ar11
  go_wp2_with (refine wpList_load_at 35 _ rfl w.heap.size 0 rfl s.cs _ (fun j v hv => by rw [Nat.zero_add]; exact (At12.c j).trans hv) Try.underlying35 rfl hsz (by rfl) ?_)
  refine c14.mono ?_
  rintro e w13 ⟨v13, rfl, hb13, _⟩
  have q13 := below_trans q12 hb13
  clear c14 At12 q12 hb13
  have cW := works7_any w13
  go_upto_region 16 with fail
  rcases hv12 with ⟨rfl, b, rfl⟩ | ⟨hne, rfl⟩
  · go_wp2_with fail
    refine cW.mono ?_
    rintro e w14 ⟨rfl, hb14⟩
    go_wp2_with fail
    go_ret
    exact ⟨rfl, below_trans q13 hb14⟩
  · have g1 : (E2 == 0) = false := by simpa using hne
    clear hne
    go_wp2_with fail
    refine cW.mono ?_
    rintro e w14 ⟨rfl, hb14⟩
    go_wp2_with fail
    go_ret
    exact ⟨rfl, below_trans q13 hb14⟩

end Go.Proofs.Ythcjlfnkpmeonaa
