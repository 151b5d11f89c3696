/- The walk of TopDistils. For any job. -/
import Derived.Test.YtfolgmcoggejbaaGreatTpxAll
namespace Go.Proofs.YtfolgmcoggejbaaGreat
open Go.RowKit
set_option linter.unusedVariables false
set_option linter.unusedSimpArgs false

theorem goT_at {c : Cas} (hc : c.Ok) (t : List Bool) : ∀ (k : Nat) (m : Mac), c.at .stop m → c.at .stop (c.goT t k m)
  | 0, m, h => h
  | k + 1, m, h => by
    unfold Cas.goT
    split
    · rename_i ho
      exact goT_at hc t k _ (Cas.tell_ok hc h ho _).1
    · exact h
theorem runT_ok {c : Cas} (hc : c.Ok) (t : List Bool) {b : List Bool} (hb : b.length = c.n) : (c.runT t b).Ok c := (goT_at hc t _ _ (Cas.new_ok hc hb).1).1
set_option maxRecDepth 100000 in
set_option maxHeartbeats 100000000 in
theorem top_walk (A : Option Addr) (c : Nat) (l : List Bool) (B : Option Addr) (d : Nat) (es : List Nat) (p b s g wd ep : Nat) (sd : Nat) (w : World) (hA : Arr 1 encB w w.heap.size A l) (nA : A = none → c = 0) (hl : l.length ≤ c) (hc : c ≤ maxLen) (hB : Arr 1 encW w w.heap.size B es) (hd : es.length ≤ d) (hdm : d ≤ maxLen) (he : ∀ q ∈ es, q < 65536)
    (hp : p < 256) (hb : b < 256) (hs : s < 256) (hg : g < 256) (hwd : wd < 256) (hep : ep < 256) (hsd : sd < 18446744073709551616) :
    Calls Tryz.prog 3 #[.agg (jobC A l.length c B es.length d p b s g wd ep sd)] w fun e w' => e = .returned (.bool true) ∧ Below w.heap.size w w' := by
  have cTwo := fun w' (hb : Below w.heap.size w w') => two_any A c l B d es p b s g wd ep sd w' (hA.on hb) nA hl hc (hB.on hb) hd hdm he
  have cPl := fun w' => plan_any A l.length c B es.length d p b s g wd ep sd w' hp hb
  obtain ⟨W, hW⟩ : ∃ x, w.alloc (.cells (jobC A l.length c B es.length d p b s g wd ep sd) 26) = x := ⟨_, rfl⟩
  have bW : Below w.heap.size w W := by rw [← hW]; exact below_alloc (Below.refl _ _) _
  have JJ : W.heap[w.heap.size]? = some (.cells (jobC A l.length c B es.length d p b s g wd ep sd) 26 (0, 0)) := by rw [← hW]; exact heap_alloc_new w _
  have CT := Lib.hid cTwo; have CP := Lib.hid cPl
  have cT := cTwo W bW
  obtain ⟨N, hN⟩ : ∃ N, (l.take 120).length = N := ⟨_, rfl⟩
  have hN1 : N ≤ 120 := by rw [List.length_take] at hN; omega
  obtain ⟨a, ha⟩ : ∃ a, l.take 120 = a := ⟨_, rfl⟩
  rw [ha] at cT hN
  clear cTwo cPl hA nA hl hc hB hd hdm he
  have cells : ∀ j u, (jobC A l.length c B es.length d p b s g wd ep sd)[j]? = some u → W.cell? ⟨w.heap.size, j, none⟩ = some u := fun j u hu => (cell_of_row _ _ _ _ _ _ JJ).trans hu
  have x0 : W.cell? ⟨w.heap.size, 0, none⟩ = some (.slice A l.length c) := cells 0 _ rfl
  have x1 : W.cell? ⟨w.heap.size, 1, none⟩ = some (.slice B es.length d) := cells 1 _ rfl
  have x2 : W.cell? ⟨w.heap.size, 2, none⟩ = some (.int .u8 p) := cells 2 _ rfl
  have x3 : W.cell? ⟨w.heap.size, 3, none⟩ = some (.int .u8 b) := cells 3 _ rfl
  have x4 : W.cell? ⟨w.heap.size, 4, none⟩ = some (.int .u8 s) := cells 4 _ rfl
  have x5 : W.cell? ⟨w.heap.size, 5, none⟩ = some (.int .u8 g) := cells 5 _ rfl
  have x6 : W.cell? ⟨w.heap.size, 6, none⟩ = some (.int .u8 wd) := cells 6 _ rfl
  have x7 : W.cell? ⟨w.heap.size, 7, none⟩ = some (.int .u8 ep) := cells 7 _ rfl
  have x8 : W.cell? ⟨w.heap.size, 8, none⟩ = some (.int .u64 sd) := cells 8 _ rfl
  unfold jobC at hW cT ⊢
  go_enter Tryz.func3, Tryz.ntmps3
  go_wp2_with fail
  refine cT.mono ?_
  rintro e w2 ⟨u, v, x, rfl, ou, ov, hx, hb2⟩
  obtain ⟨A1, c1, rfl, l1, m1, n1, ar1⟩ := ou.form encB_len
  obtain ⟨A2, c2, rfl, l2, m2, n2, ar2⟩ := ov.form encB_len
  rw [hN] at hx l1 ⊢
  rw [hx] at l2 ⊢
  have K2 := fun j u (hu : W.cell? ⟨w.heap.size, j, none⟩ = some u) => bel_cell hb2 hu
  replace x4 := K2 _ _ x4; replace x5 := K2 _ _ x5; replace x6 := K2 _ _ x6; replace x7 := K2 _ _ x7; replace x8 := K2 _ _ x8; replace x0 := K2 _ _ x0; replace x1 := K2 _ _ x1; replace x2 := K2 _ _ x2; replace x3 := K2 _ _ x3
  have B2 := bW.trans (hb2.mono bW.size)
  have HaN := Lib.hid hN; have Hx := Lib.hid hx
  clear K2 cT hW JJ cells ou ov hN hx ha
  obtain ⟨V, hV, hV3⟩ : ∃ V : Nat, wrap64 (8 * 2 ^ (wd % 3)) = (V : Int) ∧ (V = 8 ∨ V = 16 ∨ V = 32) := by
    rcases (show wd % 3 = 0 ∨ wd % 3 = 1 ∨ wd % 3 = 2 by omega) with h | h | h <;> rw [h]
    · exact ⟨8, by decide +kernel, by decide⟩
    · exact ⟨16, by decide +kernel, by decide⟩
    · exact ⟨32, by decide +kernel, by decide⟩
  have HV := Lib.hid hV
  clear hV
  obtain ⟨k, hk, hkN⟩ : ∃ k : Nat, (s : Int) % ((N : Int) + 1) = (k : Int) ∧ k ≤ N := ⟨s % (N + 1), by simp, by have := Nat.mod_lt s (show 0 < N + 1 by omega); omega⟩
  obtain ⟨E, hE, hE2⟩ : ∃ E : Nat, (2 : Int) + (ep : Int) = (E : Int) ∧ 2 ≤ E ∧ E < 4294967296 := ⟨2 + ep, by omega, by omega⟩
  have u1 : IntKind.u64.wrap (ep : Int) = (ep : Int) := by simp [IntKind.wrap, IntKind.bits, IntKind.signed]; omega
  have u2 : IntKind.u64.wrap (E : Int) = (E : Int) := by simp [IntKind.wrap, IntKind.bits, IntKind.signed]; omega
  have cO1 := fun w' => Of_any 1 w' (by decide)
  have cOE := fun w' => Of_any E w' (by omega)
  have L7 := fun w' (hb : Below w2.heap.size w2 w') => bel_cell hb x7
  go_upto_region 4 with fail
  simp only [HV.out, hk]
  clear HV
  go_cut [7] (fun v wx => ∃ g A3 c3 A4 c4, v = .pointer (some ⟨g, 0, none⟩) ∧ w2.heap.size ≤ g ∧ wx.cell? ⟨g, 0, none⟩ = some (.slice A3 (limbs 1).length c3) ∧ wx.cell? ⟨g, 1, none⟩ = some (.slice A4 (limbs E).length c4) ∧ Nt wx A3 c3 (limbs 1) ∧ Nt wx A4 c4 (limbs E) ∧ Below w2.heap.size w2 wx)
  case first =>
   as_aux_lemma =>
    refine wp_region_held_drew (S := fun w' => Below w2.heap.size w2 w') (by kernel_rfl) (Below.refl _ _).drew (fun hHeld => ?_)
    (refine wpAnyH_take (i := 1) (v := ?_) rfl (by kernel_rfl) (by kernel_rfl) (by kernel_rfl) (fun _ _ _ h => h) (Or.inl ⟨by rfl, ?_⟩) (by assumption) ?_; rotate_left 1; (focus (intro wz hSz; (try dsimp only at hSz); go_simp; (try with_reducible rfl))); (try simp only [Act.put, List.setIfInBounds_toArray, List.set_cons_zero, List.set_cons_succ]))
    (refine wpAnyH_take (i := 2) (v := ?_) rfl (by kernel_rfl) (by kernel_rfl) (by kernel_rfl) (fun _ _ _ h => h) (Or.inl ⟨by rfl, ?_⟩) (by assumption) ?_; rotate_left 1; (focus (intro wz hSz; (try dsimp only at hSz); go_simp; (try with_reducible rfl))); (try simp only [Act.put, List.setIfInBounds_toArray, List.set_cons_zero, List.set_cons_succ]))
    (refine wpAnyH_take (i := 3) (v := ?_) rfl (by kernel_rfl) (by kernel_rfl) (by kernel_rfl) (fun _ _ _ h => h) (Or.inl ⟨by rfl, ?_⟩) (by assumption) ?_; rotate_left 1; (focus (intro wz hSz; (try dsimp only at hSz); go_simp; (try with_reducible rfl))); (try simp only [Act.put, List.setIfInBounds_toArray, List.set_cons_zero, List.set_cons_succ]))
    (refine wpAnyH_take (i := 4) (v := ?_) rfl (by kernel_rfl) (by kernel_rfl) (by kernel_rfl) (fun _ _ _ h => h) (Or.inl ⟨by rfl, ?_⟩) (by assumption) ?_; rotate_left 1; (focus (intro wz hSz; (try dsimp only at hSz); go_simp; (try with_reducible rfl))); (try simp only [Act.put, List.setIfInBounds_toArray, List.set_cons_zero, List.set_cons_succ]))
    refine wpAnyH_ready (rs := [0, 7]) (by kernel_rfl) (by simp) ?_
    refine (AllReadyH.cons rfl (fun K1 hK1 => ?_) (AllReadyH.cons rfl (fun K1 hK1 => ?_) AllReadyH.nil))
    · skip
      go_simp
      refine (cO1 _).mono ?_
      rintro e w3 ⟨v3, rfl, b3, hb3⟩
      have q3 : Below w2.heap.size w2 w3 := below_trans ((Below.refl w2.heap.size w2).drew) hb3
      obtain ⟨A3, c3, rfl, n3⟩ := own_nt b3 (limbs_dig _)
      go_simp
      refine hK1.out _ _ (q3) (fun _ => ?_)
      (try simp only [Act.put, List.getElem_toArray, List.getElem_cons_succ, List.getElem_cons_zero, List.setIfInBounds_toArray, List.set_cons_zero, List.set_cons_succ])
      refine wpAnyH_ready (rs := [5, 7]) (by kernel_rfl) (by simp) ?_
      refine (AllReadyH.cons rfl (fun K2 hK2 => ?_) (AllReadyH.cons rfl (fun K2 hK2 => ?_) AllReadyH.nil))
      · skip
        go_simp
        refine (cOE _).mono ?_
        rintro e w4 ⟨v4, rfl, b4, hb4⟩
        have q4 : Below w2.heap.size w2 w4 := below_trans q3 hb4
        have N3 := n3.on hb4
        obtain ⟨A4, c4, rfl, N4⟩ := own_nt b4 (limbs_dig _)
        go_simp
        refine hK2.out _ _ (q4) (fun _ => ?_)
        (try simp only [Act.put, List.getElem_toArray, List.getElem_cons_succ, List.getElem_cons_zero, List.setIfInBounds_toArray, List.set_cons_zero, List.set_cons_succ])
        (refine wpAnyH_take (i := 6) (v := ?_) rfl (by kernel_rfl) (by kernel_rfl) (by kernel_rfl) (fun _ _ _ h => h) (Or.inl ⟨by rfl, ?_⟩) (by assumption) ?_; rotate_left 1; (focus (intro wz hSz; (try dsimp only at hSz); go_simp; (try with_reducible rfl))); (try simp only [Act.put, List.setIfInBounds_toArray, List.set_cons_zero, List.set_cons_succ]))
        refine wpAnyH_ready (rs := [7]) (by kernel_rfl) (by simp) ?_
        refine (AllReadyH.cons rfl (fun K3 hK3 => ?_) AllReadyH.nil)
        go_simp
        refine hK3.out _ _ (below_alloc q4 (.cells #[.slice none 0 0, .slice none 0 0] 33)) (fun _ => ?_)
        (try simp only [Act.put, List.getElem_toArray, List.getElem_cons_succ, List.getElem_cons_zero, List.setIfInBounds_toArray, List.set_cons_zero, List.set_cons_succ])
        refine wpAnyH_ready (rs := [8]) (by kernel_rfl) (by simp) ?_
        refine (AllReadyH.cons rfl (fun K4 hK4 => ?_) AllReadyH.nil)
        go_simp
        have QF := below_alloc q4 (.cells #[(.slice A3 (limbs 1).length c3), (.slice A4 (limbs E).length c4)] 33)
        have G1 : w2.heap.size ≤ w4.heap.size := q4.size
        have C0 : (w4.alloc (.cells #[(.slice A3 (limbs 1).length c3), (.slice A4 (limbs E).length c4)] 33)).cell? ⟨w4.heap.size, 0, none⟩ = some (.slice A3 (limbs 1).length c3) := new_cell rfl
        have C1 : (w4.alloc (.cells #[(.slice A3 (limbs 1).length c3), (.slice A4 (limbs E).length c4)] 33)).cell? ⟨w4.heap.size, 1, none⟩ = some (.slice A4 (limbs E).length c4) := new_cell rfl
        replace N3 := N3.on (below_alloc (Below.refl w4.heap.size w4) (.cells #[(.slice A3 (limbs 1).length c3), (.slice A4 (limbs E).length c4)] 33))
        replace N4 := N4.on (below_alloc (Below.refl w4.heap.size w4) (.cells #[(.slice A3 (limbs 1).length c3), (.slice A4 (limbs E).length c4)] 33))
        refine hK4.out _ _ (QF) (fun _ => ?_)
        (try simp only [Act.put, List.getElem_toArray, List.getElem_cons_succ, List.getElem_cons_zero, List.setIfInBounds_toArray, List.set_cons_zero, List.set_cons_succ])
        refine wpAnyH_done (by kernel_rfl) ?_ _
        go_wp2_with fail
        go_meet
        case rel => exact ⟨_, _, _, _, _, rfl, G1, C0, C1, N3, N4, QF⟩
      · skip
        go_simp
        refine hK2.out _ _ (below_alloc q3 (.cells #[.slice none 0 0, .slice none 0 0] 33)) (fun _ => ?_)
        (try simp only [Act.put, List.getElem_toArray, List.getElem_cons_succ, List.getElem_cons_zero, List.setIfInBounds_toArray, List.set_cons_zero, List.set_cons_succ])
        refine wpAnyH_ready (rs := [5]) (by kernel_rfl) (by simp) ?_
        refine (AllReadyH.cons rfl (fun K5 hK5 => ?_) AllReadyH.nil)
        go_simp
        refine (cOE _).mono ?_
        rintro e w4 ⟨v4, rfl, b4, hb4⟩
        have q4 : Below w2.heap.size w2 w4 := below_trans (below_alloc q3 (.cells #[.slice none 0 0, .slice none 0 0] 33)) hb4
        obtain ⟨y0, f0⟩ := blk_new hb4 (g := w3.heap.size) rfl (j := 0) rfl
        obtain ⟨y1, f1⟩ := blk_new hb4 (g := w3.heap.size) rfl (j := 1) rfl
        obtain ⟨A4, c4, rfl, N4⟩ := own_nt b4 (limbs_dig _)
        go_simp
        refine hK5.out _ _ (q4) (fun _ => ?_)
        (try simp only [Act.put, List.getElem_toArray, List.getElem_cons_succ, List.getElem_cons_zero, List.setIfInBounds_toArray, List.set_cons_zero, List.set_cons_succ])
        (refine wpAnyH_take (i := 6) (v := ?_) rfl (by kernel_rfl) (by kernel_rfl) (by kernel_rfl) (fun _ _ _ h => h) (Or.inl ⟨by rfl, ?_⟩) (by assumption) ?_; rotate_left 1; (focus (intro wz hSz; (try dsimp only at hSz); go_simp; (try with_reducible rfl))); (try simp only [Act.put, List.setIfInBounds_toArray, List.set_cons_zero, List.set_cons_succ]))
        refine wpAnyH_ready (rs := [8]) (by kernel_rfl) (by simp) ?_
        refine (AllReadyH.cons rfl (fun K6 hK6 => ?_) AllReadyH.nil)
        go_simp
        have G1 : w2.heap.size ≤ w3.heap.size := q3.size
        have QF : Below w2.heap.size w2 ((w4.setCell ⟨w3.heap.size, 0, none⟩ (.slice A3 (limbs 1).length c3)).setCell ⟨w3.heap.size, 1, none⟩ (.slice A4 (limbs E).length c4)) := (q4.setCell (p := ⟨w3.heap.size, 0, none⟩) q3.size _).setCell (p := ⟨w3.heap.size, 1, none⟩) q3.size _
        have C0 : ((w4.setCell ⟨w3.heap.size, 0, none⟩ (.slice A3 (limbs 1).length c3)).setCell ⟨w3.heap.size, 1, none⟩ (.slice A4 (limbs E).length c4)).cell? ⟨w3.heap.size, 0, none⟩ = some (.slice A3 (limbs 1).length c3) := by go_simp
        have C1 : ((w4.setCell ⟨w3.heap.size, 0, none⟩ (.slice A3 (limbs 1).length c3)).setCell ⟨w3.heap.size, 1, none⟩ (.slice A4 (limbs E).length c4)).cell? ⟨w3.heap.size, 1, none⟩ = some (.slice A4 (limbs E).length c4) := by go_simp
        have B34 : Below w3.heap.size w3 w4 := below_trans (below_alloc (Below.refl _ _) (.cells #[.slice none 0 0, .slice none 0 0] 33)) hb4
        have N3 : Nt ((w4.setCell ⟨w3.heap.size, 0, none⟩ (.slice A3 (limbs 1).length c3)).setCell ⟨w3.heap.size, 1, none⟩ (.slice A4 (limbs E).length c4)) A3 c3 (limbs 1) := n3.on ((B34.setCell (p := ⟨w3.heap.size, 0, none⟩) (Nat.le_refl _) _).setCell (p := ⟨w3.heap.size, 1, none⟩) (Nat.le_refl _) _)
        obtain ⟨X4, d4, e4, N4'⟩ := own_nt (big_set2 b4 (g := w3.heap.size) (by simp) (.slice A3 (limbs 1).length c3) (.slice A4 (limbs E).length c4)) (limbs_dig _)
        simp only [Value.slice.injEq, true_and] at e4
        obtain ⟨rfl, rfl⟩ := e4
        replace N4 := N4'
        refine hK6.out _ _ (QF) (fun _ => ?_)
        (try simp only [Act.put, List.getElem_toArray, List.getElem_cons_succ, List.getElem_cons_zero, List.setIfInBounds_toArray, List.set_cons_zero, List.set_cons_succ])
        refine wpAnyH_done (by kernel_rfl) ?_ _
        go_wp2_with fail
        go_meet
        case rel => exact ⟨_, _, _, _, _, rfl, G1, C0, C1, N3, N4, QF⟩
    · skip
      go_simp
      refine hK1.out _ _ ((below_alloc (Below.refl w2.heap.size w2) (.cells #[.slice none 0 0, .slice none 0 0] 33)).drew) (fun _ => ?_)
      (try simp only [Act.put, List.getElem_toArray, List.getElem_cons_succ, List.getElem_cons_zero, List.setIfInBounds_toArray, List.set_cons_zero, List.set_cons_succ])
      refine wpAnyH_ready (rs := [0]) (by kernel_rfl) (by simp) ?_
      refine (AllReadyH.cons rfl (fun K7 hK7 => ?_) AllReadyH.nil)
      go_simp
      refine (cO1 _).mono ?_
      rintro e w3 ⟨v3, rfl, b3, hb3⟩
      have q3 : Below w2.heap.size w2 w3 := below_trans ((below_alloc (Below.refl w2.heap.size w2) (.cells #[.slice none 0 0, .slice none 0 0] 33)).drew) hb3
      obtain ⟨y0, f0⟩ := blk_new (w := w2) (cs := #[.slice none 0 0, .slice none 0 0]) (T := 33) (below_trans (Below.refl _ _).drew hb3) (g := w2.heap.size) rfl (j := 0) rfl
      obtain ⟨y1, f1⟩ := blk_new (w := w2) (cs := #[.slice none 0 0, .slice none 0 0]) (T := 33) (below_trans (Below.refl _ _).drew hb3) (g := w2.heap.size) rfl (j := 1) rfl
      obtain ⟨A3, c3, rfl, n3⟩ := own_nt b3 (limbs_dig _)
      go_simp
      refine hK7.out _ _ (q3) (fun _ => ?_)
      (try simp only [Act.put, List.getElem_toArray, List.getElem_cons_succ, List.getElem_cons_zero, List.setIfInBounds_toArray, List.set_cons_zero, List.set_cons_succ])
      refine wpAnyH_ready (rs := [5]) (by kernel_rfl) (by simp) ?_
      refine (AllReadyH.cons rfl (fun K8 hK8 => ?_) AllReadyH.nil)
      go_simp
      refine (cOE _).mono ?_
      rintro e w4 ⟨v4, rfl, b4, hb4⟩
      have q4 : Below w2.heap.size w2 w4 := below_trans q3 hb4
      replace f0 := (hb4.frozen (p := ⟨w2.heap.size, 0, none⟩) (World.block_lt_of_cell? w3 _ y0)).trans f0
      replace y0 := bel_cell hb4 y0
      replace f1 := (hb4.frozen (p := ⟨w2.heap.size, 1, none⟩) (World.block_lt_of_cell? w3 _ y1)).trans f1
      replace y1 := bel_cell hb4 y1
      have N3 := n3.on hb4
      obtain ⟨A4, c4, rfl, N4⟩ := own_nt b4 (limbs_dig _)
      go_simp
      refine hK8.out _ _ (q4) (fun _ => ?_)
      (try simp only [Act.put, List.getElem_toArray, List.getElem_cons_succ, List.getElem_cons_zero, List.setIfInBounds_toArray, List.set_cons_zero, List.set_cons_succ])
      (refine wpAnyH_take (i := 6) (v := ?_) rfl (by kernel_rfl) (by kernel_rfl) (by kernel_rfl) (fun _ _ _ h => h) (Or.inl ⟨by rfl, ?_⟩) (by assumption) ?_; rotate_left 1; (focus (intro wz hSz; (try dsimp only at hSz); go_simp; (try with_reducible rfl))); (try simp only [Act.put, List.setIfInBounds_toArray, List.set_cons_zero, List.set_cons_succ]))
      refine wpAnyH_ready (rs := [8]) (by kernel_rfl) (by simp) ?_
      refine (AllReadyH.cons rfl (fun K9 hK9 => ?_) AllReadyH.nil)
      go_simp
      have G1 : w2.heap.size ≤ w2.heap.size := (Nat.le_refl _)
      have QF : Below w2.heap.size w2 ((w4.setCell ⟨w2.heap.size, 0, none⟩ (.slice A3 (limbs 1).length c3)).setCell ⟨w2.heap.size, 1, none⟩ (.slice A4 (limbs E).length c4)) := (q4.setCell (p := ⟨w2.heap.size, 0, none⟩) (Nat.le_refl _) _).setCell (p := ⟨w2.heap.size, 1, none⟩) (Nat.le_refl _) _
      have C0 : ((w4.setCell ⟨w2.heap.size, 0, none⟩ (.slice A3 (limbs 1).length c3)).setCell ⟨w2.heap.size, 1, none⟩ (.slice A4 (limbs E).length c4)).cell? ⟨w2.heap.size, 0, none⟩ = some (.slice A3 (limbs 1).length c3) := by go_simp
      have C1 : ((w4.setCell ⟨w2.heap.size, 0, none⟩ (.slice A3 (limbs 1).length c3)).setCell ⟨w2.heap.size, 1, none⟩ (.slice A4 (limbs E).length c4)).cell? ⟨w2.heap.size, 1, none⟩ = some (.slice A4 (limbs E).length c4) := by go_simp
      obtain ⟨X3, d3, e3, N3'⟩ := own_nt (big_set2 (Own.below b3 hb4) (g := w2.heap.size) (by simp) (.slice A3 (limbs 1).length c3) (.slice A4 (limbs E).length c4)) (limbs_dig _)
      simp only [Value.slice.injEq, true_and] at e3
      obtain ⟨rfl, rfl⟩ := e3
      replace N3 := N3'
      obtain ⟨X4, d4, e4, N4'⟩ := own_nt (big_set2 b4 (g := w2.heap.size) (by have := (below_trans (below_alloc (Below.refl w2.heap.size w2) (.cells #[.slice none 0 0, .slice none 0 0] 33)).drew hb3).size; have h2 := hb3.size; simp at h2; omega) (.slice A3 (limbs 1).length c3) (.slice A4 (limbs E).length c4)) (limbs_dig _)
      simp only [Value.slice.injEq, true_and] at e4
      obtain ⟨rfl, rfl⟩ := e4
      replace N4 := N4'
      refine hK9.out _ _ (QF) (fun _ => ?_)
      (try simp only [Act.put, List.getElem_toArray, List.getElem_cons_succ, List.getElem_cons_zero, List.setIfInBounds_toArray, List.set_cons_zero, List.set_cons_succ])
      refine wpAnyH_done (by kernel_rfl) ?_ _
      go_wp2_with fail
      go_meet
      case rel => exact ⟨_, _, _, _, _, rfl, G1, C0, C1, N3, N4, QF⟩
  obtain ⟨gE, A3, c3, A4, c4, rfl, hgE, xE0, xE1, n3, n4, hb5⟩ := hcut
  obtain ⟨w5, rfl⟩ : ∃ y, y = wc := ⟨_, rfl⟩
  have cTs : ∀ (y : World) (P1 : Option Addr) (p1 : Nat) (P2 : Option Addr) (p2 : Nat), Below w5.heap.size w5 y → Nt y P1 p1 (limbs 1) → Nt y P2 p2 (limbs 1) → Calls Tryz.prog 7 #[.slice A1 N c1, .slice A2 N c2, .int .i64 k, .int .u64 sd, .agg #[.slice A3 (limbs 1).length c3, .slice A4 (limbs E).length c4], .agg #[.slice P1 (limbs 1).length p1, .slice P2 (limbs 1).length p2]] y
      fun e y' => ∃ (sn bd t : Int) (v1 v2 : Value), e = .returned (.tuple #[.agg #[.int .i64 N, .int .i64 k, .int .i64 sn, .int .i64 bd, .int .i64 t], v1, v2, .int .i64 0]) ∧ (0 ≤ t ∧ t ≤ 512) ∧ Own y' y.heap.size 4 1 encB v1 (pickL a (rsL sd N k)) ∧ Own y' y.heap.size 4 1 encB v2 (pickL x (rsL sd N k)) ∧ Below y.heap.size y y' := fun y P1 p1 P2 p2 hy h1 h2 => by
    have hy2 := below_trans hb5 hy
    have h := Test_any A1 A2 c1 c2 N N a x k sd ⟨A3, c3, limbs 1, A4, c4, limbs E⟩ ⟨P1, p1, limbs 1, P2, p2, limbs 1⟩ y HaN.out Hx.out (ar1.on hy2) (ar2.on hy2) (by omega) ⟨n3.on hy, n4.on hy⟩ ⟨h1, h2⟩
    obtain ⟨sn, bd, t, t0, t1, hE, hV, hP⟩ := top_test (s := sd) HaN.out Hx.out hkN (by omega) hE2.1 hE2.2 A3 A4 P1 P2 c3 c4 p1 p2
    refine h.mono ?_
    rintro e y' ⟨v1, v2, rfl, o1, o2, hb⟩
    rw [hV, hE]
    rw [(hP a).1] at o1
    rw [(hP x).1] at o2
    exact ⟨sn, bd, t, v1, v2, rfl, ⟨t0, t1⟩, o1, o2, hb⟩
  have L8 := fun w' (hb : Below w5.heap.size w5 w') => bel_cell (below_trans hb5 hb) x8
  have LE0 := fun w' (hb : Below w5.heap.size w5 w') => bel_cell hb xE0
  have LE1 := fun w' (hb : Below w5.heap.size w5 w') => bel_cell hb xE1
  go_upto_region 5 with fail
  go_cut [8, 9, 10, 11] (fun ve v9 v10 v11 wx => ∃ (gT : Nat) (t : Int), ve = .pointer (some ⟨gT, 0, none⟩) ∧ 0 ≤ t ∧ t ≤ 512 ∧ wx.cell? ⟨gT, 4, none⟩ = some (.int .i64 t) ∧ v11 = .int .i64 0 ∧ Own wx w5.heap.size 4 1 encB v9 (pickL a (rsL sd N k)) ∧ Own wx w5.heap.size 4 1 encB v10 (pickL x (rsL sd N k)) ∧ Below w5.heap.size w5 wx)
  case first =>
   as_aux_lemma =>
    --CUT(
    clear x0 x1 x2 x3 x4 x5 x6 x7 x8 xE0 xE1 n3 n4 CT CP HaN Hx ar1 ar2 hb2 B2 bW hgE hE hE2 u1 u2 hk hV3 l1 m1 n1 l2 m2 n2 L7 hp hb hs hg hwd hep hsd hN1 hkN cOE hb5
    --REGION5
    refine wp_region_held_drew (S := fun w' => Below w5.heap.size w5 w') (by kernel_rfl) (Below.refl _ _).drew (fun hHeld => ?_)
    (refine wpAnyH_take (i := 0) (v := ?_) rfl (by kernel_rfl) (by kernel_rfl) (by kernel_rfl) (fun _ _ _ h => h) (Or.inl ⟨by rfl, ?_⟩) (by assumption) ?_; rotate_left 1; (focus (intro wz hSz; (try dsimp only at hSz); go_simp; (try with_reducible rfl))); (try simp only [Act.put, List.setIfInBounds_toArray, List.set_cons_zero, List.set_cons_succ]))
    (try simp only [Act.put, List.getElem_toArray, List.getElem_cons_succ, List.getElem_cons_zero, List.setIfInBounds_toArray, List.set_cons_zero, List.set_cons_succ])
    (refine wpAnyH_take (i := 1) (v := ?_) rfl (by kernel_rfl) (by kernel_rfl) (by kernel_rfl) (fun _ _ _ h => h) (Or.inl ⟨by rfl, ?_⟩) (by assumption) ?_; rotate_left 1; (focus (intro wz hSz; (try dsimp only at hSz); go_simp; (try with_reducible rfl))); (try simp only [Act.put, List.setIfInBounds_toArray, List.set_cons_zero, List.set_cons_succ]))
    (try simp only [Act.put, List.getElem_toArray, List.getElem_cons_succ, List.getElem_cons_zero, List.setIfInBounds_toArray, List.set_cons_zero, List.set_cons_succ])
    (refine wpAnyH_take (i := 2) (v := ?_) rfl (by kernel_rfl) (by kernel_rfl) (by kernel_rfl) (fun _ _ _ h => h) (Or.inl ⟨by rfl, ?_⟩) (by assumption) ?_; rotate_left 1; (focus (intro wz hSz; (try dsimp only at hSz); go_simp; (try with_reducible rfl))); (try simp only [Act.put, List.setIfInBounds_toArray, List.set_cons_zero, List.set_cons_succ]))
    (try simp only [Act.put, List.getElem_toArray, List.getElem_cons_succ, List.getElem_cons_zero, List.setIfInBounds_toArray, List.set_cons_zero, List.set_cons_succ])
    (refine wpAnyH_take (i := 3) (v := ?_) rfl (by kernel_rfl) (by kernel_rfl) (by kernel_rfl) (fun _ _ _ h => h) (Or.inl ⟨by rfl, ?_⟩) (by assumption) ?_; rotate_left 1; (focus (intro wz hSz; (try dsimp only at hSz); go_simp; (try with_reducible rfl))); (try simp only [Act.put, List.setIfInBounds_toArray, List.set_cons_zero, List.set_cons_succ]))
    (try simp only [Act.put, List.getElem_toArray, List.getElem_cons_succ, List.getElem_cons_zero, List.setIfInBounds_toArray, List.set_cons_zero, List.set_cons_succ])
    (refine wpAnyH_take (i := 4) (v := ?_) rfl (by kernel_rfl) (by kernel_rfl) (by kernel_rfl) (fun _ _ _ h => h) (Or.inl ⟨by rfl, ?_⟩) (by assumption) ?_; rotate_left 1; (focus (intro wz hSz; (try dsimp only at hSz); go_simp; (try with_reducible rfl))); (try simp only [Act.put, List.setIfInBounds_toArray, List.set_cons_zero, List.set_cons_succ]))
    (try simp only [Act.put, List.getElem_toArray, List.getElem_cons_succ, List.getElem_cons_zero, List.setIfInBounds_toArray, List.set_cons_zero, List.set_cons_succ])
    (refine wpAnyH_take (i := 5) (v := ?_) rfl (by kernel_rfl) (by kernel_rfl) (by kernel_rfl) (fun _ _ _ h => h) (Or.inl ⟨by rfl, ?_⟩) (by assumption) ?_; rotate_left 1; (focus (intro wz hSz; (try dsimp only at hSz); go_simp; (try with_reducible rfl))); (try simp only [Act.put, List.setIfInBounds_toArray, List.set_cons_zero, List.set_cons_succ]))
    (try simp only [Act.put, List.getElem_toArray, List.getElem_cons_succ, List.getElem_cons_zero, List.setIfInBounds_toArray, List.set_cons_zero, List.set_cons_succ])
    refine wpAnyH_ready (rs := [6, 15]) (by kernel_rfl) (by simp) ?_
    refine (AllReadyH.cons rfl (fun K1 hK1 => ?_) (AllReadyH.cons rfl (fun K1 hK1 => ?_) AllReadyH.nil))
    · skip
      go_simp
      refine (cO1 _).mono ?_
      rintro e w6 ⟨v6, rfl, b6, hb6⟩
      obtain ⟨P6, p6, rfl, n6⟩ := own_nt b6 (limbs_dig _)
      have q6 : Below w5.heap.size w5 w6 := below_trans ((Below.refl w5.heap.size w5)).drew hb6
      go_simp
      refine hK1.out _ _ (q6) (fun _ => ?_)
      (try simp only [Act.put, List.getElem_toArray, List.getElem_cons_succ, List.getElem_cons_zero, List.setIfInBounds_toArray, List.set_cons_zero, List.set_cons_succ])
      refine wpAnyH_ready (rs := [7, 15]) (by kernel_rfl) (by simp) ?_
      refine (AllReadyH.cons rfl (fun K2 hK2 => ?_) (AllReadyH.cons rfl (fun K2 hK2 => ?_) AllReadyH.nil))
      · skip
        go_simp
        refine (cO1 _).mono ?_
        rintro e w7 ⟨v7, rfl, b7, hb7⟩
        obtain ⟨P7, p7, rfl, n7⟩ := own_nt b7 (limbs_dig _)
        have q7 : Below w5.heap.size w5 w7 := below_trans q6 hb7
        go_simp
        refine hK2.out _ _ (q7) (fun _ => ?_)
        (try simp only [Act.put, List.getElem_toArray, List.getElem_cons_succ, List.getElem_cons_zero, List.setIfInBounds_toArray, List.set_cons_zero, List.set_cons_succ])
        (refine wpAnyH_take (i := 8) (v := ?_) rfl (by kernel_rfl) (by kernel_rfl) (by kernel_rfl) (fun _ _ _ h => h) (Or.inl ⟨by rfl, ?_⟩) (by assumption) ?_; rotate_left 1; (focus (intro wz hSz; (try dsimp only at hSz); go_simp; (try with_reducible rfl))); (try simp only [Act.put, List.setIfInBounds_toArray, List.set_cons_zero, List.set_cons_succ]))
        (try simp only [Act.put, List.getElem_toArray, List.getElem_cons_succ, List.getElem_cons_zero, List.setIfInBounds_toArray, List.set_cons_zero, List.set_cons_succ])
        refine wpAnyH_ready (rs := [9, 15]) (by kernel_rfl) (by simp) ?_
        refine (AllReadyH.cons rfl (fun K3 hK3 => ?_) (AllReadyH.cons rfl (fun K3 hK3 => ?_) AllReadyH.nil))
        · skip
          go_simp
          have qc := q7
          have m7 := n7
          have m6 := n6.on hb7
          refine (cTs _ _ _ _ _ qc m6 m7).mono ?_
          rintro e w8 ⟨sn, bd, t, v1, v2, rfl, ht, o1, o2, hb8⟩
          have q8 : Below w5.heap.size w5 w8 := below_trans q7 hb8
          go_simp
          refine hK3.out _ _ (q8) (fun _ => ?_)
          (try simp only [Act.put, List.getElem_toArray, List.getElem_cons_succ, List.getElem_cons_zero, List.setIfInBounds_toArray, List.set_cons_zero, List.set_cons_succ])
          (refine wpAnyH_take (i := 10) (v := ?_) rfl (by kernel_rfl) (by kernel_rfl) (by kernel_rfl) (fun _ _ _ h => h) (Or.inl ⟨by rfl, ?_⟩) (by assumption) ?_; rotate_left 1; (focus (intro wz hSz; (try dsimp only at hSz); go_simp; (try with_reducible rfl))); (try simp only [Act.put, List.setIfInBounds_toArray, List.set_cons_zero, List.set_cons_succ]))
          (try simp only [Act.put, List.getElem_toArray, List.getElem_cons_succ, List.getElem_cons_zero, List.setIfInBounds_toArray, List.set_cons_zero, List.set_cons_succ])
          (refine wpAnyH_take (i := 11) (v := ?_) rfl (by kernel_rfl) (by kernel_rfl) (by kernel_rfl) (fun _ _ _ h => h) (Or.inl ⟨by rfl, ?_⟩) (by assumption) ?_; rotate_left 1; (focus (intro wz hSz; (try dsimp only at hSz); go_simp; (try with_reducible rfl))); (try simp only [Act.put, List.setIfInBounds_toArray, List.set_cons_zero, List.set_cons_succ]))
          (try simp only [Act.put, List.getElem_toArray, List.getElem_cons_succ, List.getElem_cons_zero, List.setIfInBounds_toArray, List.set_cons_zero, List.set_cons_succ])
          (refine wpAnyH_take (i := 12) (v := ?_) rfl (by kernel_rfl) (by kernel_rfl) (by kernel_rfl) (fun _ _ _ h => h) (Or.inl ⟨by rfl, ?_⟩) (by assumption) ?_; rotate_left 1; (focus (intro wz hSz; (try dsimp only at hSz); go_simp; (try with_reducible rfl))); (try simp only [Act.put, List.setIfInBounds_toArray, List.set_cons_zero, List.set_cons_succ]))
          (try simp only [Act.put, List.getElem_toArray, List.getElem_cons_succ, List.getElem_cons_zero, List.setIfInBounds_toArray, List.set_cons_zero, List.set_cons_succ])
          (refine wpAnyH_take (i := 13) (v := ?_) rfl (by kernel_rfl) (by kernel_rfl) (by kernel_rfl) (fun _ _ _ h => h) (Or.inl ⟨by rfl, ?_⟩) (by assumption) ?_; rotate_left 1; (focus (intro wz hSz; (try dsimp only at hSz); go_simp; (try with_reducible rfl))); (try simp only [Act.put, List.setIfInBounds_toArray, List.set_cons_zero, List.set_cons_succ]))
          (try simp only [Act.put, List.getElem_toArray, List.getElem_cons_succ, List.getElem_cons_zero, List.setIfInBounds_toArray, List.set_cons_zero, List.set_cons_succ])
          (refine wpAnyH_take (i := 14) (v := ?_) rfl (by kernel_rfl) (by kernel_rfl) (by kernel_rfl) (fun _ _ _ h => h) (Or.inl ⟨by rfl, ?_⟩) (by assumption) ?_; rotate_left 1; (focus (intro wz hSz; (try dsimp only at hSz); go_simp; (try with_reducible rfl))); (try simp only [Act.put, List.setIfInBounds_toArray, List.set_cons_zero, List.set_cons_succ]))
          (try simp only [Act.put, List.getElem_toArray, List.getElem_cons_succ, List.getElem_cons_zero, List.setIfInBounds_toArray, List.set_cons_zero, List.set_cons_succ])
          refine wpAnyH_ready (rs := [15]) (by kernel_rfl) (by simp) ?_
          refine (AllReadyH.cons rfl (fun K4 hK4 => ?_) AllReadyH.nil)
          go_simp
          refine hK4.out _ _ (below_alloc q8 (.cells #[.int .i64 0, .int .i64 0, .int .i64 0, .int .i64 0, .int .i64 0] 35)) (fun _ => ?_)
          (try simp only [Act.put, List.getElem_toArray, List.getElem_cons_succ, List.getElem_cons_zero, List.setIfInBounds_toArray, List.set_cons_zero, List.set_cons_succ])
          refine wpAnyH_ready (rs := [16]) (by kernel_rfl) (by simp) ?_
          refine (AllReadyH.cons rfl (fun K5 hK5 => ?_) AllReadyH.nil)
          go_simp
          have QF := below_alloc q8 (.cells #[.int .i64 N, .int .i64 k, .int .i64 sn, .int .i64 bd, .int .i64 t] 35)
          have C4 : (w8.alloc (.cells #[.int .i64 N, .int .i64 k, .int .i64 sn, .int .i64 bd, .int .i64 t] 35)).cell? ⟨w8.heap.size, 4, none⟩ = some (.int .i64 t) := new_cell rfl
          have O1 := Own.down (base' := w5.heap.size) (Own.below o1 (below_alloc (Below.refl w8.heap.size w8) (.cells #[.int .i64 N, .int .i64 k, .int .i64 sn, .int .i64 bd, .int .i64 t] 35))) qc.size
          have O2 := Own.down (base' := w5.heap.size) (Own.below o2 (below_alloc (Below.refl w8.heap.size w8) (.cells #[.int .i64 N, .int .i64 k, .int .i64 sn, .int .i64 bd, .int .i64 t] 35))) qc.size
          refine hK5.out _ _ (QF) (fun _ => ?_)
          (try simp only [Act.put, List.getElem_toArray, List.getElem_cons_succ, List.getElem_cons_zero, List.setIfInBounds_toArray, List.set_cons_zero, List.set_cons_succ])
          (refine wpAnyH_take (i := 17) (v := ?_) rfl (by kernel_rfl) (by kernel_rfl) (by kernel_rfl) (fun _ _ _ h => h) (Or.inl ⟨by rfl, ?_⟩) (by assumption) ?_; rotate_left 1; (focus (intro wz hSz; (try dsimp only at hSz); go_simp; (try with_reducible rfl))); (try simp only [Act.put, List.setIfInBounds_toArray, List.set_cons_zero, List.set_cons_succ]))
          (try simp only [Act.put, List.getElem_toArray, List.getElem_cons_succ, List.getElem_cons_zero, List.setIfInBounds_toArray, List.set_cons_zero, List.set_cons_succ])
          (refine wpAnyH_take (i := 18) (v := ?_) rfl (by kernel_rfl) (by kernel_rfl) (by kernel_rfl) (fun _ _ _ h => h) (Or.inl ⟨by rfl, ?_⟩) (by assumption) ?_; rotate_left 1; (focus (intro wz hSz; (try dsimp only at hSz); go_simp; (try with_reducible rfl))); (try simp only [Act.put, List.setIfInBounds_toArray, List.set_cons_zero, List.set_cons_succ]))
          (try simp only [Act.put, List.getElem_toArray, List.getElem_cons_succ, List.getElem_cons_zero, List.setIfInBounds_toArray, List.set_cons_zero, List.set_cons_succ])
          (refine wpAnyH_take (i := 19) (v := ?_) rfl (by kernel_rfl) (by kernel_rfl) (by kernel_rfl) (fun _ _ _ h => h) (Or.inl ⟨by rfl, ?_⟩) (by assumption) ?_; rotate_left 1; (focus (intro wz hSz; (try dsimp only at hSz); go_simp; (try with_reducible rfl))); (try simp only [Act.put, List.setIfInBounds_toArray, List.set_cons_zero, List.set_cons_succ]))
          (try simp only [Act.put, List.getElem_toArray, List.getElem_cons_succ, List.getElem_cons_zero, List.setIfInBounds_toArray, List.set_cons_zero, List.set_cons_succ])
          refine wpAnyH_done (by kernel_rfl) ?_ _
          go_wp2_with fail
          go_meet
          case rel => exact ⟨_, t, rfl, ht.1, ht.2, C4, rfl, O1, O2, QF⟩
        · skip
          go_simp
          refine hK3.out _ _ (below_alloc q7 (.cells #[.int .i64 0, .int .i64 0, .int .i64 0, .int .i64 0, .int .i64 0] 35)) (fun _ => ?_)
          (try simp only [Act.put, List.getElem_toArray, List.getElem_cons_succ, List.getElem_cons_zero, List.setIfInBounds_toArray, List.set_cons_zero, List.set_cons_succ])
          refine wpAnyH_ready (rs := [9]) (by kernel_rfl) (by simp) ?_
          refine (AllReadyH.cons rfl (fun K6 hK6 => ?_) AllReadyH.nil)
          go_simp
          have qc := (below_alloc q7 (.cells #[.int .i64 0, .int .i64 0, .int .i64 0, .int .i64 0, .int .i64 0] 35))
          have m7 := n7.on (below_alloc (Below.refl w7.heap.size w7) (.cells #[.int .i64 0, .int .i64 0, .int .i64 0, .int .i64 0, .int .i64 0] 35))
          have m6 := n6.on (below_trans hb7 (below_alloc (Below.refl w7.heap.size w7) (.cells #[.int .i64 0, .int .i64 0, .int .i64 0, .int .i64 0, .int .i64 0] 35)))
          refine (cTs _ _ _ _ _ qc m6 m7).mono ?_
          rintro e w8 ⟨sn, bd, t, v1, v2, rfl, ht, o1, o2, hb8⟩
          have q8 : Below w5.heap.size w5 w8 := below_trans (below_alloc q7 (.cells #[.int .i64 0, .int .i64 0, .int .i64 0, .int .i64 0, .int .i64 0] 35)) hb8
          have F := five_new (W := w7) (T := 35) hb8 (g := w7.heap.size) rfl
          go_simp
          refine hK6.out _ _ (q8) (fun _ => ?_)
          (try simp only [Act.put, List.getElem_toArray, List.getElem_cons_succ, List.getElem_cons_zero, List.setIfInBounds_toArray, List.set_cons_zero, List.set_cons_succ])
          (refine wpAnyH_take (i := 10) (v := ?_) rfl (by kernel_rfl) (by kernel_rfl) (by kernel_rfl) (fun _ _ _ h => h) (Or.inl ⟨by rfl, ?_⟩) (by assumption) ?_; rotate_left 1; (focus (intro wz hSz; (try dsimp only at hSz); go_simp; (try with_reducible rfl))); (try simp only [Act.put, List.setIfInBounds_toArray, List.set_cons_zero, List.set_cons_succ]))
          (try simp only [Act.put, List.getElem_toArray, List.getElem_cons_succ, List.getElem_cons_zero, List.setIfInBounds_toArray, List.set_cons_zero, List.set_cons_succ])
          (refine wpAnyH_take (i := 11) (v := ?_) rfl (by kernel_rfl) (by kernel_rfl) (by kernel_rfl) (fun _ _ _ h => h) (Or.inl ⟨by rfl, ?_⟩) (by assumption) ?_; rotate_left 1; (focus (intro wz hSz; (try dsimp only at hSz); go_simp; (try with_reducible rfl))); (try simp only [Act.put, List.setIfInBounds_toArray, List.set_cons_zero, List.set_cons_succ]))
          (try simp only [Act.put, List.getElem_toArray, List.getElem_cons_succ, List.getElem_cons_zero, List.setIfInBounds_toArray, List.set_cons_zero, List.set_cons_succ])
          (refine wpAnyH_take (i := 12) (v := ?_) rfl (by kernel_rfl) (by kernel_rfl) (by kernel_rfl) (fun _ _ _ h => h) (Or.inl ⟨by rfl, ?_⟩) (by assumption) ?_; rotate_left 1; (focus (intro wz hSz; (try dsimp only at hSz); go_simp; (try with_reducible rfl))); (try simp only [Act.put, List.setIfInBounds_toArray, List.set_cons_zero, List.set_cons_succ]))
          (try simp only [Act.put, List.getElem_toArray, List.getElem_cons_succ, List.getElem_cons_zero, List.setIfInBounds_toArray, List.set_cons_zero, List.set_cons_succ])
          (refine wpAnyH_take (i := 13) (v := ?_) rfl (by kernel_rfl) (by kernel_rfl) (by kernel_rfl) (fun _ _ _ h => h) (Or.inl ⟨by rfl, ?_⟩) (by assumption) ?_; rotate_left 1; (focus (intro wz hSz; (try dsimp only at hSz); go_simp; (try with_reducible rfl))); (try simp only [Act.put, List.setIfInBounds_toArray, List.set_cons_zero, List.set_cons_succ]))
          (try simp only [Act.put, List.getElem_toArray, List.getElem_cons_succ, List.getElem_cons_zero, List.setIfInBounds_toArray, List.set_cons_zero, List.set_cons_succ])
          (refine wpAnyH_take (i := 14) (v := ?_) rfl (by kernel_rfl) (by kernel_rfl) (by kernel_rfl) (fun _ _ _ h => h) (Or.inl ⟨by rfl, ?_⟩) (by assumption) ?_; rotate_left 1; (focus (intro wz hSz; (try dsimp only at hSz); go_simp; (try with_reducible rfl))); (try simp only [Act.put, List.setIfInBounds_toArray, List.set_cons_zero, List.set_cons_succ]))
          (try simp only [Act.put, List.getElem_toArray, List.getElem_cons_succ, List.getElem_cons_zero, List.setIfInBounds_toArray, List.set_cons_zero, List.set_cons_succ])
          refine wpAnyH_ready (rs := [16]) (by kernel_rfl) (by simp) ?_
          refine (AllReadyH.cons rfl (fun K7 hK7 => ?_) AllReadyH.nil)
          obtain ⟨⟨y0, f0⟩, ⟨y1, f1⟩, ⟨y2, f2⟩, ⟨y3, f3⟩, ⟨y4, f4⟩⟩ := F
          go_simp
          have QF : Below w5.heap.size w5 (((((w8.setCell ⟨w7.heap.size, 0, none⟩ (.int .i64 N)).setCell ⟨w7.heap.size, 1, none⟩ (.int .i64 k)).setCell ⟨w7.heap.size, 2, none⟩ (.int .i64 sn)).setCell ⟨w7.heap.size, 3, none⟩ (.int .i64 bd)).setCell ⟨w7.heap.size, 4, none⟩ (.int .i64 t)) := below_set5 q8 q7.size
          have C4 : (((((w8.setCell ⟨w7.heap.size, 0, none⟩ (.int .i64 N)).setCell ⟨w7.heap.size, 1, none⟩ (.int .i64 k)).setCell ⟨w7.heap.size, 2, none⟩ (.int .i64 sn)).setCell ⟨w7.heap.size, 3, none⟩ (.int .i64 bd)).setCell ⟨w7.heap.size, 4, none⟩ (.int .i64 t)).cell? ⟨w7.heap.size, 4, none⟩ = some (.int .i64 t) := by go_simp
          have O1 : Own (((((w8.setCell ⟨w7.heap.size, 0, none⟩ (.int .i64 N)).setCell ⟨w7.heap.size, 1, none⟩ (.int .i64 k)).setCell ⟨w7.heap.size, 2, none⟩ (.int .i64 sn)).setCell ⟨w7.heap.size, 3, none⟩ (.int .i64 bd)).setCell ⟨w7.heap.size, 4, none⟩ (.int .i64 t)) w5.heap.size 4 1 encB v1 (pickL a (rsL sd N k)) := Own.down (own_set5 o1 (by simp)) qc.size
          have O2 : Own (((((w8.setCell ⟨w7.heap.size, 0, none⟩ (.int .i64 N)).setCell ⟨w7.heap.size, 1, none⟩ (.int .i64 k)).setCell ⟨w7.heap.size, 2, none⟩ (.int .i64 sn)).setCell ⟨w7.heap.size, 3, none⟩ (.int .i64 bd)).setCell ⟨w7.heap.size, 4, none⟩ (.int .i64 t)) w5.heap.size 4 1 encB v2 (pickL x (rsL sd N k)) := Own.down (own_set5 o2 (by simp)) qc.size
          refine hK7.out _ _ (QF) (fun _ => ?_)
          (try simp only [Act.put, List.getElem_toArray, List.getElem_cons_succ, List.getElem_cons_zero, List.setIfInBounds_toArray, List.set_cons_zero, List.set_cons_succ])
          (refine wpAnyH_take (i := 17) (v := ?_) rfl (by kernel_rfl) (by kernel_rfl) (by kernel_rfl) (fun _ _ _ h => h) (Or.inl ⟨by rfl, ?_⟩) (by assumption) ?_; rotate_left 1; (focus (intro wz hSz; (try dsimp only at hSz); go_simp; (try with_reducible rfl))); (try simp only [Act.put, List.setIfInBounds_toArray, List.set_cons_zero, List.set_cons_succ]))
          (try simp only [Act.put, List.getElem_toArray, List.getElem_cons_succ, List.getElem_cons_zero, List.setIfInBounds_toArray, List.set_cons_zero, List.set_cons_succ])
          (refine wpAnyH_take (i := 18) (v := ?_) rfl (by kernel_rfl) (by kernel_rfl) (by kernel_rfl) (fun _ _ _ h => h) (Or.inl ⟨by rfl, ?_⟩) (by assumption) ?_; rotate_left 1; (focus (intro wz hSz; (try dsimp only at hSz); go_simp; (try with_reducible rfl))); (try simp only [Act.put, List.setIfInBounds_toArray, List.set_cons_zero, List.set_cons_succ]))
          (try simp only [Act.put, List.getElem_toArray, List.getElem_cons_succ, List.getElem_cons_zero, List.setIfInBounds_toArray, List.set_cons_zero, List.set_cons_succ])
          (refine wpAnyH_take (i := 19) (v := ?_) rfl (by kernel_rfl) (by kernel_rfl) (by kernel_rfl) (fun _ _ _ h => h) (Or.inl ⟨by rfl, ?_⟩) (by assumption) ?_; rotate_left 1; (focus (intro wz hSz; (try dsimp only at hSz); go_simp; (try with_reducible rfl))); (try simp only [Act.put, List.setIfInBounds_toArray, List.set_cons_zero, List.set_cons_succ]))
          (try simp only [Act.put, List.getElem_toArray, List.getElem_cons_succ, List.getElem_cons_zero, List.setIfInBounds_toArray, List.set_cons_zero, List.set_cons_succ])
          refine wpAnyH_done (by kernel_rfl) ?_ _
          go_wp2_with fail
          go_meet
          case rel => exact ⟨_, t, rfl, ht.1, ht.2, C4, rfl, O1, O2, QF⟩
      · skip
        go_simp
        refine hK2.out _ _ (below_alloc q6 (.cells #[.int .i64 0, .int .i64 0, .int .i64 0, .int .i64 0, .int .i64 0] 35)) (fun _ => ?_)
        (try simp only [Act.put, List.getElem_toArray, List.getElem_cons_succ, List.getElem_cons_zero, List.setIfInBounds_toArray, List.set_cons_zero, List.set_cons_succ])
        refine wpAnyH_ready (rs := [7]) (by kernel_rfl) (by simp) ?_
        refine (AllReadyH.cons rfl (fun K8 hK8 => ?_) AllReadyH.nil)
        go_simp
        refine (cO1 _).mono ?_
        rintro e w7 ⟨v7, rfl, b7, hb7⟩
        obtain ⟨P7, p7, rfl, n7⟩ := own_nt b7 (limbs_dig _)
        have q7 : Below w5.heap.size w5 w7 := below_trans (below_alloc q6 (.cells #[.int .i64 0, .int .i64 0, .int .i64 0, .int .i64 0, .int .i64 0] 35)) hb7
        have F := five_new (W := w6) (T := 35) hb7 (g := w6.heap.size) rfl
        go_simp
        refine hK8.out _ _ (q7) (fun _ => ?_)
        (try simp only [Act.put, List.getElem_toArray, List.getElem_cons_succ, List.getElem_cons_zero, List.setIfInBounds_toArray, List.set_cons_zero, List.set_cons_succ])
        (refine wpAnyH_take (i := 8) (v := ?_) rfl (by kernel_rfl) (by kernel_rfl) (by kernel_rfl) (fun _ _ _ h => h) (Or.inl ⟨by rfl, ?_⟩) (by assumption) ?_; rotate_left 1; (focus (intro wz hSz; (try dsimp only at hSz); go_simp; (try with_reducible rfl))); (try simp only [Act.put, List.setIfInBounds_toArray, List.set_cons_zero, List.set_cons_succ]))
        (try simp only [Act.put, List.getElem_toArray, List.getElem_cons_succ, List.getElem_cons_zero, List.setIfInBounds_toArray, List.set_cons_zero, List.set_cons_succ])
        refine wpAnyH_ready (rs := [9]) (by kernel_rfl) (by simp) ?_
        refine (AllReadyH.cons rfl (fun K9 hK9 => ?_) AllReadyH.nil)
        go_simp
        have qc := q7
        have m7 := n7
        have m6 := n6.on (below_trans (below_alloc (Below.refl w6.heap.size w6) (.cells #[.int .i64 0, .int .i64 0, .int .i64 0, .int .i64 0, .int .i64 0] 35)) hb7)
        refine (cTs _ _ _ _ _ qc m6 m7).mono ?_
        rintro e w8 ⟨sn, bd, t, v1, v2, rfl, ht, o1, o2, hb8⟩
        have q8 : Below w5.heap.size w5 w8 := below_trans q7 hb8
        replace F := F.on hb8
        go_simp
        refine hK9.out _ _ (q8) (fun _ => ?_)
        (try simp only [Act.put, List.getElem_toArray, List.getElem_cons_succ, List.getElem_cons_zero, List.setIfInBounds_toArray, List.set_cons_zero, List.set_cons_succ])
        (refine wpAnyH_take (i := 10) (v := ?_) rfl (by kernel_rfl) (by kernel_rfl) (by kernel_rfl) (fun _ _ _ h => h) (Or.inl ⟨by rfl, ?_⟩) (by assumption) ?_; rotate_left 1; (focus (intro wz hSz; (try dsimp only at hSz); go_simp; (try with_reducible rfl))); (try simp only [Act.put, List.setIfInBounds_toArray, List.set_cons_zero, List.set_cons_succ]))
        (try simp only [Act.put, List.getElem_toArray, List.getElem_cons_succ, List.getElem_cons_zero, List.setIfInBounds_toArray, List.set_cons_zero, List.set_cons_succ])
        (refine wpAnyH_take (i := 11) (v := ?_) rfl (by kernel_rfl) (by kernel_rfl) (by kernel_rfl) (fun _ _ _ h => h) (Or.inl ⟨by rfl, ?_⟩) (by assumption) ?_; rotate_left 1; (focus (intro wz hSz; (try dsimp only at hSz); go_simp; (try with_reducible rfl))); (try simp only [Act.put, List.setIfInBounds_toArray, List.set_cons_zero, List.set_cons_succ]))
        (try simp only [Act.put, List.getElem_toArray, List.getElem_cons_succ, List.getElem_cons_zero, List.setIfInBounds_toArray, List.set_cons_zero, List.set_cons_succ])
        (refine wpAnyH_take (i := 12) (v := ?_) rfl (by kernel_rfl) (by kernel_rfl) (by kernel_rfl) (fun _ _ _ h => h) (Or.inl ⟨by rfl, ?_⟩) (by assumption) ?_; rotate_left 1; (focus (intro wz hSz; (try dsimp only at hSz); go_simp; (try with_reducible rfl))); (try simp only [Act.put, List.setIfInBounds_toArray, List.set_cons_zero, List.set_cons_succ]))
        (try simp only [Act.put, List.getElem_toArray, List.getElem_cons_succ, List.getElem_cons_zero, List.setIfInBounds_toArray, List.set_cons_zero, List.set_cons_succ])
        (refine wpAnyH_take (i := 13) (v := ?_) rfl (by kernel_rfl) (by kernel_rfl) (by kernel_rfl) (fun _ _ _ h => h) (Or.inl ⟨by rfl, ?_⟩) (by assumption) ?_; rotate_left 1; (focus (intro wz hSz; (try dsimp only at hSz); go_simp; (try with_reducible rfl))); (try simp only [Act.put, List.setIfInBounds_toArray, List.set_cons_zero, List.set_cons_succ]))
        (try simp only [Act.put, List.getElem_toArray, List.getElem_cons_succ, List.getElem_cons_zero, List.setIfInBounds_toArray, List.set_cons_zero, List.set_cons_succ])
        (refine wpAnyH_take (i := 14) (v := ?_) rfl (by kernel_rfl) (by kernel_rfl) (by kernel_rfl) (fun _ _ _ h => h) (Or.inl ⟨by rfl, ?_⟩) (by assumption) ?_; rotate_left 1; (focus (intro wz hSz; (try dsimp only at hSz); go_simp; (try with_reducible rfl))); (try simp only [Act.put, List.setIfInBounds_toArray, List.set_cons_zero, List.set_cons_succ]))
        (try simp only [Act.put, List.getElem_toArray, List.getElem_cons_succ, List.getElem_cons_zero, List.setIfInBounds_toArray, List.set_cons_zero, List.set_cons_succ])
        refine wpAnyH_ready (rs := [16]) (by kernel_rfl) (by simp) ?_
        refine (AllReadyH.cons rfl (fun K10 hK10 => ?_) AllReadyH.nil)
        obtain ⟨⟨y0, f0⟩, ⟨y1, f1⟩, ⟨y2, f2⟩, ⟨y3, f3⟩, ⟨y4, f4⟩⟩ := F
        go_simp
        have QF : Below w5.heap.size w5 (((((w8.setCell ⟨w6.heap.size, 0, none⟩ (.int .i64 N)).setCell ⟨w6.heap.size, 1, none⟩ (.int .i64 k)).setCell ⟨w6.heap.size, 2, none⟩ (.int .i64 sn)).setCell ⟨w6.heap.size, 3, none⟩ (.int .i64 bd)).setCell ⟨w6.heap.size, 4, none⟩ (.int .i64 t)) := below_set5 q8 q6.size
        have C4 : (((((w8.setCell ⟨w6.heap.size, 0, none⟩ (.int .i64 N)).setCell ⟨w6.heap.size, 1, none⟩ (.int .i64 k)).setCell ⟨w6.heap.size, 2, none⟩ (.int .i64 sn)).setCell ⟨w6.heap.size, 3, none⟩ (.int .i64 bd)).setCell ⟨w6.heap.size, 4, none⟩ (.int .i64 t)).cell? ⟨w6.heap.size, 4, none⟩ = some (.int .i64 t) := by go_simp
        have O1 : Own (((((w8.setCell ⟨w6.heap.size, 0, none⟩ (.int .i64 N)).setCell ⟨w6.heap.size, 1, none⟩ (.int .i64 k)).setCell ⟨w6.heap.size, 2, none⟩ (.int .i64 sn)).setCell ⟨w6.heap.size, 3, none⟩ (.int .i64 bd)).setCell ⟨w6.heap.size, 4, none⟩ (.int .i64 t)) w5.heap.size 4 1 encB v1 (pickL a (rsL sd N k)) := Own.down (own_set5 o1 (by have := hb7.size; simp at this; omega)) qc.size
        have O2 : Own (((((w8.setCell ⟨w6.heap.size, 0, none⟩ (.int .i64 N)).setCell ⟨w6.heap.size, 1, none⟩ (.int .i64 k)).setCell ⟨w6.heap.size, 2, none⟩ (.int .i64 sn)).setCell ⟨w6.heap.size, 3, none⟩ (.int .i64 bd)).setCell ⟨w6.heap.size, 4, none⟩ (.int .i64 t)) w5.heap.size 4 1 encB v2 (pickL x (rsL sd N k)) := Own.down (own_set5 o2 (by have := hb7.size; simp at this; omega)) qc.size
        refine hK10.out _ _ (QF) (fun _ => ?_)
        (try simp only [Act.put, List.getElem_toArray, List.getElem_cons_succ, List.getElem_cons_zero, List.setIfInBounds_toArray, List.set_cons_zero, List.set_cons_succ])
        (refine wpAnyH_take (i := 17) (v := ?_) rfl (by kernel_rfl) (by kernel_rfl) (by kernel_rfl) (fun _ _ _ h => h) (Or.inl ⟨by rfl, ?_⟩) (by assumption) ?_; rotate_left 1; (focus (intro wz hSz; (try dsimp only at hSz); go_simp; (try with_reducible rfl))); (try simp only [Act.put, List.setIfInBounds_toArray, List.set_cons_zero, List.set_cons_succ]))
        (try simp only [Act.put, List.getElem_toArray, List.getElem_cons_succ, List.getElem_cons_zero, List.setIfInBounds_toArray, List.set_cons_zero, List.set_cons_succ])
        (refine wpAnyH_take (i := 18) (v := ?_) rfl (by kernel_rfl) (by kernel_rfl) (by kernel_rfl) (fun _ _ _ h => h) (Or.inl ⟨by rfl, ?_⟩) (by assumption) ?_; rotate_left 1; (focus (intro wz hSz; (try dsimp only at hSz); go_simp; (try with_reducible rfl))); (try simp only [Act.put, List.setIfInBounds_toArray, List.set_cons_zero, List.set_cons_succ]))
        (try simp only [Act.put, List.getElem_toArray, List.getElem_cons_succ, List.getElem_cons_zero, List.setIfInBounds_toArray, List.set_cons_zero, List.set_cons_succ])
        (refine wpAnyH_take (i := 19) (v := ?_) rfl (by kernel_rfl) (by kernel_rfl) (by kernel_rfl) (fun _ _ _ h => h) (Or.inl ⟨by rfl, ?_⟩) (by assumption) ?_; rotate_left 1; (focus (intro wz hSz; (try dsimp only at hSz); go_simp; (try with_reducible rfl))); (try simp only [Act.put, List.setIfInBounds_toArray, List.set_cons_zero, List.set_cons_succ]))
        (try simp only [Act.put, List.getElem_toArray, List.getElem_cons_succ, List.getElem_cons_zero, List.setIfInBounds_toArray, List.set_cons_zero, List.set_cons_succ])
        refine wpAnyH_done (by kernel_rfl) ?_ _
        go_wp2_with fail
        go_meet
        case rel => exact ⟨_, t, rfl, ht.1, ht.2, C4, rfl, O1, O2, QF⟩
    · skip
      go_simp
      refine hK1.out _ _ ((below_alloc (Below.refl w5.heap.size w5) (.cells #[.int .i64 0, .int .i64 0, .int .i64 0, .int .i64 0, .int .i64 0] 35)).drew) (fun _ => ?_)
      (try simp only [Act.put, List.getElem_toArray, List.getElem_cons_succ, List.getElem_cons_zero, List.setIfInBounds_toArray, List.set_cons_zero, List.set_cons_succ])
      refine wpAnyH_ready (rs := [6]) (by kernel_rfl) (by simp) ?_
      refine (AllReadyH.cons rfl (fun K11 hK11 => ?_) AllReadyH.nil)
      go_simp
      refine (cO1 _).mono ?_
      rintro e w6 ⟨v6, rfl, b6, hb6⟩
      obtain ⟨P6, p6, rfl, n6⟩ := own_nt b6 (limbs_dig _)
      have q6 : Below w5.heap.size w5 w6 := below_trans ((below_alloc (Below.refl w5.heap.size w5) (.cells #[.int .i64 0, .int .i64 0, .int .i64 0, .int .i64 0, .int .i64 0] 35))).drew hb6
      have F := five_new (W := w5) (T := 35) (below_trans (Below.refl _ _).drew hb6) (g := w5.heap.size) rfl
      go_simp
      refine hK11.out _ _ (q6) (fun _ => ?_)
      (try simp only [Act.put, List.getElem_toArray, List.getElem_cons_succ, List.getElem_cons_zero, List.setIfInBounds_toArray, List.set_cons_zero, List.set_cons_succ])
      refine wpAnyH_ready (rs := [7]) (by kernel_rfl) (by simp) ?_
      refine (AllReadyH.cons rfl (fun K12 hK12 => ?_) AllReadyH.nil)
      go_simp
      refine (cO1 _).mono ?_
      rintro e w7 ⟨v7, rfl, b7, hb7⟩
      obtain ⟨P7, p7, rfl, n7⟩ := own_nt b7 (limbs_dig _)
      have q7 : Below w5.heap.size w5 w7 := below_trans q6 hb7
      replace F := F.on hb7
      go_simp
      refine hK12.out _ _ (q7) (fun _ => ?_)
      (try simp only [Act.put, List.getElem_toArray, List.getElem_cons_succ, List.getElem_cons_zero, List.setIfInBounds_toArray, List.set_cons_zero, List.set_cons_succ])
      (refine wpAnyH_take (i := 8) (v := ?_) rfl (by kernel_rfl) (by kernel_rfl) (by kernel_rfl) (fun _ _ _ h => h) (Or.inl ⟨by rfl, ?_⟩) (by assumption) ?_; rotate_left 1; (focus (intro wz hSz; (try dsimp only at hSz); go_simp; (try with_reducible rfl))); (try simp only [Act.put, List.setIfInBounds_toArray, List.set_cons_zero, List.set_cons_succ]))
      (try simp only [Act.put, List.getElem_toArray, List.getElem_cons_succ, List.getElem_cons_zero, List.setIfInBounds_toArray, List.set_cons_zero, List.set_cons_succ])
      refine wpAnyH_ready (rs := [9]) (by kernel_rfl) (by simp) ?_
      refine (AllReadyH.cons rfl (fun K13 hK13 => ?_) AllReadyH.nil)
      go_simp
      have qc := q7
      have m7 := n7
      have m6 := n6.on hb7
      refine (cTs _ _ _ _ _ qc m6 m7).mono ?_
      rintro e w8 ⟨sn, bd, t, v1, v2, rfl, ht, o1, o2, hb8⟩
      have q8 : Below w5.heap.size w5 w8 := below_trans q7 hb8
      replace F := F.on hb8
      go_simp
      refine hK13.out _ _ (q8) (fun _ => ?_)
      (try simp only [Act.put, List.getElem_toArray, List.getElem_cons_succ, List.getElem_cons_zero, List.setIfInBounds_toArray, List.set_cons_zero, List.set_cons_succ])
      (refine wpAnyH_take (i := 10) (v := ?_) rfl (by kernel_rfl) (by kernel_rfl) (by kernel_rfl) (fun _ _ _ h => h) (Or.inl ⟨by rfl, ?_⟩) (by assumption) ?_; rotate_left 1; (focus (intro wz hSz; (try dsimp only at hSz); go_simp; (try with_reducible rfl))); (try simp only [Act.put, List.setIfInBounds_toArray, List.set_cons_zero, List.set_cons_succ]))
      (try simp only [Act.put, List.getElem_toArray, List.getElem_cons_succ, List.getElem_cons_zero, List.setIfInBounds_toArray, List.set_cons_zero, List.set_cons_succ])
      (refine wpAnyH_take (i := 11) (v := ?_) rfl (by kernel_rfl) (by kernel_rfl) (by kernel_rfl) (fun _ _ _ h => h) (Or.inl ⟨by rfl, ?_⟩) (by assumption) ?_; rotate_left 1; (focus (intro wz hSz; (try dsimp only at hSz); go_simp; (try with_reducible rfl))); (try simp only [Act.put, List.setIfInBounds_toArray, List.set_cons_zero, List.set_cons_succ]))
      (try simp only [Act.put, List.getElem_toArray, List.getElem_cons_succ, List.getElem_cons_zero, List.setIfInBounds_toArray, List.set_cons_zero, List.set_cons_succ])
      (refine wpAnyH_take (i := 12) (v := ?_) rfl (by kernel_rfl) (by kernel_rfl) (by kernel_rfl) (fun _ _ _ h => h) (Or.inl ⟨by rfl, ?_⟩) (by assumption) ?_; rotate_left 1; (focus (intro wz hSz; (try dsimp only at hSz); go_simp; (try with_reducible rfl))); (try simp only [Act.put, List.setIfInBounds_toArray, List.set_cons_zero, List.set_cons_succ]))
      (try simp only [Act.put, List.getElem_toArray, List.getElem_cons_succ, List.getElem_cons_zero, List.setIfInBounds_toArray, List.set_cons_zero, List.set_cons_succ])
      (refine wpAnyH_take (i := 13) (v := ?_) rfl (by kernel_rfl) (by kernel_rfl) (by kernel_rfl) (fun _ _ _ h => h) (Or.inl ⟨by rfl, ?_⟩) (by assumption) ?_; rotate_left 1; (focus (intro wz hSz; (try dsimp only at hSz); go_simp; (try with_reducible rfl))); (try simp only [Act.put, List.setIfInBounds_toArray, List.set_cons_zero, List.set_cons_succ]))
      (try simp only [Act.put, List.getElem_toArray, List.getElem_cons_succ, List.getElem_cons_zero, List.setIfInBounds_toArray, List.set_cons_zero, List.set_cons_succ])
      (refine wpAnyH_take (i := 14) (v := ?_) rfl (by kernel_rfl) (by kernel_rfl) (by kernel_rfl) (fun _ _ _ h => h) (Or.inl ⟨by rfl, ?_⟩) (by assumption) ?_; rotate_left 1; (focus (intro wz hSz; (try dsimp only at hSz); go_simp; (try with_reducible rfl))); (try simp only [Act.put, List.setIfInBounds_toArray, List.set_cons_zero, List.set_cons_succ]))
      (try simp only [Act.put, List.getElem_toArray, List.getElem_cons_succ, List.getElem_cons_zero, List.setIfInBounds_toArray, List.set_cons_zero, List.set_cons_succ])
      refine wpAnyH_ready (rs := [16]) (by kernel_rfl) (by simp) ?_
      refine (AllReadyH.cons rfl (fun K14 hK14 => ?_) AllReadyH.nil)
      obtain ⟨⟨y0, f0⟩, ⟨y1, f1⟩, ⟨y2, f2⟩, ⟨y3, f3⟩, ⟨y4, f4⟩⟩ := F
      go_simp
      have QF : Below w5.heap.size w5 (((((w8.setCell ⟨w5.heap.size, 0, none⟩ (.int .i64 N)).setCell ⟨w5.heap.size, 1, none⟩ (.int .i64 k)).setCell ⟨w5.heap.size, 2, none⟩ (.int .i64 sn)).setCell ⟨w5.heap.size, 3, none⟩ (.int .i64 bd)).setCell ⟨w5.heap.size, 4, none⟩ (.int .i64 t)) := below_set5 q8 (Nat.le_refl _)
      have C4 : (((((w8.setCell ⟨w5.heap.size, 0, none⟩ (.int .i64 N)).setCell ⟨w5.heap.size, 1, none⟩ (.int .i64 k)).setCell ⟨w5.heap.size, 2, none⟩ (.int .i64 sn)).setCell ⟨w5.heap.size, 3, none⟩ (.int .i64 bd)).setCell ⟨w5.heap.size, 4, none⟩ (.int .i64 t)).cell? ⟨w5.heap.size, 4, none⟩ = some (.int .i64 t) := by go_simp
      have O1 : Own (((((w8.setCell ⟨w5.heap.size, 0, none⟩ (.int .i64 N)).setCell ⟨w5.heap.size, 1, none⟩ (.int .i64 k)).setCell ⟨w5.heap.size, 2, none⟩ (.int .i64 sn)).setCell ⟨w5.heap.size, 3, none⟩ (.int .i64 bd)).setCell ⟨w5.heap.size, 4, none⟩ (.int .i64 t)) w5.heap.size 4 1 encB v1 (pickL a (rsL sd N k)) := Own.down (own_set5 o1 (by have h1 := hb6.size; have h2 := hb7.size; simp at h1; omega)) qc.size
      have O2 : Own (((((w8.setCell ⟨w5.heap.size, 0, none⟩ (.int .i64 N)).setCell ⟨w5.heap.size, 1, none⟩ (.int .i64 k)).setCell ⟨w5.heap.size, 2, none⟩ (.int .i64 sn)).setCell ⟨w5.heap.size, 3, none⟩ (.int .i64 bd)).setCell ⟨w5.heap.size, 4, none⟩ (.int .i64 t)) w5.heap.size 4 1 encB v2 (pickL x (rsL sd N k)) := Own.down (own_set5 o2 (by have h1 := hb6.size; have h2 := hb7.size; simp at h1; omega)) qc.size
      refine hK14.out _ _ (QF) (fun _ => ?_)
      (try simp only [Act.put, List.getElem_toArray, List.getElem_cons_succ, List.getElem_cons_zero, List.setIfInBounds_toArray, List.set_cons_zero, List.set_cons_succ])
      (refine wpAnyH_take (i := 17) (v := ?_) rfl (by kernel_rfl) (by kernel_rfl) (by kernel_rfl) (fun _ _ _ h => h) (Or.inl ⟨by rfl, ?_⟩) (by assumption) ?_; rotate_left 1; (focus (intro wz hSz; (try dsimp only at hSz); go_simp; (try with_reducible rfl))); (try simp only [Act.put, List.setIfInBounds_toArray, List.set_cons_zero, List.set_cons_succ]))
      (try simp only [Act.put, List.getElem_toArray, List.getElem_cons_succ, List.getElem_cons_zero, List.setIfInBounds_toArray, List.set_cons_zero, List.set_cons_succ])
      (refine wpAnyH_take (i := 18) (v := ?_) rfl (by kernel_rfl) (by kernel_rfl) (by kernel_rfl) (fun _ _ _ h => h) (Or.inl ⟨by rfl, ?_⟩) (by assumption) ?_; rotate_left 1; (focus (intro wz hSz; (try dsimp only at hSz); go_simp; (try with_reducible rfl))); (try simp only [Act.put, List.setIfInBounds_toArray, List.set_cons_zero, List.set_cons_succ]))
      (try simp only [Act.put, List.getElem_toArray, List.getElem_cons_succ, List.getElem_cons_zero, List.setIfInBounds_toArray, List.set_cons_zero, List.set_cons_succ])
      (refine wpAnyH_take (i := 19) (v := ?_) rfl (by kernel_rfl) (by kernel_rfl) (by kernel_rfl) (fun _ _ _ h => h) (Or.inl ⟨by rfl, ?_⟩) (by assumption) ?_; rotate_left 1; (focus (intro wz hSz; (try dsimp only at hSz); go_simp; (try with_reducible rfl))); (try simp only [Act.put, List.setIfInBounds_toArray, List.set_cons_zero, List.set_cons_succ]))
      (try simp only [Act.put, List.getElem_toArray, List.getElem_cons_succ, List.getElem_cons_zero, List.setIfInBounds_toArray, List.set_cons_zero, List.set_cons_succ])
      refine wpAnyH_done (by kernel_rfl) ?_ _
      go_wp2_with fail
      go_meet
      case rel => exact ⟨_, t, rfl, ht.1, ht.2, C4, rfl, O1, O2, QF⟩
    --CUT)
  as_aux_lemma =>
    obtain ⟨gT, t, rfl, t0, t1, xT, rfl, o1, o2, hb6⟩ := hcut
    obtain ⟨w6, rfl⟩ : ∃ y, y = wc := ⟨_, rfl⟩
    obtain ⟨m, hm⟩ : ∃ m, pickL a (rsL sd N k) = m := ⟨_, rfl⟩
    obtain ⟨th, hth⟩ : ∃ m, pickL x (rsL sd N k) = m := ⟨_, rfl⟩
    have lm : m.length = N - k := by rw [← hm, pick_len, rs_leng hkN (by omega)]
    have lth : th.length = N - k := by rw [← hth, pick_len, rs_leng hkN (by omega)]
    rw [hm] at o1
    rw [hth] at o2
    obtain ⟨M, hM⟩ : ∃ M, N - k = M := ⟨_, rfl⟩
    have hMi : (N : Int) - (k : Int) = (M : Int) := by omega
    rw [hM] at lm lth
    obtain ⟨A5, c5, rfl, l5, m5, n5, ar5⟩ := o1.form encB_len
    obtain ⟨A6, c6, rfl, l6, m6, n6, ar6⟩ := o2.form encB_len
    rw [lm] at l5 ⊢
    rw [lth] at l6 ⊢
    have B26 := below_trans hb5 hb6
    have K6 := fun j u (hu : w2.cell? ⟨w.heap.size, j, none⟩ = some u) => bel_cell B26 hu
    replace x0 := K6 _ _ x0; replace x1 := K6 _ _ x1; replace x2 := K6 _ _ x2; replace x3 := K6 _ _ x3; replace x4 := K6 _ _ x4; replace x5 := K6 _ _ x5; replace x6 := K6 _ _ x6; replace x7 := K6 _ _ x7; replace x8 := K6 _ _ x8
    have BW6 : Below w.heap.size w w6 := B2.trans (B26.mono B2.size)
    clear K6 xE0 xE1 n3 n4 cTs L8 LE0 LE1 L7 cO1 cOE hb5 B26 o1 o2 ar1 ar2 hb2 B2 bW hgE hb6 hm hth
    go_wp2_with fail
    refine (CP.out w6).mono ?_
    rintro e w7 ⟨rfl, hb7⟩
    obtain ⟨C, hC⟩ : ∃ C : Cas, C = ⟨1 + p % 3, 1 + b % 32, sd, M⟩ := ⟨_, rfl⟩
    have cok : C.Ok := by subst hC; exact ⟨by simp; omega, by simp; omega, by simp; omega⟩
    have hCn : C.n = M := by rw [hC]
    have cR := Run_any C A6 c6 th A5 c5 m w7 cok (by rw [hCn]; exact lth) (by rw [hCn]; exact lm) (ar6.on hb7) n6 (by omega) m6 (ar5.on hb7)
    have rok := runT_ok cok m (by rw [hCn]; exact lth)
    obtain ⟨Q, hQ⟩ : ∃ Q, C.runT m th = Q := ⟨_, rfl⟩
    rw [hQ] at cR rok
    have lQ : Q.b.length = M := by rw [← hCn]; exact rok.len
    have lT : Q.told.length ≤ 43923 := by
      have h1 := rok.few
      have h2 : C.P ≤ 3 := by rw [hC]; simp; omega
      have h3 : (C.n + 1) * (C.n + 1) ≤ 121 * 121 := Nat.mul_le_mul (by omega) (by omega)
      have h4 : C.P * ((C.n + 1) * (C.n + 1)) ≤ 3 * (121 * 121) := Nat.mul_le_mul h2 h3
      omega
    rw [hCn] at cR
    have e1 : (C.P : Int) = 1 + (p : Int) % 3 := by rw [hC]; simp
    have e2 : (C.K : Int) = 1 + (b : Int) % 32 := by rw [hC]; simp
    have e3 : C.sd = sd := by rw [hC]
    rw [e1, e2, e3] at cR
    clear e1 e2 e3 hQ rok cok hCn hC
    go_wp2_with fail
    refine cR.mono ?_
    rintro e w8 ⟨u8, v8, rfl, ou, ov, hb8⟩
    obtain ⟨A7, c7, rfl, l7, m7, n7, ar7⟩ := ou.form encB_len
    obtain ⟨A8, c8, rfl, l8, m8, n8, _⟩ := ov.form encA_len
    obtain ⟨bk, hbk⟩ : ∃ bk, Q.b = bk := ⟨_, rfl⟩
    rw [hbk] at ar7
    rw [lQ] at l7 ⊢
    have lbk : bk.length = M := by rw [← hbk]; exact lQ
    obtain ⟨T, hT⟩ : ∃ T, Q.told.length = T := ⟨_, rfl⟩
    rw [hT] at lT l8 ⊢
    obtain ⟨en1, en2, _, _⟩ := top_led (T := T) (W := V) (by omega) (by omega)
    have B68 := below_trans hb7 hb8
    have ar5' := ar5.on B68
    have K8 := fun j u (hu : w6.cell? ⟨w.heap.size, j, none⟩ = some u) => bel_cell B68 hu
    replace x5 := K8 _ _ x5; replace x8 := K8 _ _ x8
    replace xT := bel_cell B68 xT
    have BW8 : Below w.heap.size w w8 := BW6.trans (B68.mono BW6.size)
    have HaN' := HaN
    have cE1 := Enter_any none 0 [] 1 T w8 Arr.nil (by simp) (fun _ => rfl)
    rw [en1] at cE1
    simp only [Ent.e, Ent.l] at cE1
    clear cR ou ov hbk lQ hT B68 K8 ar5 ar6 x0 x1 x2 x3 x4 x6 x7 BW6 hb7 hb8 CP CT
    go_wp2_with fail
    refine cE1.mono ?_
    rintro e w9 ⟨v9, rfl, o9, hb9⟩
    obtain ⟨A9, c9, rfl, l9, m9, n9, ar9⟩ := o9.form Itm.enc_len
    have cE2 := Enter_any A9 c9 [⟨1, (T : Int)⟩] 3 V w9 ar9 (by simp) n9
    rw [en2] at cE2
    simp only [Ent.e, Ent.l] at cE2
    have i1 : ([⟨1, (T : Int)⟩] : List Itm).length = 1 := rfl
    rw [i1] at cE2 l9 ⊢
    clear en1 en2 cE1 o9 ar9
    go_wp2_with fail
    refine cE2.mono ?_
    rintro e w10 ⟨v10, rfl, o10, hb10⟩
    obtain ⟨A10, c10, rfl, l10, m10, n10, ar10⟩ := o10.form Itm.enc_len
    have i2 : (topL T V).length = 2 := rfl
    rw [i2] at l10 ⊢
    have B810 := below_trans hb9 hb10
    have K10 := fun j u (hu : w8.cell? ⟨w.heap.size, j, none⟩ = some u) => bel_cell B810 hu
    replace x5 := K10 _ _ x5; replace x8 := K10 _ _ x8
    replace xT := bel_cell B810 xT
    have ar5 := ar5'.on B810
    have ar7' := ar7.on B810
    have BW10 : Below w.heap.size w w10 := BW8.trans (B810.mono BW8.size)
    clear cE2 o10 B810 K10 ar5' ar7 hb9 hb10 BW8 i1 i2 n9
    obtain ⟨D, hD⟩ : ∃ D, 2 ^ V = D := ⟨_, rfl⟩
    have wV : IntKind.u64.wrap ((2 : Int) ^ V) = (D : Int) := by rw [pow_u64 (by omega), hD]
    have hD0 : 0 < D := by rw [← hD]; exact Nat.pow_pos (by decide)
    obtain ⟨key, hkey, hkD⟩ : ∃ key : Nat, (sd : Int) % (D : Int) = (key : Int) ∧ key < D := ⟨sd % D, by simp, Nat.mod_lt _ hD0⟩
    have HD := Lib.hid hD
    have WV := Lib.hid wV
    clear hD wV
    have hM : M ≤ 120 := by omega
    obtain ⟨dg1, _⟩ := dig_ok3 (n := V) hV3 (k := key) (by rw [HD.out]; exact hkD) (m := m) (by omega)
    have cD := Digest_any V key A5 c5 m w10 ar5 (by omega) m5
    rw [dg1, lm] at cD
    go_upto_region 16 with fail
    have wV := WV.out
    go_wp2_with fail
    clear wV WV
    refine cD.mono ?_
    rintro e w11 ⟨rfl, hb11⟩
    obtain ⟨dn, hdn⟩ : ∃ dn, digN V key m = dn := ⟨_, rfl⟩
    rw [hdn]
    obtain ⟨F, hF⟩ : ∃ F, cfE V key bk dn = F := ⟨_, rfl⟩
    have ar7 := ar7'.on hb11
    have cC := Confirm_any V key dn A7 c7 bk w11 ar7 (by omega) m7
    rw [hF, lbk] at cC
    have Hdn := Lib.hid hdn; have HF := Lib.hid hF
    clear hdn hF cD ar7'
    go_wp2_with fail
    refine cC.mono ?_
    rintro e w12 ⟨rfl, hb12⟩
    have b1012 := below_trans hb11 hb12
    replace x5 := bel_cell b1012 x5
    replace x8 := bel_cell b1012 x8
    replace xT := bel_cell b1012 xT
    replace ar5 := ar5.on b1012
    replace ar7 := ar7.on hb12
    replace ar10 := ar10.on b1012
    have BW12 : Below w.heap.size w w12 := BW10.trans (b1012.mono BW10.size)
    have cSame := fun w' (hb : Below w12.heap.size w12 w') => Bools5T_any A7 A5 c7 c5 bk m w' (ar7.on hb) (ar5.on hb) (by omega) (by omega)
    rw [lbk, lm] at cSame
    have cW := fun w' => works6_any w'
    clear cC b1012 hb11 hb12 BW10
    obtain ⟨mg, hmg, hmg2⟩ : ∃ q : Nat, (g : Int) % 16 = (q : Int) ∧ q ≤ 15 := ⟨g % 16, by simp, by omega⟩
    have i2 : (topL T V).length = 2 := rfl
    cases hF0 : (F != 0) with
    | true =>
      have nB : decide (bk = m) = false := by
        rw [decide_eq_false_iff_not]
        refine top_conf hV3 (by rw [HD.out]; exact hkD) (by omega) ?_
        rw [Hdn.out, HF.out]
        simpa using hF0
      rw [nB] at cSame
      go_wp2_with (first
        | (go_at_call 13; refine (cSame _ (Below.refl _ _)).mono ?_; rintro e w13 ⟨rfl, hb13⟩)
        | (go_at_call 14; refine (cW _).mono ?_; rintro e w14 ⟨rfl, hb14⟩))
      go_ret
      exact ⟨rfl, BW12.trans ((below_trans hb13 hb14).mono BW12.size)⟩
    | false =>
      have hF1 : F = 0 := by simpa using hF0
      have cDs1 := Distil_any A5 c5 m M t A10 c10 (topL T V) mg sd w12 ar5 ar10 (by rw [i2]; decide)
      have cDs2 := fun w' (hb : Below w12.heap.size w12 w') => Distil_any A7 c7 bk M t A10 c10 (topL T V) mg sd w' (ar7.on hb) (ar10.on hb) (by rw [i2]; decide)
      have eE := dsE_len (a := bk) (b := m) (by omega) M t (topL T V) mg
      rw [i2, lm] at cDs1
      rw [i2, lbk, eE] at cDs2
      obtain ⟨E9, hE9⟩ : ∃ e, dsE m M t (topL T V) mg = e := ⟨_, rfl⟩
      rw [hE9] at cDs1 cDs2
      have HE9 := Lib.hid hE9
      clear hE9 eE i2
      go_wp2_with fail
      refine cDs1.mono ?_
      rintro e w13 ⟨v13, rfl, o13, hb13⟩
      obtain ⟨A13, c13, rfl, l13, m13, n13, ar13⟩ := o13.form encB_len
      have y8 := bel_cell hb13 x8
      have yT := bel_cell hb13 xT
      go_wp2_with fail
      refine (cDs2 _ hb13).mono ?_
      rintro e w14 ⟨v14, rfl, o14, hb14⟩
      obtain ⟨A14, c14, rfl, l14, m14, n14, ar14⟩ := o14.form encB_len
      replace ar13 := ar13.on hb14
      have b14 := below_trans hb13 hb14
      replace xT := bel_cell b14 xT
      have BW14 := BW12.trans (b14.mono BW12.size)
      have hS1 := ds_short (a := m) (by omega) ⟨t0, t1⟩ (show (0 : Int) ≤ (mg : Int) ∧ (mg : Int) ≤ 512 by omega) (T := T) (W := V) (by omega) (by omega) sd
      have hS2 := ds_short (a := bk) (by omega) ⟨t0, t1⟩ (show (0 : Int) ≤ (mg : Int) ∧ (mg : Int) ≤ 512 by omega) (T := T) (W := V) (by omega) (by omega) sd
      rw [lm] at hS1
      rw [lbk] at hS2
      have cSame2 := fun w' (hb : Below w14.heap.size w14 w') => Bools5T_any A13 A14 c13 c14 _ _ w' (ar13.on hb) (ar14.on hb) (Nat.le_trans hS1 (by decide)) (Nat.le_trans hS2 (by decide))
      replace cSame := fun w' (hb : Below w14.heap.size w14 w') => cSame w' (below_trans b14 hb)
      have cCol := fun w' (hb : Below w14.heap.size w14 w') => Collisions_any 8 A7 c7 bk A5 c5 m w' (ar7.on (below_trans b14 hb)) (by omega) m7 (ar5.on (below_trans b14 hb)) (by omega) m5
      rw [lbk, lm] at cCol
      have tds := top_ds (a := m) (by omega) ⟨t0, t1⟩ (show (0 : Int) ≤ (mg : Int) ∧ (mg : Int) ≤ 512 by omega) (T := T) (W := V) (by omega) (by omega) sd
      rw [lm, HE9.out] at tds
      have hpq : bk = m → dsL bk M t (topL T V) mg sd = dsL m M t (topL T V) mg sd := fun h => by rw [h]
      generalize dsL m M t (topL T V) mg sd = kp at *
      generalize dsL bk M t (topL T V) mg sd = kq at *
      have HPQ := Lib.hid hpq
      clear hpq
      generalize hLp : kp.length = Lp at *
      generalize hLq : kq.length = Lq at *
      have bl17 : (limbs (ballN M t)).length ≤ 17 := ball_len (ballM_le M t) (by omega)
      have cBa := fun w' => Ball_any M t w' (by omega) (by omega) (by omega)
      clear cDs1 cDs2 o13 o14 ar5 ar7 ar10 ar13 ar14 hb13 hb14 b14 yT x5 x8 y8 HaN Hx HaN'
      rcases tds with ⟨hE, _⟩ | ⟨hE, hpos, hsum⟩
      · subst hE
        as_aux_lemma =>
          cases hBM : decide (bk = m) with
          | true =>
            have hk2 : kq = kp := HPQ.out (of_decide_eq_true hBM)
            have hkd : decide (kp = kq) = true := by rw [decide_eq_true_eq]; exact hk2.symm
            rw [hBM] at cSame
            rw [hkd] at cSame2
            clear hk2 hkd
            go_wp2_with (first
              | (go_at_call 13; refine Calls.on (args' := #[.slice A7 M c7, .slice A5 M c5]) rfl ?_; refine (cSame _ (Below.refl _ _)).mono ?_; rintro e w15 ⟨rfl, hb15⟩; have xT5 := bel_cell hb15 xT)
              | (go_at_call 13; refine Calls.on (args' := #[.slice A13 Lp c13, .slice A14 Lq c14]) rfl ?_; refine (cSame2 _ hb15).mono ?_; rintro e w16 ⟨rfl, hb16⟩; have xT6 := bel_cell hb16 xT5)
              | (go_at_call 14; refine (cW _).mono ?_; rintro e w19 ⟨rfl, hb19⟩))
            go_ret
            exact ⟨rfl, BW14.trans ((below_trans (below_trans hb15 hb16) hb19).mono BW14.size)⟩
          | false =>
            have hne := of_decide_eq_false hBM
            rw [hBM] at cSame
            cases hV8 : ((V : Int) == 8) with
            | true =>
              have hVe : V = 8 := by have := eq_of_beq hV8; omega
              have tc := top_col (k := key) (by have h1 := HD.out; rw [hVe] at h1; omega) (m := m) (b := bk) (by omega) (by omega) (by have h1 := HF.out; have h2 := Hdn.out; rw [hVe] at h1 h2; rw [show ((8 : Nat) : Int) = 8 from rfl] at h1 h2; rw [h2, h1]; exact hF1) hne
              obtain ⟨n0, hn0⟩ : ∃ q, colN 8 bk m = q := ⟨_, rfl⟩
              rw [hn0] at tc cCol
              rw [tc.1] at cCol
              have tc1 := tc.2.1; have tc2 := tc.2.2
              rw [lm] at tc2
              clear tc
              have d1 : decide ((n0 : Int) < 1) = false := by simp; omega
              obtain ⟨M8, hM8⟩ : ∃ q : Nat, (M : Int) / 8 = (q : Int) := ⟨M / 8, by simp⟩
              have d2 : decide ((M8 : Int) + 2 < (n0 : Int)) = false := by simp; omega
              go_wp2_with (first
                | (go_at_call 13; refine Calls.on (args' := #[.slice A7 M c7, .slice A5 M c5]) rfl ?_; refine (cSame _ (Below.refl _ _)).mono ?_; rintro e w15 ⟨rfl, hb15⟩; have xT5 := bel_cell hb15 xT)
                | (go_at_call 16; refine (cCol _ hb15).mono ?_; rintro e w16 ⟨rfl, hb16⟩; have xT6 := bel_cell hb16 xT5)
                | (go_at_call 14; refine (cW _).mono ?_; rintro e w19 ⟨rfl, hb19⟩))
              go_ret
              exact ⟨rfl, BW14.trans ((below_trans (below_trans hb15 hb16) hb19).mono BW14.size)⟩
            | false =>
              go_wp2_with (first
                | (go_at_call 13; refine Calls.on (args' := #[.slice A7 M c7, .slice A5 M c5]) rfl ?_; refine (cSame _ (Below.refl _ _)).mono ?_; rintro e w15 ⟨rfl, hb15⟩; have xT5 := bel_cell hb15 xT)
                | (go_at_call 14; refine (cW _).mono ?_; rintro e w19 ⟨rfl, hb19⟩))
              go_ret
              exact ⟨rfl, BW14.trans ((below_trans hb15 hb19).mono BW14.size)⟩
      · subst hE
        as_aux_lemma =>
          obtain ⟨bt, hbt⟩ : ∃ bt, bitLen (ballN M t) = bt := ⟨_, rfl⟩
          rw [hbt] at hsum
          have hS : ((bt : Int) + (T : Int) + (V : Int) + (mg : Int) + (Lp : Int) == (M : Int)) = true := by rw [beq_iff_eq]; exact hsum
          have hP0 : decide (0 < (Lp : Int)) = true := by simp; omega
          have hbt2 : bt ≤ 120 ∧ T + V + mg + Lp ≤ 120 := by omega
          clear hsum
          cases hBM : decide (bk = m) with
          | true =>
            have hk2 : kq = kp := HPQ.out (of_decide_eq_true hBM)
            have hkd : decide (kp = kq) = true := by rw [decide_eq_true_eq]; exact hk2.symm
            rw [hBM] at cSame
            rw [hkd] at cSame2
            clear hk2 hkd
            go_wp2_with (first
              | (go_at_call 13; refine Calls.on (args' := #[.slice A7 M c7, .slice A5 M c5]) rfl ?_; refine (cSame _ (Below.refl _ _)).mono ?_; rintro e w15 ⟨rfl, hb15⟩; have xT5 := bel_cell hb15 xT)
              | (go_at_call 13; refine Calls.on (args' := #[.slice A13 Lp c13, .slice A14 Lq c14]) rfl ?_; refine (cSame2 _ hb15).mono ?_; rintro e w16 ⟨rfl, hb16⟩; have xT6 := bel_cell hb16 xT5)
              | (go_at_call 17; refine (cBa _).mono ?_; rintro e w17 ⟨v17, rfl, o17, hb17⟩; obtain ⟨A17, c17, rfl, n17⟩ := own_nt o17 (limbs_dig _))
              | (go_at_call 18; refine (Bits_any A17 c17 (limbs (ballN M t)) _ n17 (by omega)).mono ?_; rintro e w18 ⟨rfl, rfl⟩; rw [V_limbs, hbt])
              | (go_at_call 14; refine (cW _).mono ?_; rintro e w19 ⟨rfl, hb19⟩))
            go_ret
            exact ⟨rfl, BW14.trans ((below_trans (below_trans (below_trans hb15 hb16) hb17) hb19).mono BW14.size)⟩
          | false =>
            have hne := of_decide_eq_false hBM
            rw [hBM] at cSame
            cases hV8 : ((V : Int) == 8) with
            | true =>
              have hVe : V = 8 := by have := eq_of_beq hV8; omega
              have tc := top_col (k := key) (by have h1 := HD.out; rw [hVe] at h1; omega) (m := m) (b := bk) (by omega) (by omega) (by have h1 := HF.out; have h2 := Hdn.out; rw [hVe] at h1 h2; rw [show ((8 : Nat) : Int) = 8 from rfl] at h1 h2; rw [h2, h1]; exact hF1) hne
              obtain ⟨n0, hn0⟩ : ∃ q, colN 8 bk m = q := ⟨_, rfl⟩
              rw [hn0] at tc cCol
              rw [tc.1] at cCol
              have tc1 := tc.2.1; have tc2 := tc.2.2
              rw [lm] at tc2
              clear tc
              have d1 : decide ((n0 : Int) < 1) = false := by simp; omega
              obtain ⟨M8, hM8⟩ : ∃ q : Nat, (M : Int) / 8 = (q : Int) := ⟨M / 8, by simp⟩
              have d2 : decide ((M8 : Int) + 2 < (n0 : Int)) = false := by simp; omega
              have hS8 : ((bt : Int) + (T : Int) + 8 + (mg : Int) + (Lp : Int) == (M : Int)) = true := by rw [hVe] at hS; exact hS
              clear hS
              go_wp2_with (first
                | (go_at_call 13; refine Calls.on (args' := #[.slice A7 M c7, .slice A5 M c5]) rfl ?_; refine (cSame _ (Below.refl _ _)).mono ?_; rintro e w15 ⟨rfl, hb15⟩; have xT5 := bel_cell hb15 xT)
                | (go_at_call 16; refine (cCol _ hb15).mono ?_; rintro e w16 ⟨rfl, hb16⟩; have xT6 := bel_cell hb16 xT5)
                | (go_at_call 17; refine (cBa _).mono ?_; rintro e w17 ⟨v17, rfl, o17, hb17⟩; obtain ⟨A17, c17, rfl, n17⟩ := own_nt o17 (limbs_dig _))
                | (go_at_call 18; refine (Bits_any A17 c17 (limbs (ballN M t)) _ n17 (by omega)).mono ?_; rintro e w18 ⟨rfl, rfl⟩; rw [V_limbs, hbt])
                | (go_at_call 14; refine (cW _).mono ?_; rintro e w19 ⟨rfl, hb19⟩))
              go_ret
              exact ⟨rfl, BW14.trans ((below_trans (below_trans (below_trans hb15 hb16) hb17) hb19).mono BW14.size)⟩
            | false =>
              go_wp2_with (first
                | (go_at_call 13; refine Calls.on (args' := #[.slice A7 M c7, .slice A5 M c5]) rfl ?_; refine (cSame _ (Below.refl _ _)).mono ?_; rintro e w15 ⟨rfl, hb15⟩; have xT5 := bel_cell hb15 xT)
                | (go_at_call 17; refine (cBa _).mono ?_; rintro e w17 ⟨v17, rfl, o17, hb17⟩; obtain ⟨A17, c17, rfl, n17⟩ := own_nt o17 (limbs_dig _))
                | (go_at_call 18; refine (Bits_any A17 c17 (limbs (ballN M t)) _ n17 (by omega)).mono ?_; rintro e w18 ⟨rfl, rfl⟩; rw [V_limbs, hbt])
                | (go_at_call 14; refine (cW _).mono ?_; rintro e w19 ⟨rfl, hb19⟩))
              go_ret
              exact ⟨rfl, BW14.trans ((below_trans (below_trans hb15 hb17) hb19).mono BW14.size)⟩

end Go.Proofs.YtfolgmcoggejbaaGreat
