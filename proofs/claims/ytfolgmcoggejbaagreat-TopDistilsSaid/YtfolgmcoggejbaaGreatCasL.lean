/- Contract of a course's New. For a plan that is valid. -/
import Derived.Test.YtfolgmcoggejbaaGreatCasK
namespace Go.Proofs.YtfolgmcoggejbaaGreat
open Go.RowKit Go.Maps
set_option linter.unusedVariables false
set_option linter.unusedSimpArgs false

theorem quests_info : (Tryz.prog.info? 199).map (fun i => (i.zero, i.size, i.bytes)) = some (some (.slice none 0 0), 1, 24) := by kernel_rfl
theorem box_it (w : World) (A : Option Addr) (n k : Nat) (T : TypeId) : ∀ j u, [It.enc ⟨A, n, k⟩][j]? = some u → (w.alloc (.cells #[.slice A n k] T)).cell? ⟨w.heap.size, j, none⟩ = some u := fun j u hu => by
  have hcs : (#[Value.slice A n k] : Array Value).toList = [It.enc ⟨A, n, k⟩] := rfl
  exact new_cell (w := w) (by rw [← hu, ← hcs]; simp)
set_option maxRecDepth 100000 in
set_option maxHeartbeats 4000000 in
theorem mnew_any (c : Cas) (B : Option Addr) (cb : Nat) (b : List Bool) (w : World) (hc : c.Ok) (hb : b.length = c.n) (hB : Arr 1 encB w w.heap.size B b) (nB : B = none → cb = 0) (hl : b.length ≤ cb) (hcb : cb ≤ maxLen) :
    Calls Tryz.prog 45 #[.agg #[.int .i64 (c.P : Int), .int .i64 (c.K : Int), .int .u64 (c.sd : Int)], .slice B c.n cb] w fun e w' => ∃ M : Mem, e = .returned (.tuple #[.pointer (some ⟨M.g, 0, none⟩), .int .i64 0]) ∧ MacAt w' c (c.new b) M ∧ Below w.heap.size w w' ∧ (∀ k, M.T k → w.heap.size ≤ k) := by
  have hn := hc.n
  have b1 := below_alloc (Below.refl w.heap.size w) (.cells #[.int .i64 (c.P : Int), .int .i64 (c.K : Int), .int .u64 (c.sd : Int)] 43)
  have cS := csane_any c hc
  have x0 : (w.alloc (.cells #[.int .i64 (c.P : Int), .int .i64 (c.K : Int), .int .u64 (c.sd : Int)] 43)).cell? ⟨w.heap.size, 0, none⟩ = some (.int .i64 (c.P : Int)) := new_cell rfl
  have x1 : (w.alloc (.cells #[.int .i64 (c.P : Int), .int .i64 (c.K : Int), .int .u64 (c.sd : Int)] 43)).cell? ⟨w.heap.size, 1, none⟩ = some (.int .i64 (c.K : Int)) := new_cell rfl
  have x2 : (w.alloc (.cells #[.int .i64 (c.P : Int), .int .i64 (c.K : Int), .int .u64 (c.sd : Int)] 43)).cell? ⟨w.heap.size, 2, none⟩ = some (.int .u64 (c.sd : Int)) := new_cell rfl
  have cC := fun w' (hx : Below w.heap.size w w') => Clone_any B cb b w' (hB.on hx) nB hl hcb (by omega)
  rw [hb] at cC
  have hmm := @run_makeMap Tryz.prog
  have Hb := Lib.hid hb
  go_enter Tryz.func45, Tryz.ntmps45
  go_upto_region 4 with (go_at_call 104; refine (cS _).mono ?_; rintro e w2 ⟨rfl, hb2⟩)
  have q2 := below_trans b1 hb2
  have L0 := fun w' (hx : Below w2.heap.size w2 w') => bel_cell hx (bel_cell hb2 x0)
  have L1 := fun w' (hx : Below w2.heap.size w2 w') => bel_cell hx (bel_cell hb2 x1)
  have L2 := fun w' (hx : Below w2.heap.size w2 w') => bel_cell hx (bel_cell hb2 x2)
  have c3 := fun w' (hx : Below w2.heap.size w2 w') => cC w' (below_trans q2 hx)
  clear x0 x1 x2 cC cS hB nB hl hcb hb
  go_cut [7] (fun v wx => ∃ g mb bv, v = .pointer (some ⟨g, 0, none⟩) ∧ NewAt wx c b w2.heap.size wx.heap.size g mb bv (.slice none 0 0) (.slice none 0 0) [] [] 0 0 ∧ Below w2.heap.size w2 wx)
  case first =>
    go_region_held3 (fun w' => Below w2.heap.size w2 w')
      (repeat (first | assumption | (exact (Below.refl _ _).drew) | (exact (below_alloc (Below.refl _ _) _).drew) | (refine below_trans ?_ hx1) | (refine below_alloc ?_ _)))
      (first | (go_at_call 105; refine (c3 _ ?hB).mono ?_; (case hB => assumption); rintro e y1 ⟨v1, rfl, o1, hx1⟩; obtain ⟨A1, cc1, rfl, la1, ma1, na1, ar1⟩ := o1.form encB_len))
    · go_wp2_with fail
      go_meet
      case rel =>
        have s1 := q2.size
        have s2 := hx1.size
        simp only [World.size_drew] at s2
        have s2' : w2.heap.size ≤ w2.drew.heap.size := by simp
        have r := heap_alloc_new (y1.alloc (.map #[] 0)) (.cells (newCs c (.slice none 0 0) (.slice none 0 0) (.slice A1 b.length cc1) y1.heap.size) 134)
        rw [World.size_alloc] at r
        exact ⟨_, _, _, rfl, NewAt.start r (((own_base o1 s2').below (below_alloc (Below.refl _ _) _)).below (below_alloc (Below.refl _ _) _)) ((Knw.new y1).kept (grown_of_below (below_alloc (Below.refl _ _) _)) (by simp)) (by omega) (by omega), below_alloc (below_alloc (below_trans (Below.refl _ _).drew hx1) _) _⟩
    · go_wp2_with fail
      go_meet
      case rel =>
        have s1 := q2.size
        have s2 := hx1.size
        simp only [World.size_drew, World.size_alloc] at s2
        exact ⟨_, _, _, rfl, NewAt.start (heap_alloc_new _ _) ((own_base o1 (by simp)).below (below_alloc (Below.refl _ _) _)) ((((Knw.new w2).kept (grown_of_below (Below.refl _ _).drew) (by simp)).kept (grown_of_below hx1) (by simp)).kept (grown_of_below (below_alloc (Below.refl _ _) _)) (by simp)) (by omega) (by omega), below_alloc (below_trans ((below_alloc (Below.refl _ _) _).drew) hx1) _⟩
  obtain ⟨g, mb, bv, rfl, hA, hbC⟩ := hcut
  obtain ⟨wk, rfl⟩ : ∃ x, x = wc := ⟨_, rfl⟩
  have x0 := L0 _ hbC
  have x1 := L1 _ hbC
  have x2 := L2 _ hbC
  have q3 := below_trans q2 hbC
  clear L0 L1 L2 c3 q2 hbC
  have Hc := Lib.hid hc
  have hP := hc.P
  clear hc
  obtain ⟨s0, hs0⟩ : ∃ s, wk.heap.size = s := ⟨_, rfl⟩
  rw [hs0] at hA
  have hgw : w.heap.size < g := by have h1 := hA.lg.1; have h2 := hb2.size; rw [World.size_alloc] at h2; omega
  go_wp2_with fail
  go_loopw [24] (fun i wr => ∃ p : Nat, ∃ ov kv io ik, i = .int .i64 (p : Int) ∧ p ≤ c.P ∧ NewAt wr c b w2.heap.size s0 g mb bv ov kv io ik p p ∧ OutS (fun k => k = g ∨ s0 ≤ k) wk wr) (fun i _ => c.P - (intOf i).toNat)
  case atStart => exact ⟨0, _, _, _, _, rfl, Nat.zero_le _, hA, OutS.refl _ _⟩
  case round =>
    obtain ⟨p, ov, kv, io, ik, rfl, hp, hA2, hO⟩ := hrel
    rcases Nat.lt_or_ge p c.P with hlt | hge
    · have bx : ¬ (w.heap.size = g ∨ s0 ≤ w.heap.size) := by have := (World.block_lt_of_cell? wk _ x0); simp at this; omega
      have y0 := hO.cell x0 bx
      have y1 := hO.cell x1 bx
      have y2 := hO.cell x2 bx
      have z4 : wr.cell? ⟨g, 4, none⟩ = some ov := cell_of_row _ _ _ _ _ _ hA2.row
      obtain ⟨A4, c4, hv4, l4, m4, n4, ar4⟩ := hA2.ord.own.form (fun _ => rfl)
      have hlen : io.length = p := by rw [hA2.ord.len]; simp [Cas.ords]
      have hpl : p < c.P := hlt
      have SX : Hid (∀ w', OutS (fun k => k = g ∨ s0 ≤ k) wr.drew w' → w'.cell? ⟨w.heap.size, 0, none⟩ = some (.int .i64 (c.P : Int)) ∧ w'.cell? ⟨w.heap.size, 1, none⟩ = some (.int .i64 (c.K : Int)) ∧ w'.cell? ⟨w.heap.size, 2, none⟩ = some (.int .u64 (c.sd : Int))) := Lib.hid (fun w' ho => ⟨ho.cell y0 bx, ho.cell y1 bx, ho.cell y2 bx⟩)
      have cO := fun w' => cord_any c p w' Hc.out hlt
      have HA2 := Lib.hid hA2
      have hsz := hA2.hi
      have HO := Lib.hid hO
      rw [hv4] at z4
      rw [hlen] at z4 hv4
      have hov : Own wr s0 76 1 (fun x => [It.enc x]) (.slice A4 p c4) io := hv4 ▸ hA2.ord.own
      have LV : Hid (∀ k, (Value.slice A4 p c4).ownBlock = some k → s0 ≤ k) := Lib.hid (fun k hk => (World.ownsRow.lt hov k hk).1)
      have OWd : Hid (∀ w', Below wr.drew.heap.size wr.drew w' → Own w' s0 76 1 (fun x => [It.enc x]) (.slice A4 p c4) io) := Lib.hid (fun w' hb => (hov.below (Below.refl _ _).drew).below hb)
      have PUd : Hid (∀ w5, Below wr.drew.heap.size wr.drew w5 → ∀ A5 cc5, Own w5 wr.drew.heap.size 3 1 encI (.slice A5 (c.ord p).length cc5) (c.ord p) → ∀ w10 v10, (w5.alloc (.cells #[.slice A5 (c.ord p).length cc5] 76)).grownBy w10 (Value.slice A4 p c4).ownBlock → Own w10 s0 76 1 (fun x => [It.enc x]) v10 (io ++ [⟨A5, (c.ord p).length, cc5⟩]) →
          (w10.heap[g]? = some (.cells (newCs c (.slice A4 p c4) kv bv mb) 134 (0, 0)) ∧ NewAt (w10.setCell ⟨g, 4, none⟩ v10) c b w2.heap.size s0 g mb bv v10 kv (io ++ [⟨A5, (c.ord p).length, cc5⟩]) ik (p + 1) p) ∧ OutS (fun k => k = g ∨ s0 ≤ k) wr.drew w10) := Lib.hid (fun w5 hb5 A5 cc5 own5 w10 v10 hg10 own10 => by
        have h5 := ((hA2.on (Below.refl _ _).drew).on hb5).on (below_alloc (Below.refl _ _) (.cells #[.slice A5 (c.ord p).length cc5] 76))
        rw [hv4] at h5
        exact ⟨h5.pushO (it := ⟨A5, (c.ord p).length, cc5⟩) ((own_base own5 (Nat.le_trans hA2.hi (by simp))).below (below_alloc (Below.refl _ _) _)) hg10 own10, ((OutS.of hb5).trans (OutS.of (below_alloc (Below.refl _ _) _))).trans (OutS.grown hg10 (fun k hk => .inl (.inr (LV.out k hk))))⟩)
      obtain ⟨i0, hi, hz0, hz1, hz2⟩ := info_parts ints_info
      have Hi := Lib.hid hi; have Hz0 := Lib.hid hz0; have Hz1 := Lib.hid hz1; have Hz2 := Lib.hid hz2
      have hip : (io.length + 1) * 24 ≤ 140737488355328 := by have := Hc.out.P; omega
      clear hi hz0 hz1 hz2 hv4 hA2 ar4 l4 m4 n4 hO bx hov
      have hbs : ∀ w', Below wr.drew.heap.size wr.drew w' → ∀ o, s0 ≤ (w'.alloc o).heap.size := fun w' hb o => by have h1 := hb.size; simp at h1 ⊢; omega
      have O0 : OutS (fun k => k = g ∨ s0 ≤ k) wr.drew wr.drew := OutS.refl _ _
      go_upto_region 8 with fail
      go_cut [] (fun wx => ∃ v' it, NewAt wx c b w2.heap.size s0 g mb bv v' kv (io ++ [it]) ik (p + 1) p ∧ OutS (fun k => k = g ∨ s0 ≤ k) wk wx)
      case first =>
        refine wp_region_held_drew (S := fun w' => w'.cell? ⟨w.heap.size, 0, none⟩ = some (.int .i64 (c.P : Int)) ∧ w'.cell? ⟨w.heap.size, 1, none⟩ = some (.int .i64 (c.K : Int)) ∧ w'.cell? ⟨w.heap.size, 2, none⟩ = some (.int .u64 (c.sd : Int))) (by kernel_rfl) (SX.out _ O0) (fun hHeld => ?_)
        (refine wpAnyH_take (i := 0) (v := ?_) rfl (by kernel_rfl) (by kernel_rfl) (by kernel_rfl) (fun _ _ _ h => h) (Or.inl ⟨by rfl, ?_⟩) (by assumption) ?_; rotate_left 1; (focus (intro wz hSz; (try dsimp only at hSz); go_simp; (try with_reducible rfl))); (try simp only [Act.put, List.setIfInBounds_toArray, List.set_cons_zero, List.set_cons_succ]))
        (refine wpAnyH_take (i := 1) (v := ?_) rfl (by kernel_rfl) (by kernel_rfl) (by kernel_rfl) (fun _ _ _ h => h) (Or.inl ⟨by rfl, ?_⟩) (by assumption) ?_; rotate_left 1; (focus (intro wz hSz; (try dsimp only at hSz); go_simp; (try with_reducible rfl))); (try simp only [Act.put, List.setIfInBounds_toArray, List.set_cons_zero, List.set_cons_succ]))
        (refine wpAnyH_take (i := 2) (v := ?_) rfl (by kernel_rfl) (by kernel_rfl) (by kernel_rfl) (fun _ _ _ h => h) (Or.inl ⟨by rfl, ?_⟩) (by assumption) ?_; rotate_left 1; (focus (intro wz hSz; (try dsimp only at hSz); go_simp; (try with_reducible rfl))); (try simp only [Act.put, List.setIfInBounds_toArray, List.set_cons_zero, List.set_cons_succ]))
        (refine wpAnyH_take (i := 3) (v := ?_) rfl (by kernel_rfl) (by kernel_rfl) (by kernel_rfl) (fun _ _ _ h => h) (Or.inl ⟨by rfl, ?_⟩) (by assumption) ?_; rotate_left 1; (focus (intro wz hSz; (try dsimp only at hSz); go_simp; (try with_reducible rfl))); (try simp only [Act.put, List.setIfInBounds_toArray, List.set_cons_zero, List.set_cons_succ]))
        (refine wpAnyH_take (i := 5) (v := ?_) rfl (by kernel_rfl) (by kernel_rfl) (by kernel_rfl) (fun _ _ _ h => h) (Or.inl ⟨by rfl, ?_⟩) (by assumption) ?_; rotate_left 1; (focus (intro wz hSz; (try dsimp only at hSz); go_simp; (try with_reducible rfl))); (try simp only [Act.put, List.setIfInBounds_toArray, List.set_cons_zero, List.set_cons_succ]))
        (refine wpAnyH_take (i := 6) (v := ?_) rfl (by kernel_rfl) (by kernel_rfl) (by kernel_rfl) (fun _ _ _ h => h) (Or.inl ⟨by rfl, ?_⟩) (by assumption) ?_; rotate_left 1; (focus (intro wz hSz; (try dsimp only at hSz); go_simp; (try with_reducible rfl))); (try simp only [Act.put, List.setIfInBounds_toArray, List.set_cons_zero, List.set_cons_succ]))
        (refine wpAnyH_take (i := 7) (v := ?_) rfl (by kernel_rfl) (by kernel_rfl) (by kernel_rfl) (fun _ _ _ h => h) (Or.inl ⟨by rfl, ?_⟩) (by assumption) ?_; rotate_left 1; (focus (intro wz hSz; (try dsimp only at hSz); go_simp; (try with_reducible rfl))); (try simp only [Act.put, List.setIfInBounds_toArray, List.set_cons_zero, List.set_cons_succ]))
        (refine wpAnyH_take (i := 8) (v := ?_) rfl (by kernel_rfl) (by kernel_rfl) (by kernel_rfl) (fun _ _ _ h => h) (Or.inl ⟨by rfl, ?_⟩) (by assumption) ?_; rotate_left 1; (focus (intro wz hSz; (try dsimp only at hSz); go_simp; (try with_reducible rfl))); (try simp only [Act.put, List.setIfInBounds_toArray, List.set_cons_zero, List.set_cons_succ]))
        refine wpAnyH_ready (rs := [4, 9]) (by kernel_rfl) (by simp) ?_
        refine AllReadyH.cons rfl (fun K1 hK1 => ?_) (AllReadyH.cons rfl (fun K1 hK1 => ?_) AllReadyH.nil)
        · go_simp
          refine hK1.out _ _ (SX.out _ O0) (fun _ => ?_)
          (try simp only [Act.put, List.getElem_toArray, List.getElem_cons_succ, List.getElem_cons_zero, List.setIfInBounds_toArray, List.set_cons_zero, List.set_cons_succ])
          refine wpAnyH_ready (rs := [9]) (by kernel_rfl) (by simp) ?_
          refine AllReadyH.cons rfl (fun K2 hK2 => ?_) AllReadyH.nil
          go_simp
          go_at_call 106
          refine (cO _).mono ?_
          rintro e w5 ⟨v5, rfl, own5, hb5⟩
          obtain ⟨A5, cc5, rfl, l5, m5, n5, ar5⟩ := own5.form encI_len
          have O5 := O0.trans (OutS.of hb5)
          have z5 := bel_cell hb5 z4
          have z6 := bel_cell (below_alloc (Below.refl _ _) (.cells #[.slice A5 (c.ord p).length cc5] 76)) z5
          refine hK2.out _ _ (SX.out _ O5) (fun _ => ?_)
          (try simp only [Act.put, List.getElem_toArray, List.getElem_cons_succ, List.getElem_cons_zero, List.setIfInBounds_toArray, List.set_cons_zero, List.set_cons_succ])
          refine wpAnyH_ready (rs := [10]) (by kernel_rfl) (by simp) ?_
          refine AllReadyH.cons rfl (fun K3 hK3 => ?_) AllReadyH.nil
          go_simp
          refine hK3.out _ _ (SX.out _ (O5.trans (OutS.of (below_alloc (Below.refl _ _) _)))) (fun _ => ?_)
          (try simp only [Act.put, List.getElem_toArray, List.getElem_cons_succ, List.getElem_cons_zero, List.setIfInBounds_toArray, List.set_cons_zero, List.set_cons_succ])
          refine wpAnyH_ready (rs := [11]) (by kernel_rfl) (by simp) ?_
          refine AllReadyH.cons rfl (fun K4 hK4 => ?_) AllReadyH.nil
          refine step_snocT (by rfl) _ _ 128 (by rfl) s0 76 i0 _ 1 24 Tryz.underlying128 Hi.out Hz0.out Hz1.out Hz2.out rfl (by decide) (enc := fun x => [It.enc x]) _ io ⟨A5, (c.ord p).length, cc5⟩ (by rfl) ((OWd.out _ hb5).below (below_alloc (Below.refl _ _) _)) (by rfl) (box_it _ _ _ _ _) rfl (It.one _) hip (by decide) (hbs _ hb5 _) ?_
          intro v10 w10 own10 hg10 hat10
          have PU := Lib.hid (PUd.out _ hb5 _ _ own5 _ _ hg10 own10)
          obtain ⟨A10, c10, rfl, l10, m10, n10, ar10⟩ := own10.form (fun _ => rfl)
          have z10 : w10.cell? ⟨g, 4, none⟩ = some (.slice A4 p c4) := cell_of_row _ _ _ _ _ _ PU.out.1.1
          have f10 := frozen_of_row w10 g 4 _ _ PU.out.1.1
          refine hK4.out _ _ (SX.out _ PU.out.2) (fun _ => ?_)
          (try simp only [Act.put, List.getElem_toArray, List.getElem_cons_succ, List.getElem_cons_zero, List.setIfInBounds_toArray, List.set_cons_zero, List.set_cons_succ])
          (refine wpAnyH_take (i := 12) (v := ?_) rfl (by kernel_rfl) (by kernel_rfl) (by kernel_rfl) (fun _ _ _ h => h) (Or.inl ⟨by rfl, ?_⟩) (by assumption) ?_; rotate_left 1; (focus (intro wz hSz; (try dsimp only at hSz); go_simp; (try with_reducible rfl))); (try simp only [Act.put, List.setIfInBounds_toArray, List.set_cons_zero, List.set_cons_succ]))
          (refine wpAnyH_take (i := 13) (v := ?_) rfl (by kernel_rfl) (by kernel_rfl) (by kernel_rfl) (fun _ _ _ h => h) (Or.inl ⟨by rfl, ?_⟩) (by assumption) ?_; rotate_left 1; (focus (intro wz hSz; (try dsimp only at hSz); go_simp; (try with_reducible rfl))); (try simp only [Act.put, List.setIfInBounds_toArray, List.set_cons_zero, List.set_cons_succ]))
          refine wpAnyH_ready (rs := [14]) (by kernel_rfl) (by simp) ?_
          refine AllReadyH.cons rfl (fun K5 hK5 => ?_) AllReadyH.nil
          go_simp
          refine hK5.out _ _ (SX.out _ (PU.out.2.trans (OutS.set (.inl rfl)))) (fun _ => ?_)
          (try simp only [Act.put, List.getElem_toArray, List.getElem_cons_succ, List.getElem_cons_zero, List.setIfInBounds_toArray, List.set_cons_zero, List.set_cons_succ])
          refine wpAnyH_done (by kernel_rfl) ?_ _
          go_wp2_with fail
          go_meet
          case rel =>
            have e : (io ++ [(⟨A5, (c.ord p).length, cc5⟩ : It)]).length = p + 1 := by simp [hlen]
            have pu := PU.out
            rw [e] at pu
            exact ⟨_, _, pu.1.2, ((HO.out.trans (OutS.of (Below.refl _ _).drew)).trans pu.2).trans (OutS.set (.inl rfl))⟩
        · go_simp
          go_at_call 106
          refine (cO _).mono ?_
          rintro e w5 ⟨v5, rfl, own5, hb5⟩
          obtain ⟨A5, cc5, rfl, l5, m5, n5, ar5⟩ := own5.form encI_len
          have O5 := O0.trans (OutS.of hb5)
          have z5 := bel_cell hb5 z4
          have z6 := bel_cell (below_alloc (Below.refl _ _) (.cells #[.slice A5 (c.ord p).length cc5] 76)) z5
          refine hK1.out _ _ (SX.out _ O5) (fun _ => ?_)
          (try simp only [Act.put, List.getElem_toArray, List.getElem_cons_succ, List.getElem_cons_zero, List.setIfInBounds_toArray, List.set_cons_zero, List.set_cons_succ])
          refine wpAnyH_ready (rs := [4, 10]) (by kernel_rfl) (by simp) ?_
          refine AllReadyH.cons rfl (fun K2 hK2 => ?_) (AllReadyH.cons rfl (fun K2 hK2 => ?_) AllReadyH.nil)
          · go_simp
            refine hK2.out _ _ (SX.out _ O5) (fun _ => ?_)
            (try simp only [Act.put, List.getElem_toArray, List.getElem_cons_succ, List.getElem_cons_zero, List.setIfInBounds_toArray, List.set_cons_zero, List.set_cons_succ])
            refine wpAnyH_ready (rs := [10]) (by kernel_rfl) (by simp) ?_
            refine AllReadyH.cons rfl (fun K3 hK3 => ?_) AllReadyH.nil
            go_simp
            refine hK3.out _ _ (SX.out _ (O5.trans (OutS.of (below_alloc (Below.refl _ _) _)))) (fun _ => ?_)
            (try simp only [Act.put, List.getElem_toArray, List.getElem_cons_succ, List.getElem_cons_zero, List.setIfInBounds_toArray, List.set_cons_zero, List.set_cons_succ])
            refine wpAnyH_ready (rs := [11]) (by kernel_rfl) (by simp) ?_
            refine AllReadyH.cons rfl (fun K4 hK4 => ?_) AllReadyH.nil
            refine step_snocT (by rfl) _ _ 128 (by rfl) s0 76 i0 _ 1 24 Tryz.underlying128 Hi.out Hz0.out Hz1.out Hz2.out rfl (by decide) (enc := fun x => [It.enc x]) _ io ⟨A5, (c.ord p).length, cc5⟩ (by rfl) ((OWd.out _ hb5).below (below_alloc (Below.refl _ _) _)) (by rfl) (box_it _ _ _ _ _) rfl (It.one _) hip (by decide) (hbs _ hb5 _) ?_
            intro v10 w10 own10 hg10 hat10
            have PU := Lib.hid (PUd.out _ hb5 _ _ own5 _ _ hg10 own10)
            obtain ⟨A10, c10, rfl, l10, m10, n10, ar10⟩ := own10.form (fun _ => rfl)
            have z10 : w10.cell? ⟨g, 4, none⟩ = some (.slice A4 p c4) := cell_of_row _ _ _ _ _ _ PU.out.1.1
            have f10 := frozen_of_row w10 g 4 _ _ PU.out.1.1
            refine hK4.out _ _ (SX.out _ PU.out.2) (fun _ => ?_)
            (try simp only [Act.put, List.getElem_toArray, List.getElem_cons_succ, List.getElem_cons_zero, List.setIfInBounds_toArray, List.set_cons_zero, List.set_cons_succ])
            (refine wpAnyH_take (i := 12) (v := ?_) rfl (by kernel_rfl) (by kernel_rfl) (by kernel_rfl) (fun _ _ _ h => h) (Or.inl ⟨by rfl, ?_⟩) (by assumption) ?_; rotate_left 1; (focus (intro wz hSz; (try dsimp only at hSz); go_simp; (try with_reducible rfl))); (try simp only [Act.put, List.setIfInBounds_toArray, List.set_cons_zero, List.set_cons_succ]))
            (refine wpAnyH_take (i := 13) (v := ?_) rfl (by kernel_rfl) (by kernel_rfl) (by kernel_rfl) (fun _ _ _ h => h) (Or.inl ⟨by rfl, ?_⟩) (by assumption) ?_; rotate_left 1; (focus (intro wz hSz; (try dsimp only at hSz); go_simp; (try with_reducible rfl))); (try simp only [Act.put, List.setIfInBounds_toArray, List.set_cons_zero, List.set_cons_succ]))
            refine wpAnyH_ready (rs := [14]) (by kernel_rfl) (by simp) ?_
            refine AllReadyH.cons rfl (fun K5 hK5 => ?_) AllReadyH.nil
            go_simp
            refine hK5.out _ _ (SX.out _ (PU.out.2.trans (OutS.set (.inl rfl)))) (fun _ => ?_)
            (try simp only [Act.put, List.getElem_toArray, List.getElem_cons_succ, List.getElem_cons_zero, List.setIfInBounds_toArray, List.set_cons_zero, List.set_cons_succ])
            refine wpAnyH_done (by kernel_rfl) ?_ _
            go_wp2_with fail
            go_meet
            case rel =>
              have e : (io ++ [(⟨A5, (c.ord p).length, cc5⟩ : It)]).length = p + 1 := by simp [hlen]
              have pu := PU.out
              rw [e] at pu
              exact ⟨_, _, pu.1.2, ((HO.out.trans (OutS.of (Below.refl _ _).drew)).trans pu.2).trans (OutS.set (.inl rfl))⟩
          · go_simp
            refine hK2.out _ _ (SX.out _ (O5.trans (OutS.of (below_alloc (Below.refl _ _) _)))) (fun _ => ?_)
            (try simp only [Act.put, List.getElem_toArray, List.getElem_cons_succ, List.getElem_cons_zero, List.setIfInBounds_toArray, List.set_cons_zero, List.set_cons_succ])
            refine wpAnyH_ready (rs := [4]) (by kernel_rfl) (by simp) ?_
            refine AllReadyH.cons rfl (fun K3 hK3 => ?_) AllReadyH.nil
            go_simp
            refine hK3.out _ _ (SX.out _ (O5.trans (OutS.of (below_alloc (Below.refl _ _) _)))) (fun _ => ?_)
            (try simp only [Act.put, List.getElem_toArray, List.getElem_cons_succ, List.getElem_cons_zero, List.setIfInBounds_toArray, List.set_cons_zero, List.set_cons_succ])
            refine wpAnyH_ready (rs := [11]) (by kernel_rfl) (by simp) ?_
            refine AllReadyH.cons rfl (fun K4 hK4 => ?_) AllReadyH.nil
            refine step_snocT (by rfl) _ _ 128 (by rfl) s0 76 i0 _ 1 24 Tryz.underlying128 Hi.out Hz0.out Hz1.out Hz2.out rfl (by decide) (enc := fun x => [It.enc x]) _ io ⟨A5, (c.ord p).length, cc5⟩ (by rfl) ((OWd.out _ hb5).below (below_alloc (Below.refl _ _) _)) (by rfl) (box_it _ _ _ _ _) rfl (It.one _) hip (by decide) (hbs _ hb5 _) ?_
            intro v10 w10 own10 hg10 hat10
            have PU := Lib.hid (PUd.out _ hb5 _ _ own5 _ _ hg10 own10)
            obtain ⟨A10, c10, rfl, l10, m10, n10, ar10⟩ := own10.form (fun _ => rfl)
            have z10 : w10.cell? ⟨g, 4, none⟩ = some (.slice A4 p c4) := cell_of_row _ _ _ _ _ _ PU.out.1.1
            have f10 := frozen_of_row w10 g 4 _ _ PU.out.1.1
            refine hK4.out _ _ (SX.out _ PU.out.2) (fun _ => ?_)
            (try simp only [Act.put, List.getElem_toArray, List.getElem_cons_succ, List.getElem_cons_zero, List.setIfInBounds_toArray, List.set_cons_zero, List.set_cons_succ])
            (refine wpAnyH_take (i := 12) (v := ?_) rfl (by kernel_rfl) (by kernel_rfl) (by kernel_rfl) (fun _ _ _ h => h) (Or.inl ⟨by rfl, ?_⟩) (by assumption) ?_; rotate_left 1; (focus (intro wz hSz; (try dsimp only at hSz); go_simp; (try with_reducible rfl))); (try simp only [Act.put, List.setIfInBounds_toArray, List.set_cons_zero, List.set_cons_succ]))
            (refine wpAnyH_take (i := 13) (v := ?_) rfl (by kernel_rfl) (by kernel_rfl) (by kernel_rfl) (fun _ _ _ h => h) (Or.inl ⟨by rfl, ?_⟩) (by assumption) ?_; rotate_left 1; (focus (intro wz hSz; (try dsimp only at hSz); go_simp; (try with_reducible rfl))); (try simp only [Act.put, List.setIfInBounds_toArray, List.set_cons_zero, List.set_cons_succ]))
            refine wpAnyH_ready (rs := [14]) (by kernel_rfl) (by simp) ?_
            refine AllReadyH.cons rfl (fun K5 hK5 => ?_) AllReadyH.nil
            go_simp
            refine hK5.out _ _ (SX.out _ (PU.out.2.trans (OutS.set (.inl rfl)))) (fun _ => ?_)
            (try simp only [Act.put, List.getElem_toArray, List.getElem_cons_succ, List.getElem_cons_zero, List.setIfInBounds_toArray, List.set_cons_zero, List.set_cons_succ])
            refine wpAnyH_done (by kernel_rfl) ?_ _
            go_wp2_with fail
            go_meet
            case rel =>
              have e : (io ++ [(⟨A5, (c.ord p).length, cc5⟩ : It)]).length = p + 1 := by simp [hlen]
              have pu := PU.out
              rw [e] at pu
              exact ⟨_, _, pu.1.2, ((HO.out.trans (OutS.of (Below.refl _ _).drew)).trans pu.2).trans (OutS.set (.inl rfl))⟩
      obtain ⟨v1, it1, hA3, hO3⟩ := hcut
      obtain ⟨wz, rfl⟩ : ∃ x, x = wc := ⟨_, rfl⟩
      obtain ⟨io', hio⟩ : ∃ l, io ++ [it1] = l := ⟨_, rfl⟩
      rw [hio] at hA3
      have bx : ¬ (w.heap.size = g ∨ s0 ≤ w.heap.size) := by have := (World.block_lt_of_cell? wk _ x0); simp at this; omega
      have y0' := hO3.cell x0 bx
      have y1' := hO3.cell x1 bx
      have y2' := hO3.cell x2 bx
      clear y0 y1 y2 z4 SX cO HA2 hsz HO LV OWd PUd i0 Hi Hz0 Hz1 Hz2 hip hbs O0 hio hlen
      have z4 : wz.cell? ⟨g, 5, none⟩ = some kv := cell_of_row _ _ _ _ _ _ hA3.row
      obtain ⟨A4, c4, hv4, l4, m4, n4, ar4⟩ := hA3.blk.own.form (fun _ => rfl)
      have hlem : ik.length = p := by rw [hA3.blk.len]; simp [Cas.blks]
      have hpl : p < c.P := hlt
      have SX : Hid (∀ w', OutS (fun k => k = g ∨ s0 ≤ k) wz.drew w' → w'.cell? ⟨w.heap.size, 0, none⟩ = some (.int .i64 (c.P : Int)) ∧ w'.cell? ⟨w.heap.size, 1, none⟩ = some (.int .i64 (c.K : Int)) ∧ w'.cell? ⟨w.heap.size, 2, none⟩ = some (.int .u64 (c.sd : Int))) := Lib.hid (fun w' ho => ⟨ho.cell y0' bx, ho.cell y1' bx, ho.cell y2' bx⟩)
      have cO := fun w' => cut_any c p w' Hc.out hlt
      have HA3 := Lib.hid hA3
      have hsz := hA3.hi
      have HO3 := Lib.hid hO3
      rw [hv4] at z4
      rw [hlem] at z4 hv4
      have hov : Own wz s0 199 1 (fun x => [It.enc x]) (.slice A4 p c4) ik := hv4 ▸ hA3.blk.own
      have LV : Hid (∀ k, (Value.slice A4 p c4).ownBlock = some k → s0 ≤ k) := Lib.hid (fun k hk => (World.ownsRow.lt hov k hk).1)
      have OWd : Hid (∀ w', Below wz.drew.heap.size wz.drew w' → Own w' s0 199 1 (fun x => [It.enc x]) (.slice A4 p c4) ik) := Lib.hid (fun w' hb => (hov.below (Below.refl _ _).drew).below hb)
      have PUd : Hid (∀ w5, Below wz.drew.heap.size wz.drew w5 → ∀ A5 cc5, Own w5 wz.drew.heap.size 132 3 Qst.enc (.slice A5 (c.blk p).length cc5) (c.blk p) → ∀ w10 v10, (w5.alloc (.cells #[.slice A5 (c.blk p).length cc5] 199)).grownBy w10 (Value.slice A4 p c4).ownBlock → Own w10 s0 199 1 (fun x => [It.enc x]) v10 (ik ++ [⟨A5, (c.blk p).length, cc5⟩]) →
          (w10.heap[g]? = some (.cells (newCs c v1 (.slice A4 p c4) bv mb) 134 (0, 0)) ∧ NewAt (w10.setCell ⟨g, 5, none⟩ v10) c b w2.heap.size s0 g mb bv v1 v10 io' (ik ++ [⟨A5, (c.blk p).length, cc5⟩]) (p + 1) (p + 1)) ∧ OutS (fun k => k = g ∨ s0 ≤ k) wz.drew w10) := Lib.hid (fun w5 hb5 A5 cc5 own5 w10 v10 hg10 own10 => by
        have h5 := ((hA3.on (Below.refl _ _).drew).on hb5).on (below_alloc (Below.refl _ _) (.cells #[.slice A5 (c.blk p).length cc5] 199))
        rw [hv4] at h5
        exact ⟨h5.pushB (it := ⟨A5, (c.blk p).length, cc5⟩) ((own_base own5 (Nat.le_trans hA3.hi (by simp))).below (below_alloc (Below.refl _ _) _)) hg10 own10, ((OutS.of hb5).trans (OutS.of (below_alloc (Below.refl _ _) _))).trans (OutS.grown hg10 (fun k hk => .inl (.inr (LV.out k hk))))⟩)
      obtain ⟨i0, hi, hz0, hz1, hz2⟩ := info_parts quests_info
      have Hi := Lib.hid hi; have Hz0 := Lib.hid hz0; have Hz1 := Lib.hid hz1; have Hz2 := Lib.hid hz2
      have hip : (ik.length + 1) * 24 ≤ 140737488355328 := by have := Hc.out.P; omega
      clear hi hz0 hz1 hz2 hv4 hA3 ar4 l4 m4 n4 hO3 bx hov
      have hbs : ∀ w', Below wz.drew.heap.size wz.drew w' → ∀ o, s0 ≤ (w'.alloc o).heap.size := fun w' hb o => by have h1 := hb.size; simp at h1 ⊢; omega
      have O0 : OutS (fun k => k = g ∨ s0 ≤ k) wz.drew wz.drew := OutS.refl _ _
      go_upto_region 9 with fail
      refine wp_region_held_drew (S := fun w' => w'.cell? ⟨w.heap.size, 0, none⟩ = some (.int .i64 (c.P : Int)) ∧ w'.cell? ⟨w.heap.size, 1, none⟩ = some (.int .i64 (c.K : Int)) ∧ w'.cell? ⟨w.heap.size, 2, none⟩ = some (.int .u64 (c.sd : Int))) (by kernel_rfl) (SX.out _ O0) (fun hHeld => ?_)
      (refine wpAnyH_take (i := 0) (v := ?_) rfl (by kernel_rfl) (by kernel_rfl) (by kernel_rfl) (fun _ _ _ h => h) (Or.inl ⟨by rfl, ?_⟩) (by assumption) ?_; rotate_left 1; (focus (intro wz hSz; (try dsimp only at hSz); go_simp; (try with_reducible rfl))); (try simp only [Act.put, List.setIfInBounds_toArray, List.set_cons_zero, List.set_cons_succ]))
      (refine wpAnyH_take (i := 1) (v := ?_) rfl (by kernel_rfl) (by kernel_rfl) (by kernel_rfl) (fun _ _ _ h => h) (Or.inl ⟨by rfl, ?_⟩) (by assumption) ?_; rotate_left 1; (focus (intro wz hSz; (try dsimp only at hSz); go_simp; (try with_reducible rfl))); (try simp only [Act.put, List.setIfInBounds_toArray, List.set_cons_zero, List.set_cons_succ]))
      (refine wpAnyH_take (i := 2) (v := ?_) rfl (by kernel_rfl) (by kernel_rfl) (by kernel_rfl) (fun _ _ _ h => h) (Or.inl ⟨by rfl, ?_⟩) (by assumption) ?_; rotate_left 1; (focus (intro wz hSz; (try dsimp only at hSz); go_simp; (try with_reducible rfl))); (try simp only [Act.put, List.setIfInBounds_toArray, List.set_cons_zero, List.set_cons_succ]))
      (refine wpAnyH_take (i := 3) (v := ?_) rfl (by kernel_rfl) (by kernel_rfl) (by kernel_rfl) (fun _ _ _ h => h) (Or.inl ⟨by rfl, ?_⟩) (by assumption) ?_; rotate_left 1; (focus (intro wz hSz; (try dsimp only at hSz); go_simp; (try with_reducible rfl))); (try simp only [Act.put, List.setIfInBounds_toArray, List.set_cons_zero, List.set_cons_succ]))
      (refine wpAnyH_take (i := 5) (v := ?_) rfl (by kernel_rfl) (by kernel_rfl) (by kernel_rfl) (fun _ _ _ h => h) (Or.inl ⟨by rfl, ?_⟩) (by assumption) ?_; rotate_left 1; (focus (intro wz hSz; (try dsimp only at hSz); go_simp; (try with_reducible rfl))); (try simp only [Act.put, List.setIfInBounds_toArray, List.set_cons_zero, List.set_cons_succ]))
      (refine wpAnyH_take (i := 6) (v := ?_) rfl (by kernel_rfl) (by kernel_rfl) (by kernel_rfl) (fun _ _ _ h => h) (Or.inl ⟨by rfl, ?_⟩) (by assumption) ?_; rotate_left 1; (focus (intro wz hSz; (try dsimp only at hSz); go_simp; (try with_reducible rfl))); (try simp only [Act.put, List.setIfInBounds_toArray, List.set_cons_zero, List.set_cons_succ]))
      (refine wpAnyH_take (i := 7) (v := ?_) rfl (by kernel_rfl) (by kernel_rfl) (by kernel_rfl) (fun _ _ _ h => h) (Or.inl ⟨by rfl, ?_⟩) (by assumption) ?_; rotate_left 1; (focus (intro wz hSz; (try dsimp only at hSz); go_simp; (try with_reducible rfl))); (try simp only [Act.put, List.setIfInBounds_toArray, List.set_cons_zero, List.set_cons_succ]))
      (refine wpAnyH_take (i := 8) (v := ?_) rfl (by kernel_rfl) (by kernel_rfl) (by kernel_rfl) (fun _ _ _ h => h) (Or.inl ⟨by rfl, ?_⟩) (by assumption) ?_; rotate_left 1; (focus (intro wz hSz; (try dsimp only at hSz); go_simp; (try with_reducible rfl))); (try simp only [Act.put, List.setIfInBounds_toArray, List.set_cons_zero, List.set_cons_succ]))
      refine wpAnyH_ready (rs := [4, 9]) (by kernel_rfl) (by simp) ?_
      refine AllReadyH.cons rfl (fun K1 hK1 => ?_) (AllReadyH.cons rfl (fun K1 hK1 => ?_) AllReadyH.nil)
      · go_simp
        refine hK1.out _ _ (SX.out _ O0) (fun _ => ?_)
        (try simp only [Act.put, List.getElem_toArray, List.getElem_cons_succ, List.getElem_cons_zero, List.setIfInBounds_toArray, List.set_cons_zero, List.set_cons_succ])
        refine wpAnyH_ready (rs := [9]) (by kernel_rfl) (by simp) ?_
        refine AllReadyH.cons rfl (fun K2 hK2 => ?_) AllReadyH.nil
        go_simp
        go_at_call 107
        refine (cO _).mono ?_
        rintro e w5 ⟨v5, rfl, own5, hb5⟩
        obtain ⟨A5, cc5, rfl, l5, m5, n5, ar5⟩ := own5.form Qst.enc_len
        have O5 := O0.trans (OutS.of hb5)
        have z5 := bel_cell hb5 z4
        have z6 := bel_cell (below_alloc (Below.refl _ _) (.cells #[.slice A5 (c.blk p).length cc5] 199)) z5
        refine hK2.out _ _ (SX.out _ O5) (fun _ => ?_)
        (try simp only [Act.put, List.getElem_toArray, List.getElem_cons_succ, List.getElem_cons_zero, List.setIfInBounds_toArray, List.set_cons_zero, List.set_cons_succ])
        refine wpAnyH_ready (rs := [10]) (by kernel_rfl) (by simp) ?_
        refine AllReadyH.cons rfl (fun K3 hK3 => ?_) AllReadyH.nil
        go_simp
        refine hK3.out _ _ (SX.out _ (O5.trans (OutS.of (below_alloc (Below.refl _ _) _)))) (fun _ => ?_)
        (try simp only [Act.put, List.getElem_toArray, List.getElem_cons_succ, List.getElem_cons_zero, List.setIfInBounds_toArray, List.set_cons_zero, List.set_cons_succ])
        refine wpAnyH_ready (rs := [11]) (by kernel_rfl) (by simp) ?_
        refine AllReadyH.cons rfl (fun K4 hK4 => ?_) AllReadyH.nil
        refine step_snocT (by rfl) _ _ 129 (by rfl) s0 199 i0 _ 1 24 Tryz.underlying129 Hi.out Hz0.out Hz1.out Hz2.out rfl (by decide) (enc := fun x => [It.enc x]) _ ik ⟨A5, (c.blk p).length, cc5⟩ (by rfl) ((OWd.out _ hb5).below (below_alloc (Below.refl _ _) _)) (by rfl) (box_it _ _ _ _ _) rfl (It.one _) hip (by decide) (hbs _ hb5 _) ?_
        intro v10 w10 own10 hg10 hat10
        have PU := Lib.hid (PUd.out _ hb5 _ _ own5 _ _ hg10 own10)
        obtain ⟨A10, c10, rfl, l10, m10, n10, ar10⟩ := own10.form (fun _ => rfl)
        have z10 : w10.cell? ⟨g, 5, none⟩ = some (.slice A4 p c4) := cell_of_row _ _ _ _ _ _ PU.out.1.1
        have f10 := frozen_of_row w10 g 5 _ _ PU.out.1.1
        refine hK4.out _ _ (SX.out _ PU.out.2) (fun _ => ?_)
        (try simp only [Act.put, List.getElem_toArray, List.getElem_cons_succ, List.getElem_cons_zero, List.setIfInBounds_toArray, List.set_cons_zero, List.set_cons_succ])
        (refine wpAnyH_take (i := 12) (v := ?_) rfl (by kernel_rfl) (by kernel_rfl) (by kernel_rfl) (fun _ _ _ h => h) (Or.inl ⟨by rfl, ?_⟩) (by assumption) ?_; rotate_left 1; (focus (intro wz hSz; (try dsimp only at hSz); go_simp; (try with_reducible rfl))); (try simp only [Act.put, List.setIfInBounds_toArray, List.set_cons_zero, List.set_cons_succ]))
        (refine wpAnyH_take (i := 13) (v := ?_) rfl (by kernel_rfl) (by kernel_rfl) (by kernel_rfl) (fun _ _ _ h => h) (Or.inl ⟨by rfl, ?_⟩) (by assumption) ?_; rotate_left 1; (focus (intro wz hSz; (try dsimp only at hSz); go_simp; (try with_reducible rfl))); (try simp only [Act.put, List.setIfInBounds_toArray, List.set_cons_zero, List.set_cons_succ]))
        refine wpAnyH_ready (rs := [14]) (by kernel_rfl) (by simp) ?_
        refine AllReadyH.cons rfl (fun K5 hK5 => ?_) AllReadyH.nil
        go_simp
        refine hK5.out _ _ (SX.out _ (PU.out.2.trans (OutS.set (.inl rfl)))) (fun _ => ?_)
        (try simp only [Act.put, List.getElem_toArray, List.getElem_cons_succ, List.getElem_cons_zero, List.setIfInBounds_toArray, List.set_cons_zero, List.set_cons_succ])
        refine wpAnyH_done (by kernel_rfl) ?_ _
        go_wp2_with fail
        have e : (ik ++ [(⟨A5, (c.blk p).length, cc5⟩ : It)]).length = p + 1 := by simp [hlem]
        have pu := PU.out
        rw [e] at pu
        exact ⟨⟨p + 1, _, _, _, _, by go_num, by omega, pu.1.2, ((HO3.out.trans (OutS.of (Below.refl _ _).drew)).trans pu.2).trans (OutS.set (.inl rfl))⟩, by simp [intOf]; omega⟩
      · go_simp
        go_at_call 107
        refine (cO _).mono ?_
        rintro e w5 ⟨v5, rfl, own5, hb5⟩
        obtain ⟨A5, cc5, rfl, l5, m5, n5, ar5⟩ := own5.form Qst.enc_len
        have O5 := O0.trans (OutS.of hb5)
        have z5 := bel_cell hb5 z4
        have z6 := bel_cell (below_alloc (Below.refl _ _) (.cells #[.slice A5 (c.blk p).length cc5] 199)) z5
        refine hK1.out _ _ (SX.out _ O5) (fun _ => ?_)
        (try simp only [Act.put, List.getElem_toArray, List.getElem_cons_succ, List.getElem_cons_zero, List.setIfInBounds_toArray, List.set_cons_zero, List.set_cons_succ])
        refine wpAnyH_ready (rs := [4, 10]) (by kernel_rfl) (by simp) ?_
        refine AllReadyH.cons rfl (fun K2 hK2 => ?_) (AllReadyH.cons rfl (fun K2 hK2 => ?_) AllReadyH.nil)
        · go_simp
          refine hK2.out _ _ (SX.out _ O5) (fun _ => ?_)
          (try simp only [Act.put, List.getElem_toArray, List.getElem_cons_succ, List.getElem_cons_zero, List.setIfInBounds_toArray, List.set_cons_zero, List.set_cons_succ])
          refine wpAnyH_ready (rs := [10]) (by kernel_rfl) (by simp) ?_
          refine AllReadyH.cons rfl (fun K3 hK3 => ?_) AllReadyH.nil
          go_simp
          refine hK3.out _ _ (SX.out _ (O5.trans (OutS.of (below_alloc (Below.refl _ _) _)))) (fun _ => ?_)
          (try simp only [Act.put, List.getElem_toArray, List.getElem_cons_succ, List.getElem_cons_zero, List.setIfInBounds_toArray, List.set_cons_zero, List.set_cons_succ])
          refine wpAnyH_ready (rs := [11]) (by kernel_rfl) (by simp) ?_
          refine AllReadyH.cons rfl (fun K4 hK4 => ?_) AllReadyH.nil
          refine step_snocT (by rfl) _ _ 129 (by rfl) s0 199 i0 _ 1 24 Tryz.underlying129 Hi.out Hz0.out Hz1.out Hz2.out rfl (by decide) (enc := fun x => [It.enc x]) _ ik ⟨A5, (c.blk p).length, cc5⟩ (by rfl) ((OWd.out _ hb5).below (below_alloc (Below.refl _ _) _)) (by rfl) (box_it _ _ _ _ _) rfl (It.one _) hip (by decide) (hbs _ hb5 _) ?_
          intro v10 w10 own10 hg10 hat10
          have PU := Lib.hid (PUd.out _ hb5 _ _ own5 _ _ hg10 own10)
          obtain ⟨A10, c10, rfl, l10, m10, n10, ar10⟩ := own10.form (fun _ => rfl)
          have z10 : w10.cell? ⟨g, 5, none⟩ = some (.slice A4 p c4) := cell_of_row _ _ _ _ _ _ PU.out.1.1
          have f10 := frozen_of_row w10 g 5 _ _ PU.out.1.1
          refine hK4.out _ _ (SX.out _ PU.out.2) (fun _ => ?_)
          (try simp only [Act.put, List.getElem_toArray, List.getElem_cons_succ, List.getElem_cons_zero, List.setIfInBounds_toArray, List.set_cons_zero, List.set_cons_succ])
          (refine wpAnyH_take (i := 12) (v := ?_) rfl (by kernel_rfl) (by kernel_rfl) (by kernel_rfl) (fun _ _ _ h => h) (Or.inl ⟨by rfl, ?_⟩) (by assumption) ?_; rotate_left 1; (focus (intro wz hSz; (try dsimp only at hSz); go_simp; (try with_reducible rfl))); (try simp only [Act.put, List.setIfInBounds_toArray, List.set_cons_zero, List.set_cons_succ]))
          (refine wpAnyH_take (i := 13) (v := ?_) rfl (by kernel_rfl) (by kernel_rfl) (by kernel_rfl) (fun _ _ _ h => h) (Or.inl ⟨by rfl, ?_⟩) (by assumption) ?_; rotate_left 1; (focus (intro wz hSz; (try dsimp only at hSz); go_simp; (try with_reducible rfl))); (try simp only [Act.put, List.setIfInBounds_toArray, List.set_cons_zero, List.set_cons_succ]))
          refine wpAnyH_ready (rs := [14]) (by kernel_rfl) (by simp) ?_
          refine AllReadyH.cons rfl (fun K5 hK5 => ?_) AllReadyH.nil
          go_simp
          refine hK5.out _ _ (SX.out _ (PU.out.2.trans (OutS.set (.inl rfl)))) (fun _ => ?_)
          (try simp only [Act.put, List.getElem_toArray, List.getElem_cons_succ, List.getElem_cons_zero, List.setIfInBounds_toArray, List.set_cons_zero, List.set_cons_succ])
          refine wpAnyH_done (by kernel_rfl) ?_ _
          go_wp2_with fail
          have e : (ik ++ [(⟨A5, (c.blk p).length, cc5⟩ : It)]).length = p + 1 := by simp [hlem]
          have pu := PU.out
          rw [e] at pu
          exact ⟨⟨p + 1, _, _, _, _, by go_num, by omega, pu.1.2, ((HO3.out.trans (OutS.of (Below.refl _ _).drew)).trans pu.2).trans (OutS.set (.inl rfl))⟩, by simp [intOf]; omega⟩
        · go_simp
          refine hK2.out _ _ (SX.out _ (O5.trans (OutS.of (below_alloc (Below.refl _ _) _)))) (fun _ => ?_)
          (try simp only [Act.put, List.getElem_toArray, List.getElem_cons_succ, List.getElem_cons_zero, List.setIfInBounds_toArray, List.set_cons_zero, List.set_cons_succ])
          refine wpAnyH_ready (rs := [4]) (by kernel_rfl) (by simp) ?_
          refine AllReadyH.cons rfl (fun K3 hK3 => ?_) AllReadyH.nil
          go_simp
          refine hK3.out _ _ (SX.out _ (O5.trans (OutS.of (below_alloc (Below.refl _ _) _)))) (fun _ => ?_)
          (try simp only [Act.put, List.getElem_toArray, List.getElem_cons_succ, List.getElem_cons_zero, List.setIfInBounds_toArray, List.set_cons_zero, List.set_cons_succ])
          refine wpAnyH_ready (rs := [11]) (by kernel_rfl) (by simp) ?_
          refine AllReadyH.cons rfl (fun K4 hK4 => ?_) AllReadyH.nil
          refine step_snocT (by rfl) _ _ 129 (by rfl) s0 199 i0 _ 1 24 Tryz.underlying129 Hi.out Hz0.out Hz1.out Hz2.out rfl (by decide) (enc := fun x => [It.enc x]) _ ik ⟨A5, (c.blk p).length, cc5⟩ (by rfl) ((OWd.out _ hb5).below (below_alloc (Below.refl _ _) _)) (by rfl) (box_it _ _ _ _ _) rfl (It.one _) hip (by decide) (hbs _ hb5 _) ?_
          intro v10 w10 own10 hg10 hat10
          have PU := Lib.hid (PUd.out _ hb5 _ _ own5 _ _ hg10 own10)
          obtain ⟨A10, c10, rfl, l10, m10, n10, ar10⟩ := own10.form (fun _ => rfl)
          have z10 : w10.cell? ⟨g, 5, none⟩ = some (.slice A4 p c4) := cell_of_row _ _ _ _ _ _ PU.out.1.1
          have f10 := frozen_of_row w10 g 5 _ _ PU.out.1.1
          refine hK4.out _ _ (SX.out _ PU.out.2) (fun _ => ?_)
          (try simp only [Act.put, List.getElem_toArray, List.getElem_cons_succ, List.getElem_cons_zero, List.setIfInBounds_toArray, List.set_cons_zero, List.set_cons_succ])
          (refine wpAnyH_take (i := 12) (v := ?_) rfl (by kernel_rfl) (by kernel_rfl) (by kernel_rfl) (fun _ _ _ h => h) (Or.inl ⟨by rfl, ?_⟩) (by assumption) ?_; rotate_left 1; (focus (intro wz hSz; (try dsimp only at hSz); go_simp; (try with_reducible rfl))); (try simp only [Act.put, List.setIfInBounds_toArray, List.set_cons_zero, List.set_cons_succ]))
          (refine wpAnyH_take (i := 13) (v := ?_) rfl (by kernel_rfl) (by kernel_rfl) (by kernel_rfl) (fun _ _ _ h => h) (Or.inl ⟨by rfl, ?_⟩) (by assumption) ?_; rotate_left 1; (focus (intro wz hSz; (try dsimp only at hSz); go_simp; (try with_reducible rfl))); (try simp only [Act.put, List.setIfInBounds_toArray, List.set_cons_zero, List.set_cons_succ]))
          refine wpAnyH_ready (rs := [14]) (by kernel_rfl) (by simp) ?_
          refine AllReadyH.cons rfl (fun K5 hK5 => ?_) AllReadyH.nil
          go_simp
          refine hK5.out _ _ (SX.out _ (PU.out.2.trans (OutS.set (.inl rfl)))) (fun _ => ?_)
          (try simp only [Act.put, List.getElem_toArray, List.getElem_cons_succ, List.getElem_cons_zero, List.setIfInBounds_toArray, List.set_cons_zero, List.set_cons_succ])
          refine wpAnyH_done (by kernel_rfl) ?_ _
          go_wp2_with fail
          have e : (ik ++ [(⟨A5, (c.blk p).length, cc5⟩ : It)]).length = p + 1 := by simp [hlem]
          have pu := PU.out
          rw [e] at pu
          exact ⟨⟨p + 1, _, _, _, _, by go_num, by omega, pu.1.2, ((HO3.out.trans (OutS.of (Below.refl _ _).drew)).trans pu.2).trans (OutS.set (.inl rfl))⟩, by simp [intOf]; omega⟩
    · obtain rfl : p = c.P := by omega
      obtain ⟨M, rfl, hM, hS⟩ := hA2.done Hc.out
      have cA := advance_any c (mac0 b) M wr hM Hc.out (mac0_ok Hb.out)
      have hlow : w.heap.size ≤ w2.heap.size := by have h1 := b1.size; exact Nat.le_trans h1 hb2.size
      have hfin : Hid (∀ w9, OutS M.S wr w9 → Below w.heap.size w w9) := Lib.hid (fun w9 h9 => (q3.trans (hO.below q3.size (fun k hk => by have := q3.size; omega))).trans (h9.below (Nat.le_trans q3.size hO.size) (fun k hk => Nat.le_trans hlow (hS k (hk.elim .inl (fun h => .inr (.inl h)))))))
      have HT := Lib.hid (fun k (hk : M.T k) => Nat.le_trans hlow (hS k hk))
      clear hS hM hA2 hA hlow
      go_wp2_with fail
      refine cA.mono ?_
      rintro e w9 ⟨⟨u, rfl⟩, hA9, hO9⟩
      clear cA
      go_wp2_with fail
      go_ret2
      exact ⟨M, rfl, hA9, hfin.out _ hO9, HT.out⟩

end Go.Proofs.YtfolgmcoggejbaaGreat
