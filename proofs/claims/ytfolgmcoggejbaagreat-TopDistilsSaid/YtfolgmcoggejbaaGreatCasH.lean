/- Contract of a course's Tell. For a course that waits. -/
import Derived.Test.YtfolgmcoggejbaaGreatCasG
import Derived.Test.YtfolgmcoggejbaaGreatSnoT
namespace Go.Proofs.YtfolgmcoggejbaaGreat
open Go.RowKit Go.Maps
set_option linter.unusedVariables false
set_option linter.unusedSimpArgs false

theorem answer_info : (Tryz.prog.info? 202).map (fun i => (i.zero, i.size, i.bytes)) = some (some (.agg #[.int .i64 0, .int .i64 0, .int .i64 0, .bool false]), 4, 32) := by kernel_rfl
theorem cvalid_any (g : Nat) (w : World) (h : w.cell? ⟨g, 0, none⟩ = some (.bool true)) : Calls Tryz.prog 109 #[.pointer (some ⟨g, 0, none⟩)] w fun e w' => e = .returned (.bool true) ∧ w = w' := by
  go_enter Tryz.func109, Tryz.ntmps109
  go_wp2_with fail
  go_ret
  exact ⟨rfl, rfl⟩
/-- The blocks that an answer turns. -/
def Mem.T (M : Mem) (k : Nat) : Prop := k = M.g ∨ M.bv.ownBlock = some k ∨ k = M.mb ∨ M.tv.ownBlock = some k
theorem Knw.outS {S : Nat → Prop} {w w' : World} {mb : Nat} {told : List (Qst × Bool)} (h : Knw w mb told) (ho : OutS S w w') (hm : ¬ S mb) : Knw w' mb told := by
  obtain ⟨D, hD⟩ := h
  obtain ⟨es, clock, hbk, r⟩ := hD.own
  exact ⟨D, ⟨es, clock, ho.row hbk hm, r⟩, hD.has, hD.miss, hD.at_, hD.low, hD.nod⟩
/-- A course whose list of answers has grown. -/
theorem MacAt.grow {w w' : World} {c : Cas} {m : Mac} {M : Mem} {x : Qst × Bool} {v' : Value} (hrow : w.heap[M.g]? = some (.cells (M.cs c m) 134 (0, 0))) (h : MacAt w c m M) (kn : Knw w' M.mb (m.told ++ [x]))
    (ho : OutS M.T w w') (hrow' : w'.heap[M.g]? = some (.cells (({ M with tv := v' } : Mem).cs c m) 134 (0, 0))) (hb : Own w' 0 4 1 encB M.bv m.b) (ht : Own w' 0 202 4 encA v' (m.told ++ [x]))
    (hat : ∀ k, v'.ownBlock = some k → M.tv.ownBlock = some k ∨ w.heap.size ≤ k) : MacAt w' c { m with told := m.told ++ [x] } { M with tv := v' } := by
  have hoff : ∀ k, M.T k → M.off k := fun k hk => by
    rcases hk with rfl | hk | rfl | hk
    · exact h.og
    · exact h.obv _ hk
    · exact h.om
    · exact h.otv _ hk
  have hr := h.rows.keep ho hoff
  refine ⟨hrow', ⟨hr.hi, hr.ob, hr.kb, hr.oc, hr.kc, hr.ord, hr.blk⟩, hb, ht, kn, h.og, h.om, h.obv, fun k hk => ?_⟩
  rcases hat k hk with h1 | h1
  · exact h.otv k h1
  · exact .inr (Nat.le_trans h.rows.hi h1)
set_option maxRecDepth 100000 in
set_option maxHeartbeats 16000000 in
theorem Tell_any (c : Cas) (m : Mac) (M : Mem) (a : Bool) (w : World) (h : MacAt w c m M) (hc : c.Ok) (hat : c.at .stop m) (ho : m.opn = true) :
    Calls Tryz.prog 46 #[.pointer (some ⟨M.g, 0, none⟩), .bool a] w fun e w' => e = .returned (.int .i64 0) ∧ ∃ tv, MacAt w' c (c.tell m a) { M with tv := tv } ∧ OutS M.T w w' ∧ (∀ k, tv.ownBlock = some k → M.tv.ownBlock = some k ∨ w.heap.size ≤ k) := by
  obtain ⟨hv, hlk⟩ := hat.2 ho
  have hlow := c.val_low hc hv
  have hmore := Mac.Ok.more hat ho a
  have hfew := hat.1.few
  have hP := hc.P; have hn := hc.n
  have hcnt : m.told.length ≤ 2000000 := by
    have h1 : (c.n + 1) * (c.n + 1) ≤ 513 * 513 := Nat.mul_le_mul (by omega) (by omega)
    have h2 : c.P * ((c.n + 1) * (c.n + 1)) ≤ 6 * (513 * 513) := Nat.mul_le_mul hP.2 h1
    omega
  have x0 : w.cell? ⟨M.g, 0, none⟩ = some (.bool true) := h.cel 0
  have x21 : w.cell? ⟨M.g, 21, none⟩ = some (.bool true) := by rw [← ho]; exact h.cel 21
  have cV := cvalid_any M.g w x0
  have x7 : w.cell? ⟨M.g, 7, none⟩ = some (.map (some M.mb)) := h.cel 7
  have x18 : w.cell? ⟨M.g, 18, none⟩ = some (.int .i64 (m.next.pass : Int)) := h.cel 18
  have x19 : w.cell? ⟨M.g, 19, none⟩ = some (.int .i64 (m.next.fr : Int)) := h.cel 19
  have x20 : w.cell? ⟨M.g, 20, none⟩ = some (.int .i64 (m.next.to : Int)) := h.cel 20
  obtain ⟨w2, hrun, hkn, hgr⟩ := (h.on (Below.refl _ _).drew).kn.more hlow (look_none.1 hlk) (by unfold maxLen; omega) a
  unfold qv at hrun
  have Hat := Lib.hid hat
  have Hc := Lib.hid hc
  have Hmore := Lib.hid hmore
  have Hcnt := Lib.hid hcnt
  have Hgr := Lib.hid hgr
  have Hkn := Lib.hid hkn
  clear hat hc hmore hfew hP hn hcnt hlk hv hlow hgr hkn
  go_enter Tryz.func46, Tryz.ntmps46
  go_upto_region 5 with (go_at_call 109; refine (cV).mono ?_; rintro e w' ⟨rfl, rfl⟩)
  go_still_tail 9, (by kernel_rfl)
  change wpList _ _ _ _ _ w.drew
  go_upto_region 6 with fail
  have hA0 := h.on (Below.refl _ _).drew
  have gr := Hgr.out
  have o2 : OutS M.T w w2 := (OutS.of (Below.refl _ _).drew).trans (OutS.grown gr (fun g hg => by cases hg; exact .inl (.inr (.inr (.inl rfl)))))
  have row2 : w2.heap[M.g]? = some (.cells (M.cs c m) 134 (0, 0)) := (gr.block M.g (Array.getElem?_eq_some_iff.1 hA0.row).1 (by simpa using fun e => h.nm e.symm)).trans hA0.row
  have tv2 : Own w2 0 202 4 encA M.tv m.told := Own.keep (w := w.drew) hA0.tv gr (by
    cases hk : M.tv.ownBlock with
    | none => exact .inl rfl
    | some k => exact .inr (by simpa using (h.nt hk).2))
  have bv2 : Own w2 0 4 1 encB M.bv m.b := Own.keep (w := w.drew) hA0.b gr (by
    cases hk : M.bv.ownBlock with
    | none => exact .inl rfl
    | some k => exact .inr (by simpa using (h.nb hk).2.1))
  have lg2 : M.g < w2.heap.size := (Array.getElem?_eq_some_iff.1 row2).1
  obtain ⟨A8, c8, htv, l8, m8, n8, ar8⟩ := tv2.form encA_len
  have y8 : w2.cell? ⟨M.g, 8, none⟩ = some (.slice A8 m.told.length c8) := by rw [← htv]; exact cell_of_row _ _ _ _ _ _ row2
  have y18 : w2.cell? ⟨M.g, 18, none⟩ = some (.int .i64 (m.next.pass : Int)) := cell_of_row _ _ _ _ _ _ row2
  have y19 : w2.cell? ⟨M.g, 19, none⟩ = some (.int .i64 (m.next.fr : Int)) := cell_of_row _ _ _ _ _ _ row2
  have y20 : w2.cell? ⟨M.g, 20, none⟩ = some (.int .i64 (m.next.to : Int)) := cell_of_row _ _ _ _ _ _ row2
  have H := Lib.hid h
  have Row2 := Lib.hid row2; have Tv2 := Lib.hid tv2; have Bv2 := Lib.hid bv2; have Htv := Lib.hid htv; have O2 := Lib.hid o2
  obtain ⟨i0, hi, hz0, hz1, hz2⟩ := info_parts answer_info
  have Hi := Lib.hid hi; have Hz0 := Lib.hid hz0; have Hz1 := Lib.hid hz1; have Hz2 := Lib.hid hz2
  clear hi hz0 hz1 hz2 h hA0 gr row2 tv2 bv2 htv o2 cV x0 x21 x7 x18 x19 x20 hrun ar8 l8 m8 n8
  go_cut [] (fun wx => ∃ v', MacAt wx c { m with told := m.told ++ [(m.next, a)] } { M with tv := v' } ∧ OutS M.T w wx ∧ ∀ k, v'.ownBlock = some k → M.tv.ownBlock = some k ∨ w.heap.size ≤ k)
  case first =>
    have W3 : Below w2.heap.size w2 (w2.alloc (.cells #[.int .i64 (m.next.pass : Int), .int .i64 (m.next.fr : Int), .int .i64 (m.next.to : Int), .bool a] 202)).drew := (below_alloc (Below.refl _ _) _).drew
    have Row3 := Lib.hid ((W3.block M.g lg2).trans Row2.out)
    have Tv3 := Lib.hid (Own.below (Htv.out ▸ Tv2.out) W3)
    have Nw3 : Hid (∀ j u, (encA (m.next, a))[j]? = some u → (w2.alloc (.cells #[.int .i64 (m.next.pass : Int), .int .i64 (m.next.fr : Int), .int .i64 (m.next.to : Int), .bool a] 202)).drew.cell? ⟨w2.heap.size, j, none⟩ = some u) := Lib.hid (fun j u hu => by
      have hcs : (#[Value.int .i64 (m.next.pass : Int), .int .i64 (m.next.fr : Int), .int .i64 (m.next.to : Int), .bool a] : Array Value).toList = encA (m.next, a) := rfl
      exact new_cell (w := w2) (by rw [← hu, ← hcs]; simp))
    have Ng : Hid (some M.g ≠ (Value.slice A8 m.told.length c8).ownBlock) := Lib.hid (fun e => by
      have h1 : M.tv.ownBlock = some M.g := by rw [Htv.out, ← e]
      exact (H.out.nt h1).1 rfl)
    have Fin : Hid (∀ v10 w10, Own w10 0 202 4 encA v10 (m.told ++ [(m.next, a)]) → (w2.alloc (.cells #[.int .i64 (m.next.pass : Int), .int .i64 (m.next.fr : Int), .int .i64 (m.next.to : Int), .bool a] 202)).drew.grownBy w10 (Value.slice A8 m.told.length c8).ownBlock → At (w2.alloc (.cells #[.int .i64 (m.next.pass : Int), .int .i64 (m.next.fr : Int), .int .i64 (m.next.to : Int), .bool a] 202)).drew (Value.slice A8 m.told.length c8) v10 → w10.heap[M.g]? = some (.cells (M.cs c m) 134 (0, 0)) →
        MacAt (w10.setCell ⟨M.g, 8, none⟩ v10) c { m with told := m.told ++ [(m.next, a)] } { M with tv := v10 } ∧ OutS M.T w (w10.setCell ⟨M.g, 8, none⟩ v10) ∧ ∀ k, v10.ownBlock = some k → M.tv.ownBlock = some k ∨ w.heap.size ≤ k) := Lib.hid (fun v10 w10 own10 hg10 hat10 row10 => by
      have q : OutS (fun k => k = M.g ∨ M.tv.ownBlock = some k) w2 (w10.setCell ⟨M.g, 8, none⟩ v10) := ((OutS.of W3).trans (OutS.grown hg10 (fun g hg => .inl (.inr (by rw [Htv.out]; exact hg))))).trans (OutS.set (.inl rfl))
      have oo : OutS M.T w (w10.setCell ⟨M.g, 8, none⟩ v10) := O2.out.trans (q.mono (fun k _ hk => hk.elim .inl (fun h => .inr (.inr (.inr h)))))
      have hat : ∀ k, v10.ownBlock = some k → M.tv.ownBlock = some k ∨ w.heap.size ≤ k := fun k hk => by
        rcases hat10 with h1 | ⟨X, h1, h2⟩
        · left; rw [Htv.out, ← h1]; exact hk
        · right
          rw [h1] at hk
          obtain rfl := Option.some.inj hk
          exact Nat.le_trans O2.out.size (Nat.le_trans W3.size h2)
      have nv : v10.ownBlock = none ∨ v10.ownBlock ≠ some M.g := by
        right
        intro e
        obtain ⟨cs, hr⟩ := own_row own10 e
        rw [row10] at hr
        simp at hr
      refine ⟨MacAt.grow H.out.row H.out (Hkn.out.outS q (fun e => e.elim (fun e => H.out.nm e) (fun e => (H.out.nt e).2 rfl))) oo ?_ (q.own Bv2.out (fun k hk e => e.elim (fun e => (H.out.nb hk).1 e) (fun e => (H.out.nb hk).2.2 e))) ?_ hat, oo, hat⟩
      · exact heap_setCell_same w10 M.g 8 _ _ v10 row10
      · refine Own.keep own10 (row := some M.g) ⟨(Below.refl 0 w10 |>.setCell (Nat.zero_le _) v10).os, (Below.refl 0 w10 |>.setCell (Nat.zero_le _) v10).tape, (Below.refl 0 w10 |>.setCell (Nat.zero_le _) v10).output, (Below.refl 0 w10 |>.setCell (Nat.zero_le _) v10).size, fun j _ hn => Below.heap_setCell w10 _ _ j (by simpa using hn)⟩ nv)
    have HS3 := Lib.hid (show (w2.alloc (.cells #[.int .i64 (m.next.pass : Int), .int .i64 (m.next.fr : Int), .int .i64 (m.next.to : Int), .bool a] 202)).drew.cell? ⟨M.g, 18, none⟩ = some (.int .i64 (m.next.pass : Int)) ∧ (w2.alloc (.cells #[.int .i64 (m.next.pass : Int), .int .i64 (m.next.fr : Int), .int .i64 (m.next.to : Int), .bool a] 202)).drew.cell? ⟨M.g, 19, none⟩ = some (.int .i64 (m.next.fr : Int)) ∧ (w2.alloc (.cells #[.int .i64 (m.next.pass : Int), .int .i64 (m.next.fr : Int), .int .i64 (m.next.to : Int), .bool a] 202)).drew.cell? ⟨M.g, 20, none⟩ = some (.int .i64 (m.next.to : Int)) from ⟨cell_of_row _ _ _ _ _ _ Row3.out, cell_of_row _ _ _ _ _ _ Row3.out, cell_of_row _ _ _ _ _ _ Row3.out⟩)
    clear W3
    refine wp_region_held_drew (S := fun w' => w'.cell? ⟨M.g, 18, none⟩ = some (.int .i64 (m.next.pass : Int)) ∧ w'.cell? ⟨M.g, 19, none⟩ = some (.int .i64 (m.next.fr : Int)) ∧ w'.cell? ⟨M.g, 20, none⟩ = some (.int .i64 (m.next.to : Int))) (by kernel_rfl) ⟨y18, y19, y20⟩ (fun hHeld => ?_)
    (refine wpAnyH_take (i := 0) (v := ?_) rfl (by kernel_rfl) (by kernel_rfl) (by kernel_rfl) (fun _ _ _ h => h) (Or.inl ⟨by rfl, ?_⟩) (by assumption) ?_; rotate_left 1; (focus (intro wz hSz; (try dsimp only at hSz); go_simp; (try with_reducible rfl))); (try simp only [Act.put, List.setIfInBounds_toArray, List.set_cons_zero, List.set_cons_succ]))
    (refine wpAnyH_take (i := 1) (v := ?_) rfl (by kernel_rfl) (by kernel_rfl) (by kernel_rfl) (fun _ _ _ h => h) (Or.inl ⟨by rfl, ?_⟩) (by assumption) ?_; rotate_left 1; (focus (intro wz hSz; (try dsimp only at hSz); go_simp; (try with_reducible rfl))); (try simp only [Act.put, List.setIfInBounds_toArray, List.set_cons_zero, List.set_cons_succ]))
    (refine wpAnyH_take (i := 2) (v := ?_) rfl (by kernel_rfl) (by kernel_rfl) (by kernel_rfl) (fun _ _ _ h => h) (Or.inl ⟨by rfl, ?_⟩) (by assumption) ?_; rotate_left 1; (focus (intro wz hSz; (try dsimp only at hSz); go_simp; (try with_reducible rfl))); (try simp only [Act.put, List.setIfInBounds_toArray, List.set_cons_zero, List.set_cons_succ]))
    (refine wpAnyH_take (i := 3) (v := ?_) rfl (by kernel_rfl) (by kernel_rfl) (by kernel_rfl) (fun _ _ _ h => h) (Or.inl ⟨by rfl, ?_⟩) (by assumption) ?_; rotate_left 1; (focus (intro wz hSz; (try dsimp only at hSz); go_simp; (try with_reducible rfl))); (try simp only [Act.put, List.setIfInBounds_toArray, List.set_cons_zero, List.set_cons_succ]))
    (refine wpAnyH_take (i := 5) (v := ?_) rfl (by kernel_rfl) (by kernel_rfl) (by kernel_rfl) (fun _ _ _ h => h) (Or.inl ⟨by rfl, ?_⟩) (by assumption) ?_; rotate_left 1; (focus (intro wz hSz; (try dsimp only at hSz); go_simp; (try with_reducible rfl))); (try simp only [Act.put, List.setIfInBounds_toArray, List.set_cons_zero, List.set_cons_succ]))
    (refine wpAnyH_take (i := 6) (v := ?_) rfl (by kernel_rfl) (by kernel_rfl) (by kernel_rfl) (fun _ _ _ h => h) (Or.inl ⟨by rfl, ?_⟩) (by assumption) ?_; rotate_left 1; (focus (intro wz hSz; (try dsimp only at hSz); go_simp; (try with_reducible rfl))); (try simp only [Act.put, List.setIfInBounds_toArray, List.set_cons_zero, List.set_cons_succ]))
    (refine wpAnyH_take (i := 7) (v := ?_) rfl (by kernel_rfl) (by kernel_rfl) (by kernel_rfl) (fun _ _ _ h => h) (Or.inl ⟨by rfl, ?_⟩) (by assumption) ?_; rotate_left 1; (focus (intro wz hSz; (try dsimp only at hSz); go_simp; (try with_reducible rfl))); (try simp only [Act.put, List.setIfInBounds_toArray, List.set_cons_zero, List.set_cons_succ]))
    (refine wpAnyH_take (i := 8) (v := ?_) rfl (by kernel_rfl) (by kernel_rfl) (by kernel_rfl) (fun _ _ _ h => h) (Or.inl ⟨by rfl, ?_⟩) (by assumption) ?_; rotate_left 1; (focus (intro wz hSz; (try dsimp only at hSz); go_simp; (try with_reducible rfl))); (try simp only [Act.put, List.setIfInBounds_toArray, List.set_cons_zero, List.set_cons_succ]))
    (refine wpAnyH_take (i := 9) (v := ?_) rfl (by kernel_rfl) (by kernel_rfl) (by kernel_rfl) (fun _ _ _ h => h) (Or.inl ⟨by rfl, ?_⟩) (by assumption) ?_; rotate_left 1; (focus (intro wz hSz; (try dsimp only at hSz); go_simp; (try with_reducible rfl))); (try simp only [Act.put, List.setIfInBounds_toArray, List.set_cons_zero, List.set_cons_succ]))
    (refine wpAnyH_take (i := 10) (v := ?_) rfl (by kernel_rfl) (by kernel_rfl) (by kernel_rfl) (fun _ _ _ h => h) (Or.inl ⟨by rfl, ?_⟩) (by assumption) ?_; rotate_left 1; (focus (intro wz hSz; (try dsimp only at hSz); go_simp; (try with_reducible rfl))); (try simp only [Act.put, List.setIfInBounds_toArray, List.set_cons_zero, List.set_cons_succ]))
    refine wpAnyH_ready (rs := [4, 11]) (by kernel_rfl) (by simp) ?_
    refine AllReadyH.cons rfl (fun K1 hK1 => ?_) (AllReadyH.cons rfl (fun K1 hK1 => ?_) AllReadyH.nil)
    · go_simp
      refine hK1.out _ _ hHeld (fun _ => ?_)
      (try simp only [Act.put, List.getElem_toArray, List.getElem_cons_succ, List.getElem_cons_zero, List.setIfInBounds_toArray, List.set_cons_zero, List.set_cons_succ])
      refine wpAnyH_ready (rs := [11]) (by kernel_rfl) (by simp) ?_
      refine AllReadyH.cons rfl (fun K2 hK2 => ?_) AllReadyH.nil
      go_simp
      refine hK2.out _ _ (HS3.out) (fun _ => ?_)
      (try simp only [Act.put, List.getElem_toArray, List.getElem_cons_succ, List.getElem_cons_zero, List.setIfInBounds_toArray, List.set_cons_zero, List.set_cons_succ])
      refine wpAnyH_ready (rs := [12]) (by kernel_rfl) (by simp) ?_
      refine AllReadyH.cons rfl (fun K3 hK3 => ?_) AllReadyH.nil
      refine step_snocT (by rfl) _ _ 39 (by rfl) 0 202 i0 _ 4 32 Tryz.underlying39 Hi.out Hz0.out Hz1.out Hz2.out rfl (by decide) (enc := encA) _ m.told (m.next, a) (by rfl) Tv3.out (by rfl) Nw3.out rfl (by simp [encA, Value.oneCell']) (by have := Hcnt.out; omega) (by decide) (Nat.zero_le _) ?_
      intro v10 w10 own10 hg10 hat10
      have row10 : w10.heap[M.g]? = some (.cells (M.cs c m) 134 (0, 0)) := (hg10.block M.g (Array.getElem?_eq_some_iff.1 Row3.out).1 (Ng.out)).trans Row3.out
      refine hK3.out _ _ ⟨cell_of_row _ _ _ _ _ _ row10, cell_of_row _ _ _ _ _ _ row10, cell_of_row _ _ _ _ _ _ row10⟩ (fun _ => ?_)
      (try simp only [Act.put, List.getElem_toArray, List.getElem_cons_succ, List.getElem_cons_zero, List.setIfInBounds_toArray, List.set_cons_zero, List.set_cons_succ])
      (refine wpAnyH_take (i := 13) (v := ?_) rfl (by kernel_rfl) (by kernel_rfl) (by kernel_rfl) (fun _ _ _ h => h) (Or.inl ⟨by rfl, ?_⟩) (by assumption) ?_; rotate_left 1; (focus (intro wz hSz; (try dsimp only at hSz); go_simp; (try with_reducible rfl))); (try simp only [Act.put, List.setIfInBounds_toArray, List.set_cons_zero, List.set_cons_succ]))
      (refine wpAnyH_take (i := 14) (v := ?_) rfl (by kernel_rfl) (by kernel_rfl) (by kernel_rfl) (fun _ _ _ h => h) (Or.inl ⟨by rfl, ?_⟩) (by assumption) ?_; rotate_left 1; (focus (intro wz hSz; (try dsimp only at hSz); go_simp; (try with_reducible rfl))); (try simp only [Act.put, List.setIfInBounds_toArray, List.set_cons_zero, List.set_cons_succ]))
      obtain ⟨A10, c10, hv10, _, _, _, _⟩ := own10.form encA_len
      have y10 : w10.cell? ⟨M.g, 8, none⟩ = some M.tv := cell_of_row _ _ _ _ _ _ row10
      have f10 := frozen_of_row w10 M.g 8 _ _ row10
      have fin := Fin.out v10 w10 own10 hg10 hat10 row10
      have FIN := Lib.hid fin
      obtain ⟨n10, hn10⟩ : ∃ n, (m.told ++ [(m.next, a)]).length = n := ⟨_, rfl⟩
      rw [hn10] at hv10
      subst hv10
      clear fin own10 hat10 hn10
      have row11 := heap_setCell_same w10 M.g 8 _ _ (.slice A10 n10 c10) row10
      refine wpAnyH_ready (rs := [15]) (by kernel_rfl) (by simp) ?_
      refine AllReadyH.cons rfl (fun K4 hK4 => ?_) AllReadyH.nil
      go_simp
      refine hK4.out _ _ ⟨cell_of_row _ _ _ _ _ _ row11, cell_of_row _ _ _ _ _ _ row11, cell_of_row _ _ _ _ _ _ row11⟩ (fun _ => ?_)
      (try simp only [Act.put, List.getElem_toArray, List.getElem_cons_succ, List.getElem_cons_zero, List.setIfInBounds_toArray, List.set_cons_zero, List.set_cons_succ])
      refine wpAnyH_done (by kernel_rfl) ?_ _
      go_wp2_with fail
      go_meet
      case rel => exact ⟨_, FIN.out⟩
    · go_simp
      refine hK1.out _ _ (HS3.out) (fun _ => ?_)
      (try simp only [Act.put, List.getElem_toArray, List.getElem_cons_succ, List.getElem_cons_zero, List.setIfInBounds_toArray, List.set_cons_zero, List.set_cons_succ])
      refine wpAnyH_ready (rs := [4]) (by kernel_rfl) (by simp) ?_
      refine AllReadyH.cons rfl (fun K2 hK2 => ?_) AllReadyH.nil
      go_simp
      refine hK2.out _ _ (HS3.out) (fun _ => ?_)
      (try simp only [Act.put, List.getElem_toArray, List.getElem_cons_succ, List.getElem_cons_zero, List.setIfInBounds_toArray, List.set_cons_zero, List.set_cons_succ])
      refine wpAnyH_ready (rs := [12]) (by kernel_rfl) (by simp) ?_
      refine AllReadyH.cons rfl (fun K3 hK3 => ?_) AllReadyH.nil
      refine step_snocT (by rfl) _ _ 39 (by rfl) 0 202 i0 _ 4 32 Tryz.underlying39 Hi.out Hz0.out Hz1.out Hz2.out rfl (by decide) (enc := encA) _ m.told (m.next, a) (by rfl) Tv3.out (by rfl) Nw3.out rfl (by simp [encA, Value.oneCell']) (by have := Hcnt.out; omega) (by decide) (Nat.zero_le _) ?_
      intro v10 w10 own10 hg10 hat10
      have row10 : w10.heap[M.g]? = some (.cells (M.cs c m) 134 (0, 0)) := (hg10.block M.g (Array.getElem?_eq_some_iff.1 Row3.out).1 (Ng.out)).trans Row3.out
      refine hK3.out _ _ ⟨cell_of_row _ _ _ _ _ _ row10, cell_of_row _ _ _ _ _ _ row10, cell_of_row _ _ _ _ _ _ row10⟩ (fun _ => ?_)
      (try simp only [Act.put, List.getElem_toArray, List.getElem_cons_succ, List.getElem_cons_zero, List.setIfInBounds_toArray, List.set_cons_zero, List.set_cons_succ])
      (refine wpAnyH_take (i := 13) (v := ?_) rfl (by kernel_rfl) (by kernel_rfl) (by kernel_rfl) (fun _ _ _ h => h) (Or.inl ⟨by rfl, ?_⟩) (by assumption) ?_; rotate_left 1; (focus (intro wz hSz; (try dsimp only at hSz); go_simp; (try with_reducible rfl))); (try simp only [Act.put, List.setIfInBounds_toArray, List.set_cons_zero, List.set_cons_succ]))
      (refine wpAnyH_take (i := 14) (v := ?_) rfl (by kernel_rfl) (by kernel_rfl) (by kernel_rfl) (fun _ _ _ h => h) (Or.inl ⟨by rfl, ?_⟩) (by assumption) ?_; rotate_left 1; (focus (intro wz hSz; (try dsimp only at hSz); go_simp; (try with_reducible rfl))); (try simp only [Act.put, List.setIfInBounds_toArray, List.set_cons_zero, List.set_cons_succ]))
      obtain ⟨A10, c10, hv10, _, _, _, _⟩ := own10.form encA_len
      have y10 : w10.cell? ⟨M.g, 8, none⟩ = some M.tv := cell_of_row _ _ _ _ _ _ row10
      have f10 := frozen_of_row w10 M.g 8 _ _ row10
      have fin := Fin.out v10 w10 own10 hg10 hat10 row10
      have FIN := Lib.hid fin
      obtain ⟨n10, hn10⟩ : ∃ n, (m.told ++ [(m.next, a)]).length = n := ⟨_, rfl⟩
      rw [hn10] at hv10
      subst hv10
      clear fin own10 hat10 hn10
      have row11 := heap_setCell_same w10 M.g 8 _ _ (.slice A10 n10 c10) row10
      refine wpAnyH_ready (rs := [15]) (by kernel_rfl) (by simp) ?_
      refine AllReadyH.cons rfl (fun K4 hK4 => ?_) AllReadyH.nil
      go_simp
      refine hK4.out _ _ ⟨cell_of_row _ _ _ _ _ _ row11, cell_of_row _ _ _ _ _ _ row11, cell_of_row _ _ _ _ _ _ row11⟩ (fun _ => ?_)
      (try simp only [Act.put, List.getElem_toArray, List.getElem_cons_succ, List.getElem_cons_zero, List.setIfInBounds_toArray, List.set_cons_zero, List.set_cons_succ])
      refine wpAnyH_done (by kernel_rfl) ?_ _
      go_wp2_with fail
      go_meet
      case rel => exact ⟨_, FIN.out⟩
  obtain ⟨tv, hAc, hOc, hTc⟩ := hcut
  have cA := advance_any c { m with told := m.told ++ [(m.next, a)] } { M with tv := tv } wc hAc Hc.out Hmore.out
  clear y8 y18 y19 y20 lg2 Bv2 Tv2 Row2 O2
  go_wp2_with fail
  refine cA.mono ?_
  rintro e w9 ⟨⟨u, rfl⟩, hA9, hO9⟩
  clear cA
  go_wp2_with fail
  go_ret
  exact ⟨rfl, tv, hA9, hOc.trans (hO9.mono (fun k _ hk => hk.elim .inl (fun h => .inr (.inl h)))), hTc⟩

end Go.Proofs.YtfolgmcoggejbaaGreat
