/- Contract of a course's search. For a course that is valid. -/
import Derived.Test.YtfolgmcoggejbaaGreatCasD
import Derived.Deep.CutBlock
namespace Go.Proofs.YtfolgmcoggejbaaGreat
open Go.RowKit Go.Maps
set_option linter.unusedVariables false
set_option linter.unusedSimpArgs false

def Cas.fromP (c : Cas) (p n : Nat) : List Qst := (List.range' p (n - p)).flatMap c.blk
theorem Cas.from_zero (c : Cas) (n : Nat) : c.fromP 0 n = c.upto n := by
  unfold Cas.fromP Cas.upto
  rw [List.range_eq_range', Nat.sub_zero]
theorem Cas.from_step (c : Cas) {p n : Nat} (h : p < n) : c.fromP p n = c.blk p ++ c.fromP (p + 1) n := by
  unfold Cas.fromP
  rw [show n - p = (n - (p + 1)) + 1 by omega, List.range'_succ, List.flatMap_cons]
theorem Cas.from_end (c : Cas) (n : Nat) : c.fromP n n = [] := by
  unfold Cas.fromP
  rw [Nat.sub_self]; rfl
/-- The best one so far, in a box. -/
def BestAt (w : World) (g : Nat) (a : Option Qst) : Prop := ∃ r : Qst, w.heap[g]? = some (.cells #[.int .i64 (r.pass : Int), .int .i64 (r.fr : Int), .int .i64 (r.to : Int)] 132 (0, 0)) ∧ ∀ q, a = some q → r = q ∧ q.fr < q.to ∧ q.to ≤ 512
theorem BestAt.on {w w' : World} {g : Nat} {a : Option Qst} (h : BestAt w g a) (hb : Below w.heap.size w w') : BestAt w' g a := by
  obtain ⟨r, h1, h2⟩ := h
  exact ⟨r, (hb.block g (Array.getElem?_eq_some_iff.1 h1).1).trans h1, h2⟩

/-- The store of a struct into a bigger box, in a region that draws its order. -/
theorem step_store_in {P : Program} {W : World} {ops : Array Oper} {o : Oper} {a : Act} {K : Act → World → Prop} {Q : Exit → Act → World → Prop} {E : Prop} (hgd : o.guard = none) (ty : TypeId) (x y : Operand) (ho : o.op = .store ty x y)
    (g off : Nat) (cells : Array Value) (hx : a.eval x = .pointer (some ⟨g, off, none⟩)) (hy : a.eval y = .agg cells)
    (t : TypeId) (old new : Array Value) (hg : W.heap[g]? = some (.cells old t (0, 0))) (hi : (P.info? ty).map (·.size) = some cells.size)
    (hold : off + cells.size ≤ old.size) (h1 : cells.all (·.oneCell') = true) (hn : (old.toList.take off ++ cells.toList ++ old.toList.drop (off + cells.size)).toArray = new)
    (h : K (a.put o.dst undef) (W.setRow g new)) : if Region.wanted o (yielded ops a.tmps) = true then Oper.wp P o a W K Q else E := by
  rw [if_pos (by simp [Region.wanted, hgd])]
  unfold Oper.wp execOp
  simp only [ho, hx, hy, Instr.storeAt, Instr.sureAddr, Sem.run_bind, Sem.run_pure, Result.andThen_ok, run_storeVar_in W g off t ty old cells new hg hi hold h1 hn]
  exact h
theorem Cas.srcS_none {c : Cas} {m : Mac} (h : bestGo (c.oddM m) (c.upto (m.pass + 1)) none = none) : c.srcS m = (.ask, { m with pass := m.pass + 1, block := 0 }) := by
  unfold Cas.srcS; rw [h]
theorem Cas.srcS_some {c : Cas} {m : Mac} {q : Qst} (h : bestGo (c.oddM m) (c.upto (m.pass + 1)) none = some q) : c.srcS m = if m.flips = m.b.length then (.stop, { m with failed := true }) else (.halve, { m with odd := q, ans := (m.look q).getD false, srch := true }) := by
  unfold Cas.srcS; rw [h]
set_option maxRecDepth 100000 in
set_option maxHeartbeats 16000000 in
theorem search_any (c : Cas) (m : Mac) (M : Mem) (w : World) (h : MacAt w c m M) (hc : c.Ok) (hat : c.at .search m) :
    Calls Tryz.prog 207 #[.pointer (some ⟨M.g, 0, none⟩)] w fun e w' => StepR c M (c.srcS m) w w' e := by
  have hpl := hat.2.2.2
  have hlen := hat.1.len
  have b1 := below_alloc (Below.refl w.heap.size w) (.cells #[.int .i64 0, .int .i64 0, .int .i64 0] 132)
  have B1 : BestAt (w.alloc (.cells #[.int .i64 0, .int .i64 0, .int .i64 0] 132)) w.heap.size none := ⟨⟨0, 0, 0⟩, heap_alloc_new w _, fun q hq => by cases hq⟩
  have x11 : w.cell? ⟨M.g, 11, none⟩ = some (.int .i64 (m.pass : Int)) := h.cel 11
  have x11b := bel_cell b1 x11
  obtain ⟨n, hn⟩ : ∃ n, m.pass + 1 = n := ⟨_, rfl⟩
  have hnP : n ≤ c.P := by omega
  have hP := hc.P
  have hn2 : (m.pass : Int) + 1 = (n : Int) := by omega
  have hp12 : m.pass < 12 := by omega
  go_enter Tryz.func207, Tryz.ntmps207
  go_upto_region 3 with fail
  go_step3
  go_upto_region 3 with fail
  go_step3
  obtain ⟨w1, hw1⟩ : ∃ w1, w.alloc (.cells #[.int .i64 0, .int .i64 0, .int .i64 0] 132) = w1 := ⟨_, rfl⟩
  obtain ⟨bb, hbb⟩ : ∃ bb, w.heap.size = bb := ⟨_, rfl⟩
  rw [hw1] at b1 B1 x11b ⊢
  rw [hbb] at B1 ⊢
  clear hw1
  obtain ⟨f, hf⟩ : ∃ f, c.oddM m = f := ⟨_, rfl⟩
  have hfq : ∀ q, c.isOdd m.b q ((lookT m.told q).getD false) = f q := fun q => by rw [← hf]; rfl
  have Hfq := Lib.hid hfq
  have HcA := Lib.hid hc
  have Hlen := Lib.hid hlen
  have Hat := Lib.hid hat
  have Hf := Lib.hid hf
  have hA1 := h.on b1
  have hbw : w.heap.size ≤ bb := by omega
  have Hbw := Lib.hid hbw
  clear hfq hf hat hlen x11 hbb hbw
  go_upto_block 0 with fail
  go_cut [4] (fun v wx => ∃ a : Option Qst, v = .bool a.isSome ∧ Hid (bestGo f (c.upto n) none = a) ∧ BestAt wx bb a ∧ Below w.heap.size w wx)
  case first =>
    go_upto_region 4 with fail
    go_loopw [4, 13] (fun v4 v13 wr => ∃ (p : Nat) (a : Option Qst), p ≤ n ∧ v13 = .int .i64 p ∧ v4 = .bool a.isSome ∧ BestAt wr bb a ∧ Below w.heap.size w wr ∧ Hid (bestGo f (c.upto n) none = bestGo f (c.fromP p n) a)) (fun _ v _ => n - (intOf v).toNat)
    case atStart => exact ⟨0, none, by omega, rfl, rfl, B1, b1, Lib.hid (by rw [c.from_zero])⟩
    case round =>
      obtain ⟨p, a, hp, rfl, rfl, hB, hbr, hG⟩ := hrel
      obtain ⟨w6, rfl⟩ : ∃ w6, w6 = wr := ⟨_, rfl⟩
      by_cases hlt : p < n
      · have hA6 := h.on hbr
        obtain ⟨A, k, rw1, r2, r3, r4⟩ := h.rows.blk p (by omega)
        have r1 := bel_cell hbr rw1
        have R4 := Lib.hid (r4.arr h.rows.hi)
        have hsh := c.blk_short HcA.out p
        have y5 : w6.cell? ⟨M.g, 5, none⟩ = some (.slice (some ⟨M.kb, 0, none⟩) c.P M.kc) := hA6.cel 5
        have hkc := hA6.rows.kc.1
        have hst : Hid (c.fromP p n = c.blk p ++ c.fromP (p + 1) n) := Lib.hid (c.from_step hlt)
        obtain ⟨L, hL⟩ : ∃ L, (c.blk p).length = L := ⟨_, rfl⟩
        rw [hL] at r1 r2 hsh
        clear rw1
        have HL := Lib.hid hL
        have hpP : p < c.P := by omega
        clear hL x11b hA1 B1 b1 r4
        go_upto_region 7 with fail
        go_loopw [4, 24] (fun v4 v24 wr => ∃ (i : Nat) (a : Option Qst), i ≤ L ∧ v24 = .int .i64 i ∧ v4 = .bool a.isSome ∧ BestAt wr bb a ∧ Below w.heap.size w wr ∧ Hid (bestGo f (c.upto n) none = bestGo f ((c.blk p).drop i ++ c.fromP (p + 1) n) a)) (fun _ v _ => L - (intOf v).toNat)
        case atStart => exact ⟨0, a, by omega, rfl, rfl, hB, hbr, Lib.hid (by rw [hG.out, hst.out, List.drop_zero])⟩
        case round =>
          obtain ⟨i, a2, hi, rfl, rfl, hB2, hbr2, hG2⟩ := hrel
          obtain ⟨w7, rfl⟩ : ∃ w7, w7 = wr := ⟨_, rfl⟩
          clear hB hbr hG y5 r1 hA6
          by_cases hil : i < L
          · obtain ⟨q, hq⟩ : ∃ q, (c.blk p)[i]? = some q := ⟨_, List.getElem?_eq_getElem (by rw [HL.out]; exact hil)⟩
            have hqv : c.val q := by
              have h1 := c.blk_at (p := p) (i := i) (by rw [HL.out]; exact hil)
              rw [hq] at h1
              rw [Option.some.inj h1]
              exact c.blk_val HcA.out hpP (by rw [HL.out]; exact hil)
            have hql := c.val_low HcA.out hqv
            obtain ⟨b, off, rfl, _, hcell⟩ := (R4.out.on hbr2) (fun e => by rw [e] at hq; simp at hq)
            have z0 := hcell i q hq 0 _ rfl
            have z1 := hcell i q hq 1 _ rfl
            have z2 := hcell i q hq 2 _ rfl
            simp only [Nat.add_zero] at z0
            obtain ⟨r, hrow, hra⟩ := hB2
            have bq := below_alloc (Below.refl w7.heap.size w7) (.cells #[.int .i64 (q.pass : Int), .int .i64 (q.fr : Int), .int .i64 (q.to : Int)] 132)
            have h8 := (h.on hbr2).on bq
            have hb8 := below_trans hbr2 bq
            have t0 : (w7.alloc (.cells #[.int .i64 (q.pass : Int), .int .i64 (q.fr : Int), .int .i64 (q.to : Int)] 132)).cell? ⟨w7.heap.size, 0, none⟩ = some (.int .i64 (q.pass : Int)) := new_cell rfl
            have t1 : (w7.alloc (.cells #[.int .i64 (q.pass : Int), .int .i64 (q.fr : Int), .int .i64 (q.to : Int)] 132)).cell? ⟨w7.heap.size, 1, none⟩ = some (.int .i64 (q.fr : Int)) := new_cell rfl
            have t2 : (w7.alloc (.cells #[.int .i64 (q.pass : Int), .int .i64 (q.fr : Int), .int .i64 (q.to : Int)] 132)).cell? ⟨w7.heap.size, 2, none⟩ = some (.int .i64 (q.to : Int)) := new_cell rfl
            have row8 := (bq.block bb (Array.getElem?_eq_some_iff.1 hrow).1).trans hrow
            have ltb : bb < w7.heap.size := (Array.getElem?_eq_some_iff.1 hrow).1
            clear bq hbr2 hcell
            go_upto_region 9 with fail
            obtain ⟨w8, hw8⟩ : ∃ w8, w7.alloc (.cells #[.int .i64 (q.pass : Int), .int .i64 (q.fr : Int), .int .i64 (q.to : Int)] 132) = w8 := ⟨_, rfl⟩
            obtain ⟨qb, hqb⟩ : ∃ qb, w7.heap.size = qb := ⟨_, rfl⟩
            rw [hw8] at h8 hb8 t0 t1 t2 row8 ⊢
            rw [hqb] at t0 t1 t2 ltb ⊢
            clear hw8 hqb z0 z1 z2 hrow
            have s0 := later_cell t0
            have s1 := later_cell t1
            have s2 := later_cell t2
            have e1 := later_cell (show w8.cell? ⟨bb, 1, none⟩ = some (.int .i64 (r.fr : Int)) from cell_of_row _ _ _ _ _ _ row8)
            have e2 := later_cell (show w8.cell? ⟨bb, 2, none⟩ = some (.int .i64 (r.to : Int)) from cell_of_row _ _ _ _ _ _ row8)
            have y7 := later_cell (show w8.cell? ⟨M.g, 7, none⟩ = some (.map (some M.mb)) from h8.cel 7)
            have hL : ∀ x : Later w8, (Instr.lookup 130 (.map (some M.mb)) (.agg #[.int .i64 (q.pass : Int), .int .i64 (q.fr : Int), .int .i64 (q.to : Int)]) false).run Tryz.prog x.w = .ok (.bool ((lookT m.told q).getD false)) x.w := fun x => ((h8.kn.on x.2).look hql).1
            have cO : ∀ x : Later w8, Calls Tryz.prog 208 #[.pointer (some ⟨M.g, 0, none⟩), .agg #[.int .i64 (q.pass : Int), .int .i64 (q.fr : Int), .int .i64 (q.to : Int)], .bool ((lookT m.told q).getD false)] x.w fun e w' => e = .returned (.bool (f q)) ∧ Below x.w.heap.size x.w w' := fun x => by
              have := isOdd_any c m M q ((lookT m.told q).getD false) x.w (h8.on x.2) HcA.out Hlen.out hqv
              rw [Hfq.out] at this
              exact this
            generalize (lookT m.told q).getD false = lv at hL cO
            have hst2 : Hid (bestGo f ((c.blk p).drop i ++ c.fromP (p + 1) n) a2 = if f q = false ∨ a2.any (fun b => decide (b.to - b.fr ≤ q.to - q.fr)) = true then bestGo f ((c.blk p).drop (i + 1) ++ c.fromP (p + 1) n) a2 else if q.to - q.fr = 1 then some q else bestGo f ((c.blk p).drop (i + 1) ++ c.fromP (p + 1) n) (some q)) := Lib.hid (by
              have h1 : i < (c.blk p).length := by rw [HL.out]; exact hil
              have h2 : (c.blk p)[i] = q := by rw [List.getElem?_eq_getElem h1] at hq; exact Option.some.inj hq
              rw [List.drop_eq_getElem_cons h1, h2, List.cons_append, bestGo])
            have hqv2 := hqv.2.1
            have hq512 : q.to ≤ 512 := Nat.le_trans hqv.2.2 HcA.out.n
            have rowlt := (Array.getElem?_eq_some_iff.1 row8).1
            have t0' := t0; have t1' := t1; have t2' := t2
            clear t0 t1 t2
            go_cut [53] (fun v wx => v = .bool (!(f q) || a2.any (fun b => decide (b.to - b.fr ≤ q.to - q.fr))) ∧ Below w8.heap.size w8 wx)
            case first =>
              have hraC := hra
              clear hG2 hst2 row8 hra t0' t1' t2' h8
              cases hfq : f q
              · rw [hfq] at cO
                (refine wp_region_later (by kernel_rfl) (by kernel_rfl) ?_; (repeat (go_big_quiet_step (((go_at_call 208; exact calls_later (cO _)))))); refine wpQuiet_nil ?_; rintro w9 ⟨⟨_, hb9⟩, rfl⟩)
                go_wp2_with fail
                go_meet
                case rel => exact ⟨by rw [hfq]; rfl, hb9⟩
              · rw [hfq] at cO
                cases a2 with
                | none =>
                  simp only [Option.isSome_none]
                  (refine wp_region_later (by kernel_rfl) (by kernel_rfl) ?_; (repeat (go_big_quiet_step (((go_at_call 208; exact calls_later (cO _)))))); refine wpQuiet_nil ?_; rintro w9 ⟨⟨_, hb9⟩, rfl⟩)
                  go_wp2_with fail
                  go_meet
                  case rel => exact ⟨by rw [hfq]; rfl, hb9⟩
                | some r' =>
                  simp only [Option.isSome_some]
                  obtain ⟨rfl, hr1, hr2⟩ := hraC r' rfl
                  cases hle : decide (r.to - r.fr ≤ q.to - q.fr)
                  · have d1 : decide ((r.to : Int) - (r.fr : Int) ≤ (q.to : Int) - (q.fr : Int)) = false := by
                      have := of_decide_eq_false hle
                      simp; omega
                    (refine wp_region_later (by kernel_rfl) (by kernel_rfl) ?_; (repeat (go_big_quiet_step (((go_at_call 208; exact calls_later (cO _)))))); refine wpQuiet_nil ?_; rintro w9 ⟨⟨_, hb9⟩, rfl⟩)
                    go_wp2_with fail
                    go_meet
                    case rel => exact ⟨by rw [hfq]; show Value.bool false = Value.bool (false || decide (r.to - r.fr ≤ q.to - q.fr)); rw [hle]; rfl, hb9⟩
                  · have d1 : decide ((r.to : Int) - (r.fr : Int) ≤ (q.to : Int) - (q.fr : Int)) = true := by
                      have := of_decide_eq_true hle
                      simp; omega
                    (refine wp_region_later (by kernel_rfl) (by kernel_rfl) ?_; (repeat (go_big_quiet_step (((go_at_call 208; exact calls_later (cO _)))))); refine wpQuiet_nil ?_; rintro w9 ⟨⟨_, hb9⟩, rfl⟩)
                    go_wp2_with fail
                    go_meet
                    case rel => exact ⟨by rw [hfq]; show Value.bool true = Value.bool (false || decide (r.to - r.fr ≤ q.to - q.fr)); rw [hle]; rfl, hb9⟩
            obtain ⟨rfl, hb9⟩ := hcut
            clear cO hL y7 e1 e2 s0 s1 s2
            have row9 := (hb9.block bb rowlt).trans row8
            have hb10 := below_trans hb8 hb9
            have u0 := bel_cell hb9 t0'
            have u1 := bel_cell hb9 t1'
            have u2 := bel_cell hb9 t2'
            clear t0' t1' t2' hb8 h8 row8
            obtain ⟨w9, rfl⟩ : ∃ w9, w9 = wc := ⟨_, rfl⟩
            cases hX : (!(f q) || a2.any (fun b => decide (b.to - b.fr ≤ q.to - q.fr)))
            · have hno : Hid (¬ (f q = false ∨ a2.any (fun b => decide (b.to - b.fr ≤ q.to - q.fr)) = true)) := Lib.hid (by
                rw [Bool.or_eq_false_iff] at hX
                rintro (h1 | h1)
                · rw [h1] at hX; simp at hX
                · rw [h1] at hX; simp at hX)
              have gr := grown_setRow w9 bb #[.int .i64 (q.pass : Int), .int .i64 (q.fr : Int), .int .i64 (q.to : Int)]
              have rh := setRow_heap w9 bb _ #[.int .i64 (q.pass : Int), .int .i64 (q.fr : Int), .int .i64 (q.to : Int)] _ (0, 0) row9
              have hb11 : Below w.heap.size w (w9.setRow bb #[.int .i64 (q.pass : Int), .int .i64 (q.fr : Int), .int .i64 (q.to : Int)]) := hb10.grown gr hb10.size (fun k hk => by cases hk; exact Hbw.out)
              have B11 : BestAt (w9.setRow bb #[.int .i64 (q.pass : Int), .int .i64 (q.fr : Int), .int .i64 (q.to : Int)]) bb (some q) := ⟨q, rh, fun q' hq' => by cases hq'; exact ⟨rfl, hqv2, hq512⟩⟩
              have v1 : (w9.setRow bb #[.int .i64 (q.pass : Int), .int .i64 (q.fr : Int), .int .i64 (q.to : Int)]).cell? ⟨qb, 1, none⟩ = some (.int .i64 (q.fr : Int)) := gr.cell u1 (by simp; omega)
              have v2 : (w9.setRow bb #[.int .i64 (q.pass : Int), .int .i64 (q.fr : Int), .int .i64 (q.to : Int)]).cell? ⟨qb, 2, none⟩ = some (.int .i64 (q.to : Int)) := gr.cell u2 (by simp; omega)
              have hsz : (Tryz.prog.info? 132).map (·.size) = some 3 := by kernel_rfl
              cases h1 : decide (q.to - q.fr = 1)
              · have hG3 : Hid (bestGo f (c.upto n) none = bestGo f ((c.blk p).drop (i + 1) ++ c.fromP (p + 1) n) (some q)) := Lib.hid (by rw [hG2.out, hst2.out, if_neg hno.out, if_neg (of_decide_eq_false h1)])
                have d1 : ((q.to : Int) - (q.fr : Int) == 1) = false := by
                  have := of_decide_eq_false h1
                  simp; omega
                clear h1 hst2 hG2 hno gr rh hX
                go_wp2_with (refine wpList_store_row rfl 132 _ _ rfl bb #[.int .i64 (q.pass : Int), .int .i64 (q.fr : Int), .int .i64 (q.to : Int)] (by kernel_rfl) (by kernel_rfl) 132 _ row9 hsz rfl (by kernel_rfl) ?_)
                exact ⟨⟨i + 1, some q, by omega, by go_num, rfl, B11, hb11, hG3⟩, by simp [intOf]; omega⟩
              · have hG3 : Hid (bestGo f (c.upto n) none = some q) := Lib.hid (by rw [hG2.out, hst2.out, if_neg hno.out, if_pos (of_decide_eq_true h1)])
                have d1 : ((q.to : Int) - (q.fr : Int) == 1) = true := by
                  have := of_decide_eq_true h1
                  simp; omega
                clear h1 hst2 hG2 hno gr rh hX
                go_wp2_with (refine wpList_store_row rfl 132 _ _ rfl bb #[.int .i64 (q.pass : Int), .int .i64 (q.fr : Int), .int .i64 (q.to : Int)] (by kernel_rfl) (by kernel_rfl) 132 _ row9 hsz rfl (by kernel_rfl) ?_)
                go_meet
                case rel => exact ⟨some q, rfl, hG3, B11, hb11⟩
            · have hG3 : Hid (bestGo f (c.upto n) none = bestGo f ((c.blk p).drop (i + 1) ++ c.fromP (p + 1) n) a2) := Lib.hid (by
                rw [hG2.out, hst2.out, if_pos ?_]
                rw [Bool.or_eq_true] at hX
                rcases hX with h1 | h1
                · exact .inl (by simpa using h1)
                · exact .inr h1)
              clear hst2 hG2 hX
              go_wp2_with fail
              exact ⟨⟨i + 1, a2, by omega, by go_num, rfl, ⟨r, row9, hra⟩, hb10, hG3⟩, by simp [intOf]; omega⟩
          · obtain rfl : i = L := by omega
            have hG3 : Hid (bestGo f (c.upto n) none = bestGo f (c.fromP (p + 1) n) a2) := Lib.hid (by rw [hG2.out, List.drop_eq_nil_of_le (by rw [HL.out]; exact Nat.le_refl _), List.nil_append])
            go_wp2_with fail
            exact ⟨⟨p + 1, a2, by omega, by go_num, rfl, hB2, hbr2, hG3⟩, by simp [intOf]; omega⟩
      · obtain rfl : p = n := by omega
        have hG2 : Hid (bestGo f (c.upto p) none = a) := Lib.hid (by rw [hG.out, c.from_end]; rfl)
        go_wp2_with fail
        go_meet
        case rel => exact ⟨a, rfl, hG2, hB, hbr⟩
  obtain ⟨a, rfl, hG, hB, hbr⟩ := hcut
  have hAc := h.on hbr
  obtain ⟨wx, rfl⟩ : ∃ wx, wx = wc := ⟨_, rfl⟩
  clear hA1 B1 b1 x11b
  cases a with
  | none =>
    simp only [Option.isSome_none]
    have hst : Hid (c.srcS m = (.ask, { m with pass := m.pass + 1, block := 0 })) := Lib.hid (c.srcS_none (by rw [Hf.out, hn, hG.out]))
    have c11 : wx.cell? ⟨M.g, 11, none⟩ = some (.int .i64 (m.pass : Int)) := hAc.cel 11
    have c12 : wx.cell? ⟨M.g, 12, none⟩ = some (.int .i64 (m.block : Int)) := hAc.cel 12
    have f11 := hAc.fr 11
    have f12 := hAc.fr 12
    have k1 : MacAt (wx.setCell ⟨M.g, 11, none⟩ (.int .i64 (n : Int))) c { m with pass := m.pass + 1 } M := hAc.set 11 _ (m' := { m with pass := m.pass + 1 }) (by rw [← hn]; rfl) rfl rfl
    have k2 : MacAt ((wx.setCell ⟨M.g, 11, none⟩ (.int .i64 (n : Int))).setCell ⟨M.g, 12, none⟩ (.int .i64 0)) c { m with pass := m.pass + 1, block := 0 } M := k1.set 12 _ (m' := { m with pass := m.pass + 1, block := 0 }) rfl rfl rfl
    have o2 : OutS M.S w ((wx.setCell ⟨M.g, 11, none⟩ (.int .i64 (n : Int))).setCell ⟨M.g, 12, none⟩ (.int .i64 0)) := ((OutS.of hbr).trans (OutS.set (.inl rfl))).trans (OutS.set (.inl rfl))
    clear k1 hB hG
    go_wp2_with fail
    try rw [Exit.noGoto_ret]
    go_ret
    rw [hst.out]
    exact ⟨rfl, k2, o2⟩
  | some q =>
    simp only [Option.isSome_some]
    have hst : Hid (c.srcS m = if m.flips = m.b.length then (.stop, { m with failed := true }) else (.halve, { m with odd := q, ans := (m.look q).getD false, srch := true })) := Lib.hid (c.srcS_some (by rw [Hf.out, hn, hG.out]))
    have hql : q.low := by
      rcases bestGo_mem _ _ _ hG.out with h1 | h1
      · exact c.val_low HcA.out (c.upto_val HcA.out hnP h1)
      · cases h1
    obtain ⟨r, hrow, hra⟩ := hB
    obtain ⟨rfl, _, _⟩ := hra q rfl
    have hbbg : bb ≠ M.g := fun e => by
      have h1 := h.row
      have h2 := (Array.getElem?_eq_some_iff.1 h1).1
      have := Hbw.out
      omega
    have c9 : wx.cell? ⟨M.g, 9, none⟩ = some (.int .i64 (m.flips : Int)) := hAc.cel 9
    obtain ⟨B, cb, hbv, lb, mbv, nbv, arB⟩ := hAc.b.form encB_len
    have c6 := hAc.cel 6
    rw [show (M.cs c m)[6]? = some (.slice B m.b.length cb) from congrArg some hbv] at c6
    clear hG arB hra hbv lb mbv nbv
    cases hfl : decide (m.flips = m.b.length)
    · have hfl2 := of_decide_eq_false hfl
      have d1 : ((m.flips : Int) == (m.b.length : Int)) = false := by simpa using (by omega : ¬ (m.flips : Int) = (m.b.length : Int))
      have hR : Hid (c.srcS m = (.halve, { m with odd := r, ans := (m.look r).getD false, srch := true })) := Lib.hid (by rw [hst.out, if_neg hfl2])
      clear hfl hfl2 hst
      go_upto_region 18 with fail
      go_region
      go_upto_region 21 with fail
      have hSx : wx.drew.drew.cell? ⟨M.g, 7, none⟩ = some (.map (some M.mb)) ∧ wx.drew.drew.cell? ⟨bb, 0, none⟩ = some (.int .i64 (r.pass : Int)) ∧ wx.drew.drew.cell? ⟨bb, 1, none⟩ = some (.int .i64 (r.fr : Int)) ∧ wx.drew.drew.cell? ⟨bb, 2, none⟩ = some (.int .i64 (r.to : Int)) ∧ (Instr.lookup 130 (.map (some M.mb)) (.agg #[.int .i64 (r.pass : Int), .int .i64 (r.fr : Int), .int .i64 (r.to : Int)]) false).run Tryz.prog wx.drew.drew = .ok (.bool ((lookT m.told r).getD false)) wx.drew.drew := by
        have h1 := hAc.on (Below.refl _ _).drew.drew
        exact ⟨h1.cel 7, cell_of_row _ _ _ _ _ _ hrow, cell_of_row _ _ _ _ _ _ hrow, cell_of_row _ _ _ _ _ _ hrow, (h1.kn.look hql).1⟩
      obtain ⟨s7, sb0, sb1, sb2, sL⟩ := hSx
      have y14 : wx.cell? ⟨M.g, 14, none⟩ = some (.int .i64 (m.odd.pass : Int)) := hAc.cel 14
      have y15 : wx.cell? ⟨M.g, 15, none⟩ = some (.int .i64 (m.odd.fr : Int)) := hAc.cel 15
      have y16 : wx.cell? ⟨M.g, 16, none⟩ = some (.int .i64 (m.odd.to : Int)) := hAc.cel 16
      have y17 : wx.cell? ⟨M.g, 17, none⟩ = some (.bool m.ans) := hAc.cel 17
      have y13 : wx.cell? ⟨M.g, 13, none⟩ = some (.bool m.srch) := hAc.cel 13
      have f14 := hAc.fr 14
      have f15 := hAc.fr 15
      have f16 := hAc.fr 16
      have f17 := hAc.fr 17
      have f13 := hAc.fr 13
      have e7 : wx.cell? ⟨M.g, 7, none⟩ = some (.map (some M.mb)) := hAc.cel 7
      have e0 : wx.cell? ⟨bb, 0, none⟩ = some (.int .i64 (r.pass : Int)) := cell_of_row _ _ _ _ _ _ hrow
      have e1 : wx.cell? ⟨bb, 1, none⟩ = some (.int .i64 (r.fr : Int)) := cell_of_row _ _ _ _ _ _ hrow
      have e2 : wx.cell? ⟨bb, 2, none⟩ = some (.int .i64 (r.to : Int)) := cell_of_row _ _ _ _ _ _ hrow
      go_region
      have k14 : MacAt (wx.setCell ⟨M.g, 14, none⟩ (.int .i64 (r.pass : Int))) c { m with odd := ⟨r.pass, m.odd.fr, m.odd.to⟩ } M := hAc.set 14 _ (m' := { m with odd := ⟨r.pass, m.odd.fr, m.odd.to⟩ }) rfl rfl rfl
      have k15 := k14.set 15 (.int .i64 (r.fr : Int)) (m' := { m with odd := ⟨r.pass, r.fr, m.odd.to⟩ }) rfl rfl rfl
      have k16 := k15.set 16 (.int .i64 (r.to : Int)) (m' := { m with odd := r }) rfl rfl rfl
      have k17 := k16.set 17 (.bool ((lookT m.told r).getD false)) (m' := { m with odd := r, ans := (m.look r).getD false }) rfl rfl rfl
      have k13 := k17.set 13 (.bool true) (m' := { m with odd := r, ans := (m.look r).getD false, srch := true }) rfl rfl rfl
      have kd := k13.on (Below.refl _ _).drew.drew
      have od : OutS M.S wx (((((wx.setCell ⟨M.g, 14, none⟩ (.int .i64 (r.pass : Int))).setCell ⟨M.g, 15, none⟩ (.int .i64 (r.fr : Int))).setCell ⟨M.g, 16, none⟩ (.int .i64 (r.to : Int))).setCell ⟨M.g, 17, none⟩ (.bool ((lookT m.told r).getD false))).setCell ⟨M.g, 13, none⟩ (.bool true)).drew.drew :=
        (((((OutS.set (.inl rfl)).trans (OutS.set (.inl rfl))).trans (OutS.set (.inl rfl))).trans (OutS.set (.inl rfl))).trans (OutS.set (.inl rfl))).trans (OutS.of (Below.refl _ _).drew.drew)
      clear k14 k15 k16 k17 k13 y13 y14 y15 y16 y17 f13 f14 f15 f16 f17 e7 e0 e1 e2 sL s7 sb0 sb1 sb2
      go_wp2_with fail
      try rw [Exit.noGoto_ret]
      go_ret
      rw [hR.out]
      exact ⟨rfl, kd, (OutS.of hbr).trans od⟩
    · have hfl2 := of_decide_eq_true hfl
      have d1 : ((m.flips : Int) == (m.b.length : Int)) = true := by simp [hfl2]
      have hR : Hid (c.srcS m = (.stop, { m with failed := true })) := Lib.hid (by rw [hst.out, if_pos hfl2])
      clear hfl hfl2 hst
      have hAd := hAc.on (Below.refl _ _).drew
      have c10 : wx.drew.cell? ⟨M.g, 10, none⟩ = some (.bool m.failed) := hAd.cel 10
      have f10 := hAd.fr 10
      have k1 : MacAt (wx.drew.setCell ⟨M.g, 10, none⟩ (.bool true)) c { m with failed := true } M := hAd.set 10 _ (m' := { m with failed := true }) rfl rfl rfl
      have o2 : OutS M.S w (wx.drew.setCell ⟨M.g, 10, none⟩ (.bool true)) := (OutS.of hbr.drew).trans (OutS.set (.inl rfl))
      go_upto_region 18 with fail
      go_region
      go_wp2_with fail
      try rw [Exit.noGoto_ret]
      go_ret
      rw [hR.out]
      exact ⟨rfl, k1, o2⟩

end Go.Proofs.YtfolgmcoggejbaaGreat
