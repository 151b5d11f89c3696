/- The program's Detect. For a valid arrangement, a shift, and valid light. -/
import Derived.Test.YteoaaphjbggobaaGreatDetB
import Derived.Test.YteoaaphjbggobaaGreatCarAll
namespace Go.Proofs.YteoaaphjbggobaaGreat
open Go.RowKit
set_option linter.unusedVariables false
set_option linter.unusedSimpArgs false

theorem clk_info9 : (Tryz.prog.info? 141).map (fun i => (i.zero, i.size, i.bytes)) = some (some (.agg #[.int .i64 0, .int .i64 0]), 2, 16) := by kernel_rfl
def clk0 : Clk := ⟨0, 0⟩
theorem Arr.lgt {w w' : World} {B : Nat} {A : Option Addr} {k : Nat} {l : List Lgt} (h : Arr 4 Lgt.enc w B A l) (hk : k < l.length) (hb : Below B w w') :
    ∃ b off x, A = some ⟨b, off, none⟩ ∧ b < B ∧ Hid (l[k]? = some x) ∧ w'.cell? ⟨b, off + k * 4, none⟩ = some (.int .i64 x.ph) ∧ w'.cell? ⟨b, off + k * 4 + 1, none⟩ = some (.int .i64 x.basis) ∧
      w'.cell? ⟨b, off + k * 4 + 2, none⟩ = some (.bool x.bit) ∧ w'.cell? ⟨b, off + k * 4 + 3, none⟩ = some (.bool x.br) := by
  obtain ⟨b, off, rfl, hbb, hc⟩ := h.get hk hb
  exact ⟨b, off, _, rfl, hbb, Lib.hid (List.getElem?_eq_getElem hk), hc 0 _ rfl, hc 1 _ rfl, hc 2 _ rfl, hc 3 _ rfl⟩
theorem detX_at {eta dark sh : Int} {l : List Lgt} {s k : Nat} : ∀ {n : Nat}, k < n → (detX eta dark l sh s n).1[k]? = some (clkX eta dark (lgtAt l sh k) (detX eta dark l sh s k).2).1
  | 0, h => by omega
  | n + 1, h => by
    have hn := detX_len eta dark l sh s n
    rw [detX]
    simp only
    by_cases e : k = n
    · subst e
      rw [List.getElem?_append_right (by omega), hn, Nat.sub_self]
      rfl
    · rw [List.getElem?_append_left (by omega)]
      exact detX_at (by omega)
/-- The world between two clicks: draws b, the arrangement O, the clicks g. -/
structure DetO (B : Nat) (W : World) (b O g n s : Nat) (o : Opt) (outs : List Clk) : Prop where
  d : DrwAt W b s
  o_ : OptAt W O o
  c : Go.Proofs.YteoaaphjbggobaaGreat.Own W B 141 2 Clk.enc (.slice (some ⟨g, 0, none⟩) n n) outs
  lb : B ≤ b ∧ B ≤ W.heap.size
section
variable {B : Nat} {W W' : World} {b O g n s s' : Nat} {o : Opt} {outs : List Clk}
theorem DetO.row (h : DetO B W b O g n s o outs) : ∃ cs, B ≤ g ∧ W.heap[g]? = some (.cells cs 141 (0, 0)) := by
  rcases h.c.2 with ⟨h0, _⟩ | ⟨g', cap, cur, h0, hb, hg, _⟩
  · cases h0
  · injection h0 with e1 e2 e3
    injection e1 with e1
    injection e1 with e1
    rw [e1]
    exact ⟨_, hb, hg⟩
theorem DetO.grown (h : DetO B W b O g n s o outs) (hd : DrwAt W' b s') (hg : W.grownBy W' (some b)) : DetO B W' b O g n s' o outs := by
  obtain ⟨cs, h1, h2⟩ := h.row
  have n1 := row_ne h2 h.d (by decide)
  have n2 : O ≠ b := row_ne h.o_ h.d (by decide)
  exact ⟨hd, (hg.block _ (Array.getElem?_eq_some_iff.1 h.o_).1 (by simpa using n2)).trans h.o_, h.c.keep hg (.inr (by simp [Value.ownBlock]; exact n1)), ⟨h.lb.1, by have := hg.size; have := h.lb; omega⟩⟩
theorem DetO.alloc (h : DetO B W b O g n s o outs) (ob : Obj) : DetO B (W.alloc ob) b O g n s o outs := h.grown (h.d.keep (row := none) (World.grownBy_alloc _ _ none) (by simp)) (World.grownBy_alloc _ _ _)
theorem DetO.turn (h : DetO B W b O g n s o outs) {X : Nat} {cs : Array Value} (hX : W.heap[X]? = some (.cells cs 196 (0, 0))) (hg : W.grownBy W' (some X)) : DetO B W' b O g n s o outs := by
  obtain ⟨cs', h1, h2⟩ := h.row
  have n1 := row_ne h2 hX (by decide)
  have n2 : O ≠ X := row_ne h.o_ hX (by decide)
  have n3 : X ≠ b := row_ne hX h.d (by decide)
  exact ⟨h.d.keep hg (by simpa using n3), (hg.block _ (Array.getElem?_eq_some_iff.1 h.o_).1 (by simpa using n2)).trans h.o_, h.c.keep hg (.inr (by simp [Value.ownBlock]; exact n1)), ⟨h.lb.1, by have := hg.size; have := h.lb; omega⟩⟩
theorem DetO.set (h : DetO B W b O g n s o outs) (hl : outs.length = n) {k : Nat} {x : Clk} (hx : outs[k]? = some x) (x' : Clk) :
    DetO B ((W.setCell ⟨g, k * 2, none⟩ (.int .i64 x'.basis)).setCell ⟨g, k * 2 + 1, none⟩ (.int .i64 x'.kind)) b O g n s o (outs.set k x') ∧
    (∀ {x : World}, Below B x W → Below B x ((W.setCell ⟨g, k * 2, none⟩ (.int .i64 x'.basis)).setCell ⟨g, k * 2 + 1, none⟩ (.int .i64 x'.kind))) := by
  have hk := (List.getElem?_eq_some_iff.1 hx).1
  obtain ⟨cs, hBg, hg⟩ := h.row
  have hG : W.grownBy ((W.setCell ⟨g, k * 2, none⟩ (.int .i64 x'.basis)).setCell ⟨g, k * 2 + 1, none⟩ (.int .i64 x'.kind)) (some g) := grown_trans (grown_setCell W g _ _) (grown_setCell _ g _ _)
  have o1 := h.c.setK hl Clk.enc_len (x' := ⟨x'.basis, x.kind⟩) hx (j := 0) (u := .int .i64 x'.basis) (by decide) rfl
  have o2 := o1.setK (by rw [List.length_set]; exact hl) Clk.enc_len (x' := x') (List.getElem?_set_self hk) (j := 1) (u := .int .i64 x'.kind) (by decide) rfl
  rw [List.set_set] at o2
  have n1 := row_ne h.d hg (by decide)
  have n2 : O ≠ g := row_ne h.o_ hg (by decide)
  exact ⟨⟨h.d.keep hG (by simpa using n1.symm), (hG.block _ (Array.getElem?_eq_some_iff.1 h.o_).1 (by simpa using n2)).trans h.o_, o2, ⟨h.lb.1, by have := hG.size; have := h.lb; omega⟩⟩, fun hb => hb.grown hG h.lb.2 (fun j hj => by cases hj; exact hBg)⟩
end

set_option maxRecDepth 100000 in
set_option maxHeartbeats 16000000 in
theorem Detect_any (o : Opt) (A : Option Addr) (cA : Nat) (l : List Lgt) (sh : Int) (s : Nat) (w : World) (ho : optB o = true) (hA : Arr 4 Lgt.enc w w.heap.size A l) (hl : l.length ≤ 4096) (hok : l.all Lgt.ok = true) (hs1 : -16 ≤ sh) (hs2 : sh ≤ 16) :
    Calls Tryz.prog 55 #[o.val, .slice A l.length cA, .int .i64 sh, .int .u64 s] w fun e w' => ∃ v, e = .returned (.tuple #[v, .int .i64 0]) ∧ Own w' w.heap.size 141 2 Clk.enc v (detX o.eta o.dark l sh s l.length).1 ∧ Below w.heap.size w w' := by
  obtain ⟨i0, hi, hz0, hz1, hz2⟩ := info_parts clk_info9
  have Hi := Lib.hid hi; have Hz0 := Lib.hid hz0; have Hz1 := Lib.hid hz1; have Hz2 := Lib.hid hz2
  clear hi hz0 hz1 hz2
  have Hok := Lib.hid hok
  clear hok
  have At0 := Lib.hid (OptAt.new w o)
  have hb0 := below_alloc (Below.refl w.heap.size w) (.cells o.cs 68)
  have cC := oCheck_any o (w.alloc (.cells o.cs 68))
  have e0 : optE o = 0 := by unfold optE; rw [if_pos ho]
  rw [e0] at cC
  have d1 : decide (sh < -16) = false := by simp; omega
  have d2 : decide (16 < sh) = false := by simp; omega
  have d3 : decide (4096 < (l.length : Int)) = false := by simp; omega
  unfold Opt.val Opt.cs at *
  go_enter Tryz.func55, Tryz.ntmps55
  go_wp2_with (refine wpList_load_row rfl 68 _ rfl w.heap.size rfl 68 _ (0, 0) _ At0.out Tryz.underlying68 rfl (by kernel_rfl) ?_)
  refine cC.mono ?_
  rintro e w1 ⟨rfl, hb1⟩
  have At1 := At0.out.on hb1
  have q1 := below_trans hb0 hb1
  clear cC At0 hb0 hb1 e0 ho
  go_wp2_with fail
  go_loopw [34] (fun i wr => ∃ k : Nat, k ≤ l.length ∧ i = .int .i64 k ∧ Below w1.heap.size w1 wr) (fun i _ => l.length - (intOf i).toNat)
  case atStart => exact ⟨0, Nat.zero_le _, rfl, Below.refl _ _⟩
  case round =>
    obtain ⟨k, hk, rfl, hb⟩ := hrel
    obtain ⟨wi, rfl⟩ : ∃ wi, wi = wr := ⟨_, rfl⟩
    rcases Nat.lt_or_ge k l.length with hlt | hge
    · obtain ⟨bp, op, x, rfl, hbb, hx, x0, x1, x2, x3⟩ := hA.lgt hlt (below_trans q1 hb)
      have hxo : x.ok = true := List.all_eq_true.1 Hok.out _ (List.mem_of_getElem? hx.out)
      unfold Lgt.ok at hxo
      simp only [betwB, Bool.and_eq_true, decide_eq_true_eq] at hxo
      obtain ⟨⟨a1, a2⟩, a3⟩ := hxo
      have e1 : decide (x.basis < 0) = false := by simp; omega
      have e2 : decide (1 < x.basis) = false := by simp; omega
      have e3 : decide ((x.ph : Int) < 0) = false := by simp
      have e4 : decide ((3 : Int) < (x.ph : Int)) = false := by simp; omega
      have q7 := below_alloc hb (.cells #[.int .i64 x.ph, .int .i64 x.basis, .bool x.bit, .bool x.br] 196)
      go_wp2_with fail
      exact ⟨⟨k + 1, by omega, by go_num, q7⟩, by simp [intOf]; omega⟩
    · obtain rfl : k = l.length := by omega
      have At2 := At1.on hb
      have q2 := below_trans q1 hb
      clear At1 q1 hb
      go_wp2_with fail
      refine (New_any s wi).mono ?_
      rintro e w3 ⟨rfl, hw3⟩
      have D3 : DrwAt w3 wi.heap.size s := by rw [hw3]; exact DrwAt.new wi s
      have q3 : Below w.heap.size w w3 := by rw [hw3]; exact below_alloc q2 _
      have At3 : OptAt w3 w.heap.size o := by rw [hw3]; exact At2.on (below_alloc (Below.refl _ _) _)
      have hbb : w.heap.size ≤ wi.heap.size := q2.size
      generalize wi.heap.size = b at *
      clear hw3 q2 At2
      go_upto_region 16 with (at_make; refine wpList_mkK rfl _ _ 72 rfl 141 i0 _ 2 16 Tryz.underlying72 Hi.out Hz0.out Hz1.out Hz2.out (by decide) Clk.enc_len clk0 rfl _ _ _ _ l.length rfl rfl rfl rfl (by omega) (by unfold maxLen; omega) ?_; intro w7 own7 hb7)
      have q7 := below_trans q3 hb7
      have O7 : DetO w.heap.size w7 b w.heap.size w3.heap.size l.length s o (List.replicate l.length clk0) := ⟨D3.on hb7, At3.on hb7, Go.Proofs.YteoaaphjbggobaaGreat.Own.down own7 q3.size, ⟨hbb, q7.size⟩⟩
      generalize w3.heap.size = g at *
      clear D3 q3 At3 hbb own7 hb7
      have hln : (detX o.eta o.dark l sh s l.length).1.length = l.length := detX_len _ _ _ _ _ _
      have st0 : Hid (fill (detX o.eta o.dark l sh s l.length).1 clk0 0 = List.replicate l.length clk0) := Lib.hid (by rw [fill_zero, hln])
      have Hln := Lib.hid hln
      clear hln
      go_wp2_with fail
      go_loopw [64] (fun i wr => ∃ k : Nat, k ≤ l.length ∧ i = .int .i64 k ∧ DetO w.heap.size wr b w.heap.size g l.length (detX o.eta o.dark l sh s k).2 o (fill (detX o.eta o.dark l sh s l.length).1 clk0 k) ∧ Below w.heap.size w wr) (fun i _ => l.length - (intOf i).toNat)
      case atStart => exact ⟨0, Nat.zero_le _, rfl, by rw [st0.out]; exact O7, q7⟩
      case round =>
        clear O7 q7 hk hge
        obtain ⟨k, hk, rfl, O, hb⟩ := hrel
        obtain ⟨wo, rfl⟩ : ∃ wo, wo = wr := ⟨_, rfl⟩
        rcases Nat.lt_or_ge k l.length with hlt | hge
        · have hat := Lib.hid (detX_at (eta := o.eta) (dark := o.dark) (sh := sh) (l := l) (s := s) hlt)
          have hst := Lib.hid (show detX o.eta o.dark l sh s (k + 1) = ((detX o.eta o.dark l sh s k).1 ++ [(clkX o.eta o.dark (lgtAt l sh k) (detX o.eta o.dark l sh s k).2).1], (clkX o.eta o.dark (lgtAt l sh k) (detX o.eta o.dark l sh s k).2).2) from rfl)
          obtain ⟨s5, hs5⟩ : ∃ z, (detX o.eta o.dark l sh s k).2 = z := ⟨_, rfl⟩
          rw [hs5] at O hat hst
          clear hs5
          have hfl : Hid ((fill (detX o.eta o.dark l sh s l.length).1 clk0 k).length = l.length) := Lib.hid (by rw [fill_len _ _ (by rw [Hln.out]; omega)]; exact Hln.out)
          have hfa := Lib.hid (fill_at (L := (detX o.eta o.dark l sh s l.length).1) clk0 (k := k) (by rw [Hln.out]; exact hlt))
          have hfs := Lib.hid (fill_set clk0 hat.out)
          have lgtok : Hid ((lgtAt l sh k).br = false → (lgtAt l sh k).ph ≤ 3) := Lib.hid (fun _ => by
            unfold lgtAt
            split
            · cases h9 : l[((k : Int) - sh).toNat]? with
              | none => exact Nat.zero_le _
              | some y =>
                have := List.all_eq_true.1 Hok.out _ (List.mem_of_getElem? h9)
                unfold Lgt.ok at this
                simp only [Bool.and_eq_true, decide_eq_true_eq] at this
                exact this.2
            · exact Nat.zero_le _)
          go_upto_region 20 with fail
          have O2 := O.alloc (.cells #[.int .i64 0, .int .i64 0, .bool false, .bool false] 196)
          have hb2 := below_alloc hb (.cells #[.int .i64 0, .int .i64 0, .bool false, .bool false] 196)
          have hX := World.alloc_heap_new wo (.cells #[.int .i64 0, .int .i64 0, .bool false, .bool false] 196)
          obtain ⟨W1, hW1⟩ : ∃ W1, wo.alloc (.cells #[.int .i64 0, .int .i64 0, .bool false, .bool false] 196) = W1 := ⟨_, rfl⟩
          obtain ⟨X, hXn⟩ : ∃ X, wo.heap.size = X := ⟨_, rfl⟩
          have hbX : w.heap.size ≤ X := by rw [← hXn]; exact hb.size
          rw [hW1, hXn] at hX
          rw [hW1] at O2 hb2
          rw [hW1, hXn]
          clear hW1 hXn O hb
          go_cut [17] (fun v wx => v = .int .i64 ((k : Int) - sh) ∧ wx = W1)
          case first =>
            go_wp2_with fail
            go_meet
            case rel => exact ⟨rfl, rfl⟩
          case rest =>
            obtain ⟨rfl, hwc⟩ := hcut
            rw [← hwc] at O2 hX hb2
            clear hwc W1
            have xx0 : wc.cell? ⟨X, 0, none⟩ = some (.int .i64 0) := cell_of_row _ _ _ _ _ _ hX
            have xx1 : wc.cell? ⟨X, 1, none⟩ = some (.int .i64 0) := cell_of_row _ _ _ _ _ _ hX
            have xx2 : wc.cell? ⟨X, 2, none⟩ = some (.bool false) := cell_of_row _ _ _ _ _ _ hX
            have xx3 : wc.cell? ⟨X, 3, none⟩ = some (.bool false) := cell_of_row _ _ _ _ _ _ hX
            by_cases h1 : 0 ≤ (k : Int) - sh
            · obtain ⟨m, hm⟩ : ∃ m : Nat, (k : Int) - sh = (m : Int) := ⟨((k : Int) - sh).toNat, by omega⟩
              by_cases h2 : m < l.length
              · obtain ⟨bp, op, x, rfl, hbb, hx, x0, x1, x2, x3⟩ := hA.lgt h2 hb2
                have hlx : Hid (lgtAt l sh k = x) := Lib.hid (by unfold lgtAt; rw [if_pos h1, hm, Int.toNat_natCast, hx.out]; rfl)
                clear h1 hx
                have ff0 : wc.frozen? ⟨X, 0, none⟩ = false := frozen_of_row _ _ _ _ _ hX
                have ff1 : wc.frozen? ⟨X, 1, none⟩ = false := frozen_of_row _ _ _ _ _ hX
                have ff2 : wc.frozen? ⟨X, 2, none⟩ = false := frozen_of_row _ _ _ _ _ hX
                have ff3 : wc.frozen? ⟨X, 3, none⟩ = false := frozen_of_row _ _ _ _ _ hX
                go_upto_region 23 with fail
                have hG : wc.grownBy ((((wc.setCell ⟨X, 0, none⟩ (.int .i64 x.ph)).setCell ⟨X, 1, none⟩ (.int .i64 x.basis)).setCell ⟨X, 2, none⟩ (.bool x.bit)).setCell ⟨X, 3, none⟩ (.bool x.br)) (some X) := grown_trans (grown_trans (grown_trans (grown_setCell wc X _ _) (grown_setCell _ X _ _)) (grown_setCell _ X _ _)) (grown_setCell _ X _ _)
                have O3 := O2.turn hX hG
                have hb3 := hb2.grown hG hb2.size (fun j hj => by cases hj; exact hbX)
                have a1 : (wc.setCell ⟨X, 0, none⟩ (.int .i64 x.ph)).heap[X]? = some (.cells #[.int .i64 x.ph, .int .i64 0, .bool false, .bool false] 196 (0, 0)) := heap_setCell_same _ _ 0 _ _ _ hX
                have a2 : ((wc.setCell ⟨X, 0, none⟩ (.int .i64 x.ph)).setCell ⟨X, 1, none⟩ (.int .i64 x.basis)).heap[X]? = some (.cells #[.int .i64 x.ph, .int .i64 x.basis, .bool false, .bool false] 196 (0, 0)) := heap_setCell_same _ _ 1 _ _ _ a1
                have a3 : (((wc.setCell ⟨X, 0, none⟩ (.int .i64 x.ph)).setCell ⟨X, 1, none⟩ (.int .i64 x.basis)).setCell ⟨X, 2, none⟩ (.bool x.bit)).heap[X]? = some (.cells #[.int .i64 x.ph, .int .i64 x.basis, .bool x.bit, .bool false] 196 (0, 0)) := heap_setCell_same _ _ 2 _ _ _ a2
                have a4 : ((((wc.setCell ⟨X, 0, none⟩ (.int .i64 x.ph)).setCell ⟨X, 1, none⟩ (.int .i64 x.basis)).setCell ⟨X, 2, none⟩ (.bool x.bit)).setCell ⟨X, 3, none⟩ (.bool x.br)).heap[X]? = some (.cells #[.int .i64 x.ph, .int .i64 x.basis, .bool x.bit, .bool x.br] 196 (0, 0)) := heap_setCell_same _ _ 3 _ _ _ a3
                obtain ⟨W3, hW3⟩ : ∃ W3, (((wc.setCell ⟨X, 0, none⟩ (.int .i64 x.ph)).setCell ⟨X, 1, none⟩ (.int .i64 x.basis)).setCell ⟨X, 2, none⟩ (.bool x.bit)).setCell ⟨X, 3, none⟩ (.bool x.br) = W3 := ⟨_, rfl⟩
                rw [hW3] at O3 hb3 a4 ⊢
                clear hW3 a1 a2 a3 hG O2 hb2 hX xx0 xx1 xx2 xx3 ff0 ff1 ff2 ff3 x0 x1 x2 x3
                have xx0 : W3.cell? ⟨X, 0, none⟩ = some (.int .i64 x.ph) := cell_of_row _ _ _ _ _ _ a4
                have xx1 : W3.cell? ⟨X, 1, none⟩ = some (.int .i64 x.basis) := cell_of_row _ _ _ _ _ _ a4
                have xx2 : W3.cell? ⟨X, 2, none⟩ = some (.bool x.bit) := cell_of_row _ _ _ _ _ _ a4
                have xx3 : W3.cell? ⟨X, 3, none⟩ = some (.bool x.br) := cell_of_row _ _ _ _ _ _ a4
                clear a4
                have At9 := Lib.hid O3.o_
                have cK := click_any b s5 o x W3 O3.d (by rw [← hlx.out]; exact lgtok.out)
                obtain ⟨K, hK⟩ : ∃ K, clkX o.eta o.dark x s5 = K := ⟨_, rfl⟩
                have hfs2 : Hid ((fill (detX o.eta o.dark l sh s l.length).1 clk0 k).set k K.1 = fill (detX o.eta o.dark l sh s l.length).1 clk0 (k + 1)) := Lib.hid (by rw [← hK, ← hlx.out]; exact hfs.out)
                have hst2 : Hid ((detX o.eta o.dark l sh s (k + 1)).2 = K.2) := Lib.hid (by rw [← hK, ← hlx.out, hst.out])
                rw [hK] at cK
                clear hK hfs hst hat lgtok hlx
                unfold Opt.val Opt.cs at cK
                go_wp2_with (refine wpList_load_row rfl 68 _ rfl w.heap.size rfl 68 _ (0, 0) _ At9.out Tryz.underlying68 rfl (by kernel_rfl) ?_)
                refine cK.mono ?_
                rintro e w9 ⟨rfl, D9, g9⟩
                have O9 := O3.grown D9 g9
                have hb9 := hb3.grown g9 hb3.size (fun j hj => by cases hj; exact O3.lb.1)
                obtain ⟨O10, B10⟩ := O9.set hfl.out hfa.out K.1
                rw [hfs2.out] at O10
                have hb10 := B10 hb9
                have z0 : w9.cell? ⟨g, k * 2, none⟩ = some (.int .i64 0) := O9.c.atK hfl.out Clk.enc_len hfa.out (j := 0) rfl
                have z1 : w9.cell? ⟨g, k * 2 + 1, none⟩ = some (.int .i64 0) := O9.c.atK hfl.out Clk.enc_len hfa.out (j := 1) rfl
                have f0 := O9.c.frK hfl.out (k * 2); have f1 := O9.c.frK hfl.out (k * 2 + 1)
                clear cK At9 D9 g9 O3 hb3 O9 B10 hb9 hfl hfa hfs2
                go_wp2_with fail
                exact ⟨⟨k + 1, by omega, by go_num, by rw [hst2.out]; exact O10, hb10⟩, by simp [intOf]; omega⟩
              · skip
                have hlx : Hid (lgtAt l sh k = lgt0) := Lib.hid (by unfold lgtAt; rw [if_pos h1, hm, Int.toNat_natCast, List.getElem?_eq_none (by omega)]; rfl)
                clear h1
                have At9 := Lib.hid O2.o_
                have cK := click_any b s5 o lgt0 wc O2.d (by rw [← hlx.out]; exact lgtok.out)
                obtain ⟨K, hK⟩ : ∃ K, clkX o.eta o.dark lgt0 s5 = K := ⟨_, rfl⟩
                have hfs2 : Hid ((fill (detX o.eta o.dark l sh s l.length).1 clk0 k).set k K.1 = fill (detX o.eta o.dark l sh s l.length).1 clk0 (k + 1)) := Lib.hid (by rw [← hK, ← hlx.out]; exact hfs.out)
                have hst2 : Hid ((detX o.eta o.dark l sh s (k + 1)).2 = K.2) := Lib.hid (by rw [← hK, ← hlx.out, hst.out])
                rw [hK] at cK
                clear hK hfs hst hat lgtok hlx
                unfold Opt.val Opt.cs at cK
                unfold lgt0 at cK
                go_wp2_with (refine wpList_load_row rfl 68 _ rfl w.heap.size rfl 68 _ (0, 0) _ At9.out Tryz.underlying68 rfl (by kernel_rfl) ?_)
                refine cK.mono ?_
                rintro e w9 ⟨rfl, D9, g9⟩
                have O9 := O2.grown D9 g9
                have hb9 := hb2.grown g9 hb2.size (fun j hj => by cases hj; exact O2.lb.1)
                obtain ⟨O10, B10⟩ := O9.set hfl.out hfa.out K.1
                rw [hfs2.out] at O10
                have hb10 := B10 hb9
                have z0 : w9.cell? ⟨g, k * 2, none⟩ = some (.int .i64 0) := O9.c.atK hfl.out Clk.enc_len hfa.out (j := 0) rfl
                have z1 : w9.cell? ⟨g, k * 2 + 1, none⟩ = some (.int .i64 0) := O9.c.atK hfl.out Clk.enc_len hfa.out (j := 1) rfl
                have f0 := O9.c.frK hfl.out (k * 2); have f1 := O9.c.frK hfl.out (k * 2 + 1)
                clear cK At9 D9 g9 O2 hb2 O9 B10 hb9 hfl hfa hfs2
                go_wp2_with fail
                exact ⟨⟨k + 1, by omega, by go_num, by rw [hst2.out]; exact O10, hb10⟩, by simp [intOf]; omega⟩
            · skip
              have hlx : Hid (lgtAt l sh k = lgt0) := Lib.hid (by unfold lgtAt; rw [if_neg h1])
              clear hX
              have At9 := Lib.hid O2.o_
              have cK := click_any b s5 o lgt0 wc O2.d (by rw [← hlx.out]; exact lgtok.out)
              obtain ⟨K, hK⟩ : ∃ K, clkX o.eta o.dark lgt0 s5 = K := ⟨_, rfl⟩
              have hfs2 : Hid ((fill (detX o.eta o.dark l sh s l.length).1 clk0 k).set k K.1 = fill (detX o.eta o.dark l sh s l.length).1 clk0 (k + 1)) := Lib.hid (by rw [← hK, ← hlx.out]; exact hfs.out)
              have hst2 : Hid ((detX o.eta o.dark l sh s (k + 1)).2 = K.2) := Lib.hid (by rw [← hK, ← hlx.out, hst.out])
              rw [hK] at cK
              clear hK hfs hst hat lgtok hlx
              unfold Opt.val Opt.cs at cK
              unfold lgt0 at cK
              go_wp2_with (refine wpList_load_row rfl 68 _ rfl w.heap.size rfl 68 _ (0, 0) _ At9.out Tryz.underlying68 rfl (by kernel_rfl) ?_)
              refine cK.mono ?_
              rintro e w9 ⟨rfl, D9, g9⟩
              have O9 := O2.grown D9 g9
              have hb9 := hb2.grown g9 hb2.size (fun j hj => by cases hj; exact O2.lb.1)
              obtain ⟨O10, B10⟩ := O9.set hfl.out hfa.out K.1
              rw [hfs2.out] at O10
              have hb10 := B10 hb9
              have z0 : w9.cell? ⟨g, k * 2, none⟩ = some (.int .i64 0) := O9.c.atK hfl.out Clk.enc_len hfa.out (j := 0) rfl
              have z1 : w9.cell? ⟨g, k * 2 + 1, none⟩ = some (.int .i64 0) := O9.c.atK hfl.out Clk.enc_len hfa.out (j := 1) rfl
              have f0 := O9.c.frK hfl.out (k * 2); have f1 := O9.c.frK hfl.out (k * 2 + 1)
              clear cK At9 D9 g9 O2 hb2 O9 B10 hb9 hfl hfa hfs2
              go_wp2_with fail
              exact ⟨⟨k + 1, by omega, by go_num, by rw [hst2.out]; exact O10, hb10⟩, by simp [intOf]; omega⟩
        · obtain rfl : k = l.length := by omega
          have hout := O.c
          rw [fill_all _ _ (by rw [Hln.out]; exact Nat.le_refl _)] at hout
          go_wp2_with fail
          go_ret2
          exact ⟨_, rfl, hout, hb⟩

end Go.Proofs.YteoaaphjbggobaaGreat
