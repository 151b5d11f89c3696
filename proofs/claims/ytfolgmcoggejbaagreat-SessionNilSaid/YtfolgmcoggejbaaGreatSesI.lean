/- Contract of post. For letters of at most 1000000 words. -/
import Derived.Test.YtfolgmcoggejbaaGreatSesH
import Derived.Great.Walk
import Derived.Deep.WholeRow
import Derived.Great.BuildSlice
namespace Go.Proofs.YtfolgmcoggejbaaGreat
open Go.RowKit
set_option linter.unusedVariables false
set_option linter.unusedSimpArgs false

def ltr0 : Ltr := ⟨0, 0, 0, none, 0, [], 0⟩
theorem LtrAt.set {w : World} {b : Nat} {l l' : Ltr} (j : Nat) (v : Value) (h : LtrAt w b l) (hs : l.cs.setIfInBounds j v = l'.cs) : LtrAt (w.setCell ⟨b, j, none⟩ v) b l' := by
  unfold LtrAt
  rw [← hs]
  exact heap_setCell_same w b j _ _ v h
theorem LtrAt.fr {w : World} {b : Nat} {l : Ltr} (h : LtrAt w b l) (j : Nat) : w.frozen? ⟨b, j, none⟩ = false := frozen_of_row w b j _ _ h
theorem ltr_size (l : Ltr) : (Tryz.prog.info? 89).map (·.size) = some l.cs.size := (show (Tryz.prog.info? 89).map (·.size) = some 5 by kernel_rfl)
theorem heap_last9 (w : World) (o : Obj) : (w.alloc o).heap[w.heap.size]? = some o := by
  show (w.heap.push o)[w.heap.size]? = some o
  simp
theorem ltr_info0 : (Tryz.prog.info? 89).map (fun i => (i.zero, i.size, i.bytes)) = some (some (.agg ltr0.cs), 5, 56) := by kernel_rfl
theorem post_nil (w : World) : Calls Tryz.prog 75 #[.pointer none] w fun e w' => e = .returned (.slice none 0 0) ∧ w = w' := by
  go_enter Tryz.func75, Tryz.ntmps75
  go_wp2_with fail
  go_ret
  exact ⟨rfl, rfl⟩
set_option maxRecDepth 100000 in
set_option maxHeartbeats 4000000 in
theorem post_any (p : Nat) (l : Ltr) (w : World) (hp : LtrAt w p l) (h : l.In w) (hl : l.ws.length ≤ 1000000) :
    Calls Tryz.prog 75 #[.pointer (some ⟨p, 0, none⟩)] w fun e w' => ∃ b A' c', e = .returned (.slice (some ⟨b, 0, none⟩) 1 1) ∧ LtrAt w' b { l with A := A', c := c' } ∧ ({ l with A := A', c := c' } : Ltr).In w' ∧ Below w.heap.size w w' := by
  have cC := fun w' (hb : Below w.heap.size w w') => Clone_int l.A l.c l.ws w' (h.a.on hb) h.nil h.len (by omega)
  obtain ⟨iL, hiL, hzL, hsL, _⟩ := info_parts ltr_info0
  have HiL := Lib.hid hiL; have HzL := Lib.hid hzL; have HsL := Lib.hid hsL
  clear hiL hzL hsL
  go_enter Tryz.func75, Tryz.ntmps75
  go_upto_region 3 with fail
  refine wp_region_lit ?_
  go_upto_region 4 with (first | (refine wpList_load_at 89 _ rfl p 0 rfl l.cs _ hp.all Tryz.underlying89 rfl (ltr_size l) (by rfl) ?_) | (refine Great.wpList_allocTo rfl (some 3) rfl (.pointer (some ⟨w.heap.size, 0, none⟩)) (.cells ltr0.cs 89) (by kernel_rfl) ?_) | (refine wpList_store_row rfl 89 _ _ rfl w.heap.size l.cs (by kernel_rfl) (by kernel_rfl) 89 ltr0.cs (heap_last9 _ _) (ltr_size l) rfl (by kernel_rfl) ?_))
  rw [World.setRow_alloc_new]
  (try simp only [Act.put, List.getElem_toArray, List.getElem_cons_succ, List.getElem_cons_zero, List.setIfInBounds_toArray, List.set_cons_zero, List.set_cons_succ])
  have q1 := below_alloc (Below.refl w.heap.size w) (.cells l.cs 89)
  have N1 := LtrAt.new w l
  have P1 := hp.on q1
  obtain ⟨w1, hw1⟩ : ∃ w1, w.alloc (.cells l.cs 89) = w1 := ⟨_, rfl⟩
  obtain ⟨B, hB⟩ : ∃ B, w.heap.size = B := ⟨_, rfl⟩
  have hBw : B < w1.heap.size := by rw [← hw1, ← hB]; simp
  rw [hw1] at q1 N1 P1 ⊢
  rw [hB] at N1 ⊢
  clear hw1
  have x3 : w1.cell? ⟨p, 3, none⟩ = some (.slice l.A l.ws.length l.c) := P1.c 3
  go_wp2_with fail
  refine (cC _ q1).mono ?_
  rintro e w2 ⟨v, rfl, ow, hb2⟩
  obtain ⟨A', c', rfl, l1, m1, n1, _⟩ := ow.form encI_len
  have N2 := N1.on hb2
  have q2 := below_trans q1 hb2
  have y3 : w2.cell? ⟨B, 3, none⟩ = some (.slice l.A l.ws.length l.c) := N2.c 3
  have f3 := N2.fr 3
  have g := grown_setP w2 B 3 (.slice A' l.ws.length c')
  have N3 : LtrAt (w2.setCell ⟨B, 3, none⟩ (.slice A' l.ws.length c')) B { l with A := A', c := c' } := N2.set 3 _ rfl
  have ow3 := Own.keep (w := w2) ow g (by
    cases A' with
    | none => exact .inl rfl
    | some a =>
      refine .inr ?_
      have h9 := (World.ownsRow.lt ow a.block rfl).1
      simp [Value.ownBlock]; omega)
  have q3 := q2.setCell (p := ⟨B, 3, none⟩) (by rw [← hB]; exact Nat.le_refl _) (.slice A' l.ws.length c')
  clear x3 cC P1 N1
  go_upto_region 5 with fail
  obtain ⟨w3, hw3⟩ : ∃ w3, w2.setCell ⟨B, 3, none⟩ (.slice A' l.ws.length c') = w3 := ⟨_, rfl⟩
  rw [hw3] at N3 ow3 q3 ⊢
  clear hw3 g f3 y3 N2
  go_wp2_with (first | (refine wpList_load_at 89 _ rfl B 0 rfl ({ l with A := A', c := c' } : Ltr).cs _ N3.all Tryz.underlying89 rfl (ltr_size _) (by rfl) ?_) | (refine wpList_buildSlice rfl 84 89 1 _ rfl ({ l with A := A', c := c' } : Ltr).cs iL (.agg ltr0.cs) Tryz.underlying84 HiL.out HzL.out (by rw [HsL.out]; decide) (by rw [HsL.out]; decide) (by rw [HsL.out]; kernel_rfl) ?_))
  go_ret
  have bb := below_alloc (Below.refl w3.heap.size w3) (.cells ({ l with A := A', c := c' } : Ltr).cs 89)
  obtain ⟨A9, c9, hv9, _, _, _, ar9⟩ := (ow3.below bb).form encI_len
  cases hv9
  exact ⟨w3.heap.size, A', c', rfl, LtrAt.new w3 _, ⟨ar9, l1, m1, n1⟩, below_alloc q3 _⟩

end Go.Proofs.YtfolgmcoggejbaaGreat
