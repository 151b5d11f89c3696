/- The detection of one slot: words for its boxes. No condition. -/
import Derived.Test.YteoaaphjbggobaaGreatCarAll
import Derived.Deep.DeepCutAuto
namespace Go.Proofs.YteoaaphjbggobaaGreat
open Go.RowKit
set_option linter.unusedVariables false
set_option linter.unusedSimpArgs false

set_option maxHeartbeats 1000000 in
theorem side_any (t : Bool) (w : World) : Calls Tryz.prog 150 #[.bool t] w fun e w' => e = .returned (.int .i64 (if t = true then 1 else 0)) ∧ w = w' := by
  cases t
  all_goals (
    go_enter Tryz.func150, Tryz.ntmps150
    go_wp2
    go_ret
    exact ⟨rfl, rfl⟩)

/-- The boxes of a click while it is drawn: the arrangement O, the light L, the result R, the click C, the detectors F. -/
structure KJ (w wi : World) (b s O L R C F : Nat) (o : Opt) (x : Lgt) (bs kd : Int) (f0 f1 : Bool) : Prop where
  d : DrwAt wi b s
  o_ : OptAt wi O o
  l : wi.heap[L]? = some (.cells #[.int .i64 x.ph, .int .i64 x.basis, .bool x.bit, .bool x.br] 196 (0, 0))
  r : wi.heap[R]? = some (.cells #[.int .i64 0, .int .i64 0] 141 (0, 0))
  c : wi.heap[C]? = some (.cells #[.int .i64 bs, .int .i64 kd] 141 (0, 0))
  f : wi.heap[F]? = some (.cells #[.bool f0, .bool f1] 241 (0, 0))
  g : w.grownBy wi (some b)
  lb : b < w.heap.size ∧ w.heap.size ≤ O ∧ O < L ∧ L < R ∧ R < C ∧ C < F
section
variable {w wi w' : World} {b s s' O L R C F : Nat} {o : Opt} {x : Lgt} {bs kd : Int} {f0 f1 : Bool}
theorem KJ.lt (h : KJ w wi b s O L R C F o x bs kd f0 f1) : F < wi.heap.size := (Array.getElem?_eq_some_iff.1 h.f).1
theorem KJ.step (h : KJ w wi b s O L R C F o x bs kd f0 f1) (D : DrwAt w' b s') (hg : wi.grownBy w' (some b)) : KJ w w' b s' O L R C F o x bs kd f0 f1 := by
  have h1 := h.lt; have h2 := h.lb
  have k : ∀ {j : Nat} {v : Obj}, wi.heap[j]? = some v → b < j → w'.heap[j]? = some v := fun hj hb => (hg.block _ (Array.getElem?_eq_some_iff.1 hj).1 (by simp; omega)).trans hj
  exact ⟨D, k h.o_ (by omega), k h.l (by omega), k h.r (by omega), k h.c (by omega), k h.f (by omega), grown_trans h.g hg, h2⟩
theorem KJ.gset (h : KJ w wi b s O L R C F o x bs kd f0 f1) {Y : Nat} (hY : w.heap.size ≤ Y) (j : Nat) (v : Value) (hg0 : w.grownBy w' (some b)) : w.grownBy (w'.setCell ⟨Y, j, none⟩ v) (some b) := by
  have hg := grown_setCell w' Y j v
  exact ⟨hg.os.trans hg0.os, hg.tape.trans hg0.tape, hg.output.trans hg0.output, Nat.le_trans hg0.size hg.size, fun k hk hn => (hg.block k (Nat.lt_of_lt_of_le hk hg0.size) (by simp; omega)).trans (hg0.block k hk hn)⟩
theorem KJ.setF (h : KJ w wi b s O L R C F o x bs kd f0 f1) (j : Nat) (v : Value) {e0 e1 : Bool} (he : (#[.bool f0, .bool f1] : Array Value).setIfInBounds j v = #[.bool e0, .bool e1]) : KJ w (wi.setCell ⟨F, j, none⟩ v) b s O L R C F o x bs kd e0 e1 := by
  have h1 := h.lt; have h2 := h.lb
  have hg := grown_setCell wi F j v
  have k : ∀ {j : Nat} {u : Obj}, wi.heap[j]? = some u → j < F → (wi.setCell ⟨F, _, none⟩ v).heap[j]? = some u := fun hj hb => (hg.block _ (Array.getElem?_eq_some_iff.1 hj).1 (by simp; omega)).trans hj
  exact ⟨h.d.keep hg (by simp; omega), k h.o_ (by omega), k h.l (by omega), k h.r (by omega), k h.c (by omega), by rw [← he]; exact heap_setCell_same wi _ j _ _ v h.f, h.gset (by omega) j v h.g, h2⟩
theorem KJ.setC (h : KJ w wi b s O L R C F o x bs kd f0 f1) (kd' : Int) : KJ w (wi.setCell ⟨C, 1, none⟩ (.int .i64 kd')) b s O L R C F o x bs kd' f0 f1 := by
  have h1 := h.lt; have h2 := h.lb
  have hg := grown_setCell wi C 1 (.int .i64 kd')
  have k : ∀ {j : Nat} {u : Obj}, wi.heap[j]? = some u → j ≠ C → (wi.setCell ⟨C, 1, none⟩ (.int .i64 kd')).heap[j]? = some u := fun hj hb => (hg.block _ (Array.getElem?_eq_some_iff.1 hj).1 (by simp; omega)).trans hj
  exact ⟨h.d.keep hg (by simp; omega), k h.o_ (by omega), k h.l (by omega), k h.r (by omega), heap_setCell_same wi _ 1 _ _ _ h.c, k h.f (by omega), h.gset (by omega) 1 _ h.g, h2⟩
theorem KJ.drew (h : KJ w wi b s O L R C F o x bs kd f0 f1) : KJ w wi.drew b s O L R C F o x bs kd f0 f1 := ⟨h.d, h.o_, h.l, h.r, h.c, h.f, ⟨h.g.os, h.g.tape, h.g.output, h.g.size, h.g.block⟩, h.lb⟩
theorem KJ.l0 (h : KJ w wi b s O L R C F o x bs kd f0 f1) : wi.cell? ⟨L, 0, none⟩ = some (.int .i64 x.ph) := cell_of_row _ _ _ _ _ _ h.l
theorem KJ.l1 (h : KJ w wi b s O L R C F o x bs kd f0 f1) : wi.cell? ⟨L, 1, none⟩ = some (.int .i64 x.basis) := cell_of_row _ _ _ _ _ _ h.l
theorem KJ.l2 (h : KJ w wi b s O L R C F o x bs kd f0 f1) : wi.cell? ⟨L, 2, none⟩ = some (.bool x.bit) := cell_of_row _ _ _ _ _ _ h.l
theorem KJ.l3 (h : KJ w wi b s O L R C F o x bs kd f0 f1) : wi.cell? ⟨L, 3, none⟩ = some (.bool x.br) := cell_of_row _ _ _ _ _ _ h.l
theorem KJ.c0 (h : KJ w wi b s O L R C F o x bs kd f0 f1) : wi.cell? ⟨C, 0, none⟩ = some (.int .i64 bs) := cell_of_row _ _ _ _ _ _ h.c
theorem KJ.c1 (h : KJ w wi b s O L R C F o x bs kd f0 f1) : wi.cell? ⟨C, 1, none⟩ = some (.int .i64 kd) := cell_of_row _ _ _ _ _ _ h.c
theorem KJ.cf (h : KJ w wi b s O L R C F o x bs kd f0 f1) (j : Nat) : wi.frozen? ⟨C, j, none⟩ = false := frozen_of_row _ _ _ _ _ h.c
theorem KJ.d0 (h : KJ w wi b s O L R C F o x bs kd f0 f1) : wi.cell? ⟨F, 0, none⟩ = some (.bool f0) := cell_of_row _ _ _ _ _ _ h.f
theorem KJ.d1 (h : KJ w wi b s O L R C F o x bs kd f0 f1) : wi.cell? ⟨F, 1, none⟩ = some (.bool f1) := cell_of_row _ _ _ _ _ _ h.f
theorem KJ.ff (h : KJ w wi b s O L R C F o x bs kd f0 f1) (j : Nat) : wi.frozen? ⟨F, j, none⟩ = false := frozen_of_row _ _ _ _ _ h.f
theorem KJ.r0 (h : KJ w wi b s O L R C F o x bs kd f0 f1) : wi.cell? ⟨R, 0, none⟩ = some (.int .i64 0) := cell_of_row _ _ _ _ _ _ h.r
theorem KJ.r1 (h : KJ w wi b s O L R C F o x bs kd f0 f1) : wi.cell? ⟨R, 1, none⟩ = some (.int .i64 0) := cell_of_row _ _ _ _ _ _ h.r
theorem KJ.rf (h : KJ w wi b s O L R C F o x bs kd f0 f1) (j : Nat) : wi.frozen? ⟨R, j, none⟩ = false := frozen_of_row _ _ _ _ _ h.r
theorem KJ.fin (h : KJ w wi b s O L R C F o x bs kd f0 f1) (v0 v1 : Value) : DrwAt ((wi.setCell ⟨R, 0, none⟩ v0).setCell ⟨R, 1, none⟩ v1) b s ∧ w.grownBy ((wi.setCell ⟨R, 0, none⟩ v0).setCell ⟨R, 1, none⟩ v1) (some b) ∧ ((wi.setCell ⟨R, 0, none⟩ v0).setCell ⟨R, 1, none⟩ v1).heap[R]? = some (.cells #[v0, v1] 141 (0, 0)) := by
  have h2 := h.lb
  have ne : some R ≠ some b := by simp; omega
  refine ⟨(h.d.keep (grown_setCell _ R 0 v0) ne).keep (grown_setCell _ R 1 v1) ne, h.gset (by omega) 1 v1 (h.gset (by omega) 0 v0 h.g), ?_⟩
  have h0 : (wi.setCell ⟨R, 0, none⟩ v0).heap[R]? = some (.cells #[v0, .int .i64 0] 141 (0, 0)) := heap_setCell_same _ _ 0 _ _ v0 h.r
  exact heap_setCell_same _ _ 1 _ _ v1 h0
theorem KJ.new (w : World) (b s s1 : Nat) (o : Opt) (x : Lgt) (bs : Int) {w2 : World} (h : DrwAt w b s)
    (hd : DrwAt w2 b s1) (hg : (((w.alloc (.cells o.cs 68)).alloc (.cells #[.int .i64 x.ph, .int .i64 x.basis, .bool x.bit, .bool x.br] 196)).alloc (.cells #[.int .i64 0, .int .i64 0] 141)).grownBy w2 (some b)) :
    KJ w ((w2.alloc (.cells #[.int .i64 bs, .int .i64 0] 141)).alloc (.cells #[.bool false, .bool false] 241)) b s1 w.heap.size (w.heap.size + 1) (w.heap.size + 1 + 1) w2.heap.size (w2.heap.size + 1) o x bs 0 false false := by
  have hb := h.lt
  have hs := hg.size
  simp at hs
  have k : ∀ {j : Nat} {v : Obj}, (((w.alloc (.cells o.cs 68)).alloc (.cells #[.int .i64 x.ph, .int .i64 x.basis, .bool x.bit, .bool x.br] 196)).alloc (.cells #[.int .i64 0, .int .i64 0] 141)).heap[j]? = some v → b < j → ((w2.alloc (.cells #[.int .i64 bs, .int .i64 0] 141)).alloc (.cells #[.bool false, .bool false] 241)).heap[j]? = some v := fun hj hb => by
    have h1 := (Array.getElem?_eq_some_iff.1 hj).1
    have h2 := (hg.block _ h1 (by simp; omega)).trans hj
    have h3 := (Array.getElem?_eq_some_iff.1 h2).1
    exact (heap_alloc_old _ _ (by simp; omega)).trans ((heap_alloc_old _ _ h3).trans h2)
  refine ⟨(hd.keep (row := none) (World.grownBy_alloc _ _ none) (by simp)).keep (row := none) (World.grownBy_alloc _ _ none) (by simp), k ?_ hb, k ?_ (by omega), k ?_ (by omega), ?_, ?_, ?_, ⟨hb, Nat.le_refl _, by omega, by omega, by omega, by omega⟩⟩
  · exact (heap_alloc_old _ _ (by simp; omega)).trans (heap_alloc2_old w _ _)
  · exact (heap_alloc_old _ _ (by simp)).trans (heap_alloc2_new w _ _)
  · have e : ((w.alloc (.cells o.cs 68)).alloc (.cells #[.int .i64 x.ph, .int .i64 x.basis, .bool x.bit, .bool x.br] 196)).heap.size = w.heap.size + 1 + 1 := by simp
    rw [← e]
    exact heap_alloc_new _ _
  · exact heap_alloc2_old _ _ _
  · exact heap_alloc2_new _ _ _
  · have g0 : w.grownBy (((w.alloc (.cells o.cs 68)).alloc (.cells #[.int .i64 x.ph, .int .i64 x.basis, .bool x.bit, .bool x.br] 196)).alloc (.cells #[.int .i64 0, .int .i64 0] 141)) (some b) := grown_trans (grown_trans (World.grownBy_alloc _ _ _) (World.grownBy_alloc _ _ _)) (World.grownBy_alloc _ _ _)
    exact grown_trans (grown_trans (grown_trans g0 hg) (World.grownBy_alloc _ _ _)) (World.grownBy_alloc _ _ _)
end

end Go.Proofs.YteoaaphjbggobaaGreat
