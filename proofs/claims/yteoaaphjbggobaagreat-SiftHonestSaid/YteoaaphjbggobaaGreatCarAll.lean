/- Light in a box, the eavesdropper's book in a box: what a note does. No condition. What rules do with light, in memory: words for it; losses. No condition. What rules do with light, in memory: noise, shifts, starving, the wrapper that leaves bright light alone, splitting. No condition. What rules do with light, in memory: the wrapper that leaves bright light alone, splitting, blinding. No condition. What rules do with light, in memory: measuring and sending again. No condition. What rules do with light, in memory: splitting and blinding. No condition. The table of the acts. No condition. The check of pulses; how many notes there are at most; what an act keeps. No condition. What the channel does with all rules and one slot: the inner loop's words. No condition. -/
import Derived.Test.YteoaaphjbggobaaGreatEmtAll
import Derived.Deep.AppendLies
import Derived.Test.YteoaaphjbggobaaGreatApt
import Derived.Test.YteoaaphjbggobaaGreatMadeK
import Derived.StillTailTactics
namespace Go.Proofs.YteoaaphjbggobaaGreat
open Go.RowKit
set_option linter.unusedVariables false
set_option linter.unusedSimpArgs false

/-- The book in block E reads as the notes ns, in memory that the call has made. -/
def BookAt (w : World) (B E : Nat) (ns : List Nte) : Prop := ∃ v, Boxed w E 190 v ∧ Go.Proofs.YteoaaphjbggobaaGreat.Own w B 239 4 Nte.enc v ns
/-- Of all rows those of the blocks b, X, E and those of notes may have turned; all below B lies. -/
structure CarK (B b X E : Nat) (W W' : World) : Prop where
  bel : Below B W W'
  row : ∀ (k : Nat) (cs : Array Value) (T : TypeId) (fr : Nat × Nat), W.heap[k]? = some (.cells cs T fr) → k ≠ b → k ≠ X → k ≠ E → T ≠ 239 → W'.heap[k]? = some (.cells cs T fr)
theorem CarK.refl (B b X E : Nat) (W : World) : CarK B b X E W W := ⟨Below.refl _ _, fun _ _ _ _ h _ _ _ _ => h⟩
theorem CarK.trans {B b X E : Nat} {W W' W2 : World} (h : CarK B b X E W W') (k : CarK B b X E W' W2) : CarK B b X E W W2 := ⟨h.bel.trans k.bel, fun i cs T fr hi h1 h2 h3 h4 => k.row i cs T fr (h.row i cs T fr hi h1 h2 h3 h4) h1 h2 h3 h4⟩

theorem own_snoc_form {α : Type} {w : World} {B e z : Nat} {enc : α → List Value} {v : Value} {l : List α} {x : α} (h : Go.Proofs.YteoaaphjbggobaaGreat.Own w B e z enc v (l ++ [x])) : ∃ g cap, v = .slice (some ⟨g, 0, none⟩) (l.length + 1) cap := by
  unfold Go.Proofs.YteoaaphjbggobaaGreat.Own at h
  rw [List.length_append] at h
  exact ownsRow_succ h
theorem app_row2 {W w1 : World} {n₀ B : Nat} {e : TypeId} {size : Nat} {v : Value} {k : Nat} {xs : List Value} {tmp : Obj} (v' : Value) (hrow : W.ownsRow n₀ e size v k xs) (hgrow : (W.alloc tmp).grownBy w1 v.ownBlock)
    {j : Nat} {cs : Array Value} {T : TypeId} {fr : Nat × Nat} (hk : W.heap[j]? = some (.cells cs T fr)) (h1 : T ≠ e) (hne : j ≠ B) : (w1.setCell ⟨B, 0, none⟩ v').heap[j]? = some (.cells cs T fr) := by
  have hlt := (Array.getElem?_eq_some_iff.1 hk).1
  have a1 : (W.alloc tmp).heap[j]? = some (.cells cs T fr) := (Below.heap_alloc _ _ _ hlt).trans hk
  have a2 : w1.heap[j]? = some (.cells cs T fr) := by
    refine (hgrow.block j (by simp; omega) (fun e' => ?_)).trans a1
    rcases hrow.2 with ⟨rfl, _⟩ | ⟨g, cap, cur, rfl, _, hgb, _⟩
    · simp [Value.ownBlock] at e'
    · obtain rfl : j = g := by simpa [Value.ownBlock] using e'
      rw [hk] at hgb
      simp at hgb
      exact h1 hgb.2.1
  exact (Below.heap_setCell w1 ⟨B, 0, none⟩ v' j hne).trans a2
theorem grown_undrew {W w' : World} {r : Option Nat} (h : W.drew.grownBy w' r) : W.grownBy w' r := ⟨h.os, h.tape, h.output, h.size, h.block⟩
theorem nte_info9 : (Tryz.prog.info? 239).map (fun i => (i.zero, i.size, i.bytes)) = some (some (.agg #[.int .i64 0, .int .i64 0, .int .i64 0, .bool false]), 4, 32) := by kernel_rfl
set_option maxRecDepth 100000 in
set_option maxHeartbeats 4000000 in
theorem hear_any (B b X E : Nat) (ns : List Nte) (x : Nte) (w : World) (h : BookAt w B E ns) (hE : B ≤ E) (hB : B ≤ w.heap.size) (hl : ns.length ≤ 1000000) :
    Calls Tryz.prog 200 #[.pointer (some ⟨E, 0, none⟩), .agg #[.int .i64 x.slot, .int .i64 x.how, .int .i64 x.basis, .bool x.bit]] w fun e w' => (∃ v, e = .returned v) ∧ BookAt w' B E (ns ++ [x]) ∧ CarK B b X E w w' := by
  obtain ⟨i0, hi, hz0, hz1, hz2⟩ := info_parts nte_info9
  have Hi := Lib.hid hi; have Hz0 := Lib.hid hz0; have Hz1 := Lib.hid hz1; have Hz2 := Lib.hid hz2
  clear hi hz0 hz1 hz2
  obtain ⟨v, hv, ho⟩ := h
  have y := hv.cell
  have f := hv.frozen
  go_enter Tryz.func200, Tryz.ntmps200
  go_upto_region 1 with fail
  obtain ⟨W, hW⟩ : ∃ W, w.alloc (.cells #[.int .i64 x.slot, .int .i64 x.how, .int .i64 x.basis, .bool x.bit] 239) = W := ⟨_, rfl⟩
  have hs : W.heap.size = w.heap.size + 1 := by rw [← hW]; simp
  have hv1 : Boxed W E 190 v := by rw [← hW]; exact hv.alloc _
  have ho1 : Go.Proofs.YteoaaphjbggobaaGreat.Own W B 239 4 Nte.enc v ns := by rw [← hW]; exact ho.alloc _
  have y1 := hv1.cell
  have f1 := hv1.frozen
  have n0 : W.cell? ⟨w.heap.size, 0, none⟩ = some (.int .i64 x.slot) := by rw [← hW]; exact new_cell rfl
  have n1 : W.cell? ⟨w.heap.size, 1, none⟩ = some (.int .i64 x.how) := by rw [← hW]; exact new_cell rfl
  have n2 : W.cell? ⟨w.heap.size, 2, none⟩ = some (.int .i64 x.basis) := by rw [← hW]; exact new_cell rfl
  have n3 : W.cell? ⟨w.heap.size, 3, none⟩ = some (.bool x.bit) := by rw [← hW]; exact new_cell rfl
  have K0 : CarK B b X E w W := by
    rw [← hW]
    exact ⟨(Below.refl B w).alloc hB _, fun k cs T fr hk _ _ _ _ => (Below.heap_alloc _ _ _ (Array.getElem?_eq_some_iff.1 hk).1).trans hk⟩
  rw [hW]
  clear hW hv ho y f
  have hby : (ns.length + 1) * 32 ≤ 140737488355328 := by omega
  have hBW : B ≤ W.heap.size := by omega
  clear hs
  have own2 := ho1.alloc (.cells #[.int .i64 x.slot, .int .i64 x.how, .int .i64 x.basis, .bool x.bit] 239)
  have Ap := Lib.hid (fun (v' : Value) (w4 : World) (h1 : Go.Proofs.YteoaaphjbggobaaGreat.Own w4 B 239 4 Nte.enc v' (ns ++ [x])) (h2 : (W.alloc (.cells #[.int .i64 x.slot, .int .i64 x.how, .int .i64 x.basis, .bool x.bit] 239)).grownBy w4 v.ownBlock) => Boxed.appended (n₀ := B) (B := E) hv1 (by decide) ho1 hBW hE h1 h2)
  have Rw := Lib.hid (fun (w4 : World) (u : Value) (h2 : (W.alloc (.cells #[.int .i64 x.slot, .int .i64 x.how, .int .i64 x.basis, .bool x.bit] 239)).grownBy w4 v.ownBlock) (j : Nat) (cs : Array Value) (T : TypeId) (fr : Nat × Nat) (hk : W.heap[j]? = some (.cells cs T fr)) (h3 : T ≠ 239) (h4 : j ≠ E) => app_row2 u ho1 h2 hk h3 h4)
  have y2 := (hv1.alloc (.cells #[.int .i64 x.slot, .int .i64 x.how, .int .i64 x.basis, .bool x.bit] 239)).cell
  have n4 := bel_cell (below_alloc (Below.refl W.heap.size W) (.cells #[.int .i64 x.slot, .int .i64 x.how, .int .i64 x.basis, .bool x.bit] 239)) n0
  have n5 := bel_cell (below_alloc (Below.refl W.heap.size W) (.cells #[.int .i64 x.slot, .int .i64 x.how, .int .i64 x.basis, .bool x.bit] 239)) n1
  have n6 := bel_cell (below_alloc (Below.refl W.heap.size W) (.cells #[.int .i64 x.slot, .int .i64 x.how, .int .i64 x.basis, .bool x.bit] 239)) n2
  have n7 := bel_cell (below_alloc (Below.refl W.heap.size W) (.cells #[.int .i64 x.slot, .int .i64 x.how, .int .i64 x.basis, .bool x.bit] 239)) n3
  go_region_law (refine step_snocG (by rfl) _ _ 73 (by rfl) B 239 i0 _ 4 32 Tryz.underlying73 Hi.out Hz0.out Hz1.out Hz2.out rfl (by decide) v ns x (by rfl) own2 (by rfl) (fun j u hu => new_cell (by rw [← hu]; simp [Nte.enc])) rfl (Nte.one x) hby (by decide) (by simp; omega) ?_; intro v' w4 o4 b4 g4; obtain ⟨g', cap', rfl⟩ := own_snoc_form o4; replace g4 := grown_undrew g4; obtain ⟨e1, e2, e3, e4, e5⟩ := Ap.out _ _ o4 g4; have c4 := e1.cell; have fr4 := e1.frozen)
  all_goals (
    go_end0
    exact ⟨⟨_, rfl⟩, ⟨_, e2, e3⟩, K0.trans ⟨e5, fun k cs T fr hk _ _ h3 h4 => Rw.out _ _ g4 k cs T fr hk h4 h3⟩⟩)

end Go.Proofs.YteoaaphjbggobaaGreat

namespace Go.Proofs.YteoaaphjbggobaaGreat
open Go.RowKit
set_option linter.unusedVariables false
set_option linter.unusedSimpArgs false

/-- Light in block X, draws in block b, the book in block E. -/
structure CarS (B : Nat) (w : World) (b X E : Nat) (x : Lgt) (s : Nat) (ns : List Nte) : Prop where
  d : DrwAt w b s
  l : w.heap[X]? = some (.cells #[.int .i64 x.ph, .int .i64 x.basis, .bool x.bit, .bool x.br] 196 (0, 0))
  e : BookAt w B E ns
  lb : B ≤ b ∧ B ≤ X ∧ B ≤ E ∧ B ≤ w.heap.size
section
variable {B : Nat} {w w' : World} {b X E s s' : Nat} {x x' : Lgt} {ns : List Nte}
theorem CarS.c0 (h : CarS B w b X E x s ns) : w.cell? ⟨X, 0, none⟩ = some (.int .i64 x.ph) := cell_of_row _ _ _ _ _ _ h.l
theorem CarS.c1 (h : CarS B w b X E x s ns) : w.cell? ⟨X, 1, none⟩ = some (.int .i64 x.basis) := cell_of_row _ _ _ _ _ _ h.l
theorem CarS.c2 (h : CarS B w b X E x s ns) : w.cell? ⟨X, 2, none⟩ = some (.bool x.bit) := cell_of_row _ _ _ _ _ _ h.l
theorem CarS.c3 (h : CarS B w b X E x s ns) : w.cell? ⟨X, 3, none⟩ = some (.bool x.br) := cell_of_row _ _ _ _ _ _ h.l
theorem CarS.fr (h : CarS B w b X E x s ns) (j : Nat) : w.frozen? ⟨X, j, none⟩ = false := frozen_of_row _ _ _ _ _ h.l
theorem CarS.xb (h : CarS B w b X E x s ns) : X ≠ b := fun e => by
  have h1 := h.l; have h2 := h.d
  unfold DrwAt at h2
  rw [e, h2] at h1
  simp at h1
theorem CarS.eb (h : CarS B w b X E x s ns) : E ≠ b := fun e => by
  obtain ⟨v, h1, _⟩ := h.e; have h2 := h.d
  unfold DrwAt at h2
  unfold Boxed at h1
  rw [e, h2] at h1
  simp at h1
theorem CarS.ex (h : CarS B w b X E x s ns) : E ≠ X := fun e => by
  obtain ⟨v, h1, _⟩ := h.e; have h2 := h.l
  unfold Boxed at h1
  rw [e, h2] at h1
  simp at h1
theorem CarS.lt (h : CarS B w b X E x s ns) : b < w.heap.size ∧ X < w.heap.size ∧ E < w.heap.size := by
  obtain ⟨v, h1, _⟩ := h.e
  exact ⟨h.d.lt, (Array.getElem?_eq_some_iff.1 h.l).1, h1.lt⟩
/-- The book stays where a block of another kind turns. -/
theorem BookAt.grown {row : Option Nat} (h : BookAt w B E ns) (hg : w.grownBy w' row) (h1 : some E ≠ row) (h2 : ∀ k, row = some k → ∃ cs T fr, w.heap[k]? = some (.cells cs T fr) ∧ T ≠ 239) : BookAt w' B E ns := by
  obtain ⟨v, hv, ho⟩ := h
  refine ⟨v, hv.kept hg h1, ho.keep hg ?_⟩
  rcases ho.2 with ⟨rfl, _⟩ | ⟨g, cap, cur, rfl, _, hgb, _⟩
  · exact .inl rfl
  · refine .inr fun e' => ?_
    obtain ⟨cs, T, fr, hk, hT⟩ := h2 g (by simpa [Value.ownBlock] using e'.symm)
    rw [hgb] at hk
    simp at hk
    exact hT hk.2.1.symm
theorem CarS.draw (h : CarS B w b X E x s ns) (hd : DrwAt w' b s') (hg : w.grownBy w' (some b)) : CarS B w' b X E x s' ns ∧ CarK B b X E w w' := by
  have h1 := h.xb; have h2 := h.eb; have h3 := h.lt; have h4 := h.lb
  refine ⟨⟨hd, (hg.block X h3.2.1 (by simpa using h1)).trans h.l, h.e.grown hg (by simpa using h2) (fun k hk => ?_), by have := hg.size; omega⟩, ⟨(Below.refl B w).grown hg h4.2.2.2 (fun k hk => by cases hk; exact h4.1), fun k cs T fr hk h5 _ _ _ => (hg.block k (Array.getElem?_eq_some_iff.1 hk).1 (by simpa using h5)).trans hk⟩⟩
  cases hk
  exact ⟨_, _, _, h.d, by decide⟩
theorem CarS.alloc (h : CarS B w b X E x s ns) (o : Obj) : CarS B (w.alloc o) b X E x s ns ∧ CarK B b X E w (w.alloc o) := by
  have hg : w.grownBy (w.alloc o) none := World.grownBy_alloc w o none
  have h4 := h.lb
  refine ⟨⟨h.d.keep hg (by simp), (hg.block X h.lt.2.1 (by simp)).trans h.l, h.e.grown hg (by simp) (by simp), by have := hg.size; omega⟩, ⟨(Below.refl B w).alloc h4.2.2.2 _, fun k cs T fr hk _ _ _ _ => (hg.block k (Array.getElem?_eq_some_iff.1 hk).1 (by simp)).trans hk⟩⟩
theorem CarS.drew (h : CarS B w b X E x s ns) : CarS B w.drew b X E x s ns ∧ CarK B b X E w w.drew := by
  obtain ⟨v, h1, h2⟩ := h.e
  exact ⟨⟨h.d, h.l, ⟨v, h1, h2.keep (row := none) ⟨rfl, rfl, rfl, Nat.le_refl _, fun _ _ _ => rfl⟩ (by cases v.ownBlock <;> simp)⟩, h.lb⟩, ⟨(Below.refl B w).drew, fun _ _ _ _ h _ _ _ _ => h⟩⟩
theorem CarS.set (h : CarS B w b X E x s ns) (j : Nat) (v : Value) (he : (#[.int .i64 x.ph, .int .i64 x.basis, .bool x.bit, .bool x.br] : Array Value).setIfInBounds j v = #[.int .i64 x'.ph, .int .i64 x'.basis, .bool x'.bit, .bool x'.br]) : CarS B (w.setCell ⟨X, j, none⟩ v) b X E x' s ns ∧ CarK B b X E w (w.setCell ⟨X, j, none⟩ v) := by
  have hg := grown_setCell w X j v
  have h1 := h.xb; have h2 := h.ex; have h4 := h.lb
  refine ⟨⟨h.d.keep hg (by simpa using h1), by rw [← he]; exact heap_setCell_same w X j _ _ v h.l, h.e.grown hg (by simpa using h2) (fun k hk => ?_), by have := hg.size; omega⟩, ⟨(Below.refl B w).grown hg h4.2.2.2 (fun k hk => by cases hk; exact h4.2.1), fun k cs T fr hk _ h5 _ _ => (hg.block k (Array.getElem?_eq_some_iff.1 hk).1 (by simpa using h5)).trans hk⟩⟩
  cases hk
  exact ⟨_, _, _, h.l, by decide⟩
/-- The whole light is written anew, cell by cell. -/
theorem CarS.set4 (h : CarS B w b X E x s ns) (x' : Lgt) : CarS B ((((w.setCell ⟨X, 0, none⟩ (.int .i64 x'.ph)).setCell ⟨X, 1, none⟩ (.int .i64 x'.basis)).setCell ⟨X, 2, none⟩ (.bool x'.bit)).setCell ⟨X, 3, none⟩ (.bool x'.br)) b X E x' s ns ∧
    CarK B b X E w ((((w.setCell ⟨X, 0, none⟩ (.int .i64 x'.ph)).setCell ⟨X, 1, none⟩ (.int .i64 x'.basis)).setCell ⟨X, 2, none⟩ (.bool x'.bit)).setCell ⟨X, 3, none⟩ (.bool x'.br)) := by
  obtain ⟨a1, b1⟩ := h.set (x' := ⟨x'.ph, x.basis, x.bit, x.br⟩) 0 (.int .i64 x'.ph) rfl
  obtain ⟨a2, b2⟩ := a1.set (x' := ⟨x'.ph, x'.basis, x.bit, x.br⟩) 1 (.int .i64 x'.basis) rfl
  obtain ⟨a3, b3⟩ := a2.set (x' := ⟨x'.ph, x'.basis, x'.bit, x.br⟩) 2 (.bool x'.bit) rfl
  obtain ⟨a4, b4⟩ := a3.set (x' := x') 3 (.bool x'.br) rfl
  exact ⟨a4, ((b1.trans b2).trans b3).trans b4⟩
end
/-- What an act leaves. -/
def CarPost (B b X E : Nat) (w : World) (ns : List Nte) (z : Lgt × Nat × List Nte) : Ending → World → Prop := fun e w' => (∃ v, e = .returned v) ∧ CarS B w' b X E z.1 z.2.1 (ns ++ z.2.2) ∧ CarK B b X E w w'
theorem CarPost.mk {B b X E : Nat} {w w' : World} {ns : List Nte} {x : Lgt} {s : Nat} {v : Value} (h : CarS B w' b X E x s ns) (k : CarK B b X E w w') : CarPost B b X E w ns (x, s, []) (.returned v) w' := ⟨⟨v, rfl⟩, by simpa using h, k⟩
theorem rul_box (w : World) (r : Rul) : (w.alloc (.cells #[.int .i64 r.k, .int .i64 r.f, .int .i64 r.t, .int .i64 r.a, .int .i64 r.b] 70)).heap[w.heap.size]? = some (.cells #[.int .i64 r.k, .int .i64 r.f, .int .i64 r.t, .int .i64 r.a, .int .i64 r.b] 70 (0, 0)) := World.alloc_heap_new w _

set_option maxRecDepth 100000 in
set_option maxHeartbeats 4000000 in
theorem loss_any (B b X E s : Nat) (r : Rul) (x : Lgt) (ns : List Nte) (w : World) (h : CarS B w b X E x s ns) (hb : x.br = false) (hp : x.ph ≤ 3) :
    Calls Tryz.prog 141 #[r.val, .pointer (some ⟨X, 0, none⟩), .pointer (some ⟨b, 0, none⟩)] w (CarPost B b X E w ns (⟨x.ph - (lossN r.a s x.ph).1, x.basis, x.bit, false⟩, (lossN r.a s x.ph).2, [])) := by
  unfold Rul.val
  have hr := rul_box w r
  obtain ⟨J0, K0⟩ := h.alloc (.cells #[.int .i64 r.k, .int .i64 r.f, .int .i64 r.t, .int .i64 r.a, .int .i64 r.b] 70)
  have lts := h.lt
  go_enter Tryz.func141, Tryz.ntmps141
  have y0 := J0.c0
  go_wp2_with fail
  clear y0
  go_loopw [10] (fun i wr => ∃ (j q s' : Nat), j ≤ x.ph ∧ q ≤ j ∧ i = .int .i64 j ∧ Hid (lossN r.a s j = (q, s')) ∧ CarS B wr b X E ⟨x.ph - q, x.basis, x.bit, false⟩ s' ns ∧ CarK B b X E (w.alloc (.cells #[.int .i64 r.k, .int .i64 r.f, .int .i64 r.t, .int .i64 r.a, .int .i64 r.b] 70)) wr) (fun i _ => x.ph - (intOf i).toNat)
  case atStart => exact ⟨0, 0, s, Nat.zero_le _, Nat.le_refl _, rfl, Lib.hid rfl, by rw [← hb]; exact J0, CarK.refl _ _ _ _ _⟩
  case round =>
    clear J0
    obtain ⟨j, q, s', hj, hq, rfl, hz, J, K⟩ := hrel
    rcases Nat.lt_or_ge j x.ph with hlt | hge
    · have hrw := K.row _ _ _ _ hr (by omega) (by omega) (by omega) (by decide)
      have y3 : wr.cell? ⟨w.heap.size, 3, none⟩ = some (.int .i64 r.a) := cell_of_row _ _ _ _ _ _ hrw
      have cC := chance_any b s' r.a wr J.d
      have hst : Hid (lossN r.a s (j + 1) = (q + (if chB s' r.a = true then 1 else 0), nxS s')) := Lib.hid (by rw [lossN, hz.out])
      obtain ⟨u, hu⟩ : ∃ u, chB s' r.a = u := ⟨_, rfl⟩
      rw [hu] at cC hst
      clear hu
      go_wp2_with fail
      refine cC.mono ?_
      rintro e w2 ⟨rfl, D2, g2⟩
      obtain ⟨J2, K2⟩ := J.draw D2 g2
      have K3 := K.trans K2
      clear cC y3 J K K2 D2 g2
      have y0 := J2.c0
      have f0 := J2.fr 0
      cases u
      · go_wp2_with fail
        exact ⟨⟨j + 1, q, nxS s', by omega, by omega, by go_num, hst, J2, K3⟩, by simp [intOf]; omega⟩
      · have hc : ((x.ph - q : Nat) : Int) - 1 = ((x.ph - (q + 1) : Nat) : Int) := by omega
        obtain ⟨J4, K4⟩ := J2.set (x' := ⟨x.ph - (q + 1), x.basis, x.bit, false⟩) 0 (.int .i64 ((x.ph - (q + 1) : Nat) : Int)) rfl
        have K5 := K3.trans K4
        clear J2 K3 K4
        go_wp2_with fail
        exact ⟨⟨j + 1, q + 1, nxS s', by omega, by omega, by go_num, hst, J4, K5⟩, by simp [intOf]; omega⟩
    · obtain rfl : j = x.ph := by omega
      go_wp2_with fail
      go_end0
      rw [hz.out]
      exact CarPost.mk J (K0.trans K)

end Go.Proofs.YteoaaphjbggobaaGreat

namespace Go.Proofs.YteoaaphjbggobaaGreat
open Go.RowKit
set_option linter.unusedVariables false
set_option linter.unusedSimpArgs false

set_option maxRecDepth 100000 in
set_option maxHeartbeats 4000000 in
theorem noise_any (B b X E s : Nat) (r : Rul) (x : Lgt) (ns : List Nte) (w : World) (h : CarS B w b X E x s ns) (hb : x.br = false) (hp : x.ph ≤ 3) :
    Calls Tryz.prog 143 #[r.val, .pointer (some ⟨X, 0, none⟩), .pointer (some ⟨b, 0, none⟩)] w (CarPost B b X E w ns (if 0 < x.ph then (⟨x.ph, x.basis, x.bit != chB s r.a, false⟩, nxS s, []) else (x, s, []))) := by
  unfold Rul.val
  have hr := rul_box w r
  obtain ⟨J0, K0⟩ := h.alloc (.cells #[.int .i64 r.k, .int .i64 r.f, .int .i64 r.t, .int .i64 r.a, .int .i64 r.b] 70)
  have lts := h.lt
  have y0 := J0.c0
  have y3 : (w.alloc (.cells #[.int .i64 r.k, .int .i64 r.f, .int .i64 r.t, .int .i64 r.a, .int .i64 r.b] 70)).cell? ⟨w.heap.size, 3, none⟩ = some (.int .i64 r.a) := cell_of_row _ _ _ _ _ _ hr
  by_cases hph : 0 < x.ph
  · rw [if_pos hph]
    have d1 : decide ((0 : Int) < (x.ph : Int)) = true := by simp; omega
    have cC := chance_any b s r.a _ J0.d
    obtain ⟨u, hu⟩ : ∃ u, chB s r.a = u := ⟨_, rfl⟩
    rw [hu] at cC ⊢
    clear hu
    go_enter Tryz.func143, Tryz.ntmps143
    go_wp2_with fail
    refine cC.mono ?_
    rintro e w2 ⟨rfl, D2, g2⟩
    obtain ⟨J2, K2⟩ := J0.draw D2 g2
    have K3 := K0.trans K2
    clear cC y3 y0 J0 K0 K2 D2 g2 hr h
    have y0 := J2.c2
    have f0 := J2.fr 2
    cases u
    · have e1 : Hid ((⟨x.ph, x.basis, x.bit != false, false⟩ : Lgt) = x) := Lib.hid (by obtain ⟨a1, a2, a3, a4⟩ := x; simp only at hb; subst hb; cases a3 <;> rfl)
      go_wp2_with fail
      go_end0
      rw [e1.out]
      exact CarPost.mk J2 K3
    · obtain ⟨J4, K4⟩ := J2.set (x' := ⟨x.ph, x.basis, !x.bit, false⟩) 2 (.bool (!x.bit)) (by rw [hb]; rfl)
      have K5 := K3.trans K4
      have e2 : Hid ((x.bit != true) = (!x.bit)) := Lib.hid (by cases x.bit <;> rfl)
      clear J2 K3 K4
      go_wp2_with fail
      go_end0
      rw [e2.out]
      exact CarPost.mk J4 K5
  · rw [if_neg hph]
    have d1 : decide ((0 : Int) < (x.ph : Int)) = false := by simp; omega
    go_enter Tryz.func143, Tryz.ntmps143
    go_wp2_with fail
    go_end0
    exact CarPost.mk J0 K0

set_option maxRecDepth 100000 in
set_option maxHeartbeats 4000000 in
theorem late_any (B b X E s : Nat) (r : Rul) (x : Lgt) (ns : List Nte) (w : World) (h : CarS B w b X E x s ns) :
    Calls Tryz.prog 144 #[r.val, .pointer (some ⟨X, 0, none⟩), .pointer (some ⟨b, 0, none⟩)] w (CarPost B b X E w ns (x, s, [])) := by
  unfold Rul.val
  obtain ⟨J0, K0⟩ := h.alloc (.cells #[.int .i64 r.k, .int .i64 r.f, .int .i64 r.t, .int .i64 r.a, .int .i64 r.b] 70)
  go_enter Tryz.func144, Tryz.ntmps144
  go_wp2_with fail
  go_end0
  first | exact CarPost.mk J0 K0 | exact CarPost.mk h (CarK.refl _ _ _ _ _)

set_option maxRecDepth 100000 in
set_option maxHeartbeats 4000000 in
theorem starve_any (B b X E s : Nat) (r : Rul) (x : Lgt) (ns : List Nte) (w : World) (h : CarS B w b X E x s ns) (hb : x.br = false) (hp : x.ph ≤ 3) :
    Calls Tryz.prog 145 #[r.val, .pointer (some ⟨X, 0, none⟩), .pointer (some ⟨b, 0, none⟩)] w (CarPost B b X E w ns (if x.ph = 1 then (⟨if chB s r.a = true then 0 else 1, x.basis, x.bit, false⟩, nxS s, []) else (x, s, []))) := by
  unfold Rul.val
  have hr := rul_box w r
  obtain ⟨J0, K0⟩ := h.alloc (.cells #[.int .i64 r.k, .int .i64 r.f, .int .i64 r.t, .int .i64 r.a, .int .i64 r.b] 70)
  have lts := h.lt
  have y0 := J0.c0
  have y3 : (w.alloc (.cells #[.int .i64 r.k, .int .i64 r.f, .int .i64 r.t, .int .i64 r.a, .int .i64 r.b] 70)).cell? ⟨w.heap.size, 3, none⟩ = some (.int .i64 r.a) := cell_of_row _ _ _ _ _ _ hr
  by_cases hph : x.ph = 1
  · rw [if_pos hph]
    have d1 : ((x.ph : Int) == 1) = true := by simp; omega
    have cC := chance_any b s r.a _ J0.d
    obtain ⟨u, hu⟩ : ∃ u, chB s r.a = u := ⟨_, rfl⟩
    rw [hu] at cC ⊢
    clear hu
    obtain ⟨Z, hZ⟩ : ∃ Z : Nat, (if u = true then 0 else 1) = Z := ⟨_, rfl⟩
    rw [hZ]
    have HZ := Lib.hid hZ
    clear hZ
    go_enter Tryz.func145, Tryz.ntmps145
    go_wp2_with fail
    refine cC.mono ?_
    rintro e w2 ⟨rfl, D2, g2⟩
    obtain ⟨J2, K2⟩ := J0.draw D2 g2
    have K3 := K0.trans K2
    clear cC y3 y0 J0 K0 K2 D2 g2 hr h
    have y0 := J2.c0
    have f0 := J2.fr 0
    cases u
    · go_wp2_with fail
      go_end0
      have e1 : (⟨Z, x.basis, x.bit, false⟩ : Lgt) = x := by obtain ⟨a1, a2, a3, a4⟩ := x; simp only at hb hph; subst hb hph; rw [← HZ.out]; rfl
      rw [e1]
      exact CarPost.mk J2 K3
    · have hz0 : Z = 0 := HZ.out.symm
      subst hz0
      obtain ⟨J4, K4⟩ := J2.set (x' := ⟨0, x.basis, x.bit, false⟩) 0 (.int .i64 0) (by rw [hb]; rfl)
      have K5 := K3.trans K4
      clear J2 K3 K4 HZ
      go_wp2_with fail
      go_end0
      exact CarPost.mk J4 K5
  · rw [if_neg hph]
    have d1 : ((x.ph : Int) == 1) = false := by simp; omega
    go_enter Tryz.func145, Tryz.ntmps145
    go_wp2_with fail
    go_end0
    exact CarPost.mk J0 K0

end Go.Proofs.YteoaaphjbggobaaGreat

namespace Go.Proofs.YteoaaphjbggobaaGreat
open Go.RowKit
set_option linter.unusedVariables false
set_option linter.unusedSimpArgs false

theorem CarPost.pre {B b X E : Nat} {w w2 : World} {ns : List Nte} {z : Lgt × Nat × List Nte} (k : CarK B b X E w w2) {e : Ending} {w' : World} (h : CarPost B b X E w2 ns z e w') : CarPost B b X E w ns z e w' := ⟨h.1, h.2.1, k.trans h.2.2⟩
set_option maxRecDepth 100000 in
set_option maxHeartbeats 4000000 in
theorem quiet1_any (cb B b X E s : Nat) (r : Rul) (x : Lgt) (ns : List Nte) (w : World) (sl : Int) (i1 : Value) (Z : Lgt × Nat × List Nte) (h : CarS B w b X E x s ns) (hcb : Boxed w cb 232 (.func (.func 141) #[] #[]))
    (hc : x.br = false → ∀ w', CarS B w' b X E x s ns → Calls Tryz.prog 141 #[r.val, .pointer (some ⟨X, 0, none⟩), .pointer (some ⟨b, 0, none⟩)] w' (CarPost B b X E w' ns Z)) :
    Calls Tryz.prog 140 #[r.val, .int .i64 sl, .pointer (some ⟨X, 0, none⟩), .pointer (some ⟨b, 0, none⟩), i1, .pointer (some ⟨cb, 0, none⟩)] w (CarPost B b X E w ns (if x.br = true then (x, s, []) else Z)) := by
  unfold Rul.val at *
  have hr := rul_box w r
  obtain ⟨J0, K0⟩ := h.alloc (.cells #[.int .i64 r.k, .int .i64 r.f, .int .i64 r.t, .int .i64 r.a, .int .i64 r.b] 70)
  have y0 : (w.alloc (.cells #[.int .i64 r.k, .int .i64 r.f, .int .i64 r.t, .int .i64 r.a, .int .i64 r.b] 70)).cell? ⟨w.heap.size, 0, none⟩ = some (.int .i64 r.k) := cell_of_row _ _ _ _ _ _ hr
  have y1 : (w.alloc (.cells #[.int .i64 r.k, .int .i64 r.f, .int .i64 r.t, .int .i64 r.a, .int .i64 r.b] 70)).cell? ⟨w.heap.size, 1, none⟩ = some (.int .i64 r.f) := cell_of_row _ _ _ _ _ _ hr
  have y2 : (w.alloc (.cells #[.int .i64 r.k, .int .i64 r.f, .int .i64 r.t, .int .i64 r.a, .int .i64 r.b] 70)).cell? ⟨w.heap.size, 2, none⟩ = some (.int .i64 r.t) := cell_of_row _ _ _ _ _ _ hr
  have y3 : (w.alloc (.cells #[.int .i64 r.k, .int .i64 r.f, .int .i64 r.t, .int .i64 r.a, .int .i64 r.b] 70)).cell? ⟨w.heap.size, 3, none⟩ = some (.int .i64 r.a) := cell_of_row _ _ _ _ _ _ hr
  have y4 : (w.alloc (.cells #[.int .i64 r.k, .int .i64 r.f, .int .i64 r.t, .int .i64 r.a, .int .i64 r.b] 70)).cell? ⟨w.heap.size, 4, none⟩ = some (.int .i64 r.b) := cell_of_row _ _ _ _ _ _ hr
  have z3 := J0.c3
  have zc := (hcb.alloc (.cells #[.int .i64 r.k, .int .i64 r.f, .int .i64 r.t, .int .i64 r.a, .int .i64 r.b] 70)).cell
  clear hr
  cases hbr : x.br
  · have c := hc hbr _ J0
    rw [hbr] at z3
    rw [if_neg (by simp)]
    clear hc
    go_enter Tryz.func140, Tryz.ntmps140
    go_wp2_with fail
    refine c.mono ?_
    rintro e w2 ⟨⟨v, rfl⟩, J2, K2⟩
    clear c z3 zc y0 y1 y2 y3 y4
    go_wp2_with fail
    go_end0
    exact ⟨⟨_, rfl⟩, J2, K0.trans K2⟩
  · rw [hbr] at z3
    rw [if_pos rfl]
    clear hc
    go_enter Tryz.func140, Tryz.ntmps140
    go_wp2_with fail
    go_end0
    exact CarPost.mk J0 K0

set_option maxRecDepth 100000 in
set_option maxHeartbeats 4000000 in
theorem quiet2_any (cb B b X E s : Nat) (r : Rul) (x : Lgt) (ns : List Nte) (w : World) (sl : Int) (i1 : Value) (Z : Lgt × Nat × List Nte) (h : CarS B w b X E x s ns) (hcb : Boxed w cb 232 (.func (.func 143) #[] #[]))
    (hc : x.br = false → ∀ w', CarS B w' b X E x s ns → Calls Tryz.prog 143 #[r.val, .pointer (some ⟨X, 0, none⟩), .pointer (some ⟨b, 0, none⟩)] w' (CarPost B b X E w' ns Z)) :
    Calls Tryz.prog 140 #[r.val, .int .i64 sl, .pointer (some ⟨X, 0, none⟩), .pointer (some ⟨b, 0, none⟩), i1, .pointer (some ⟨cb, 0, none⟩)] w (CarPost B b X E w ns (if x.br = true then (x, s, []) else Z)) := by
  unfold Rul.val at *
  have hr := rul_box w r
  obtain ⟨J0, K0⟩ := h.alloc (.cells #[.int .i64 r.k, .int .i64 r.f, .int .i64 r.t, .int .i64 r.a, .int .i64 r.b] 70)
  have y0 : (w.alloc (.cells #[.int .i64 r.k, .int .i64 r.f, .int .i64 r.t, .int .i64 r.a, .int .i64 r.b] 70)).cell? ⟨w.heap.size, 0, none⟩ = some (.int .i64 r.k) := cell_of_row _ _ _ _ _ _ hr
  have y1 : (w.alloc (.cells #[.int .i64 r.k, .int .i64 r.f, .int .i64 r.t, .int .i64 r.a, .int .i64 r.b] 70)).cell? ⟨w.heap.size, 1, none⟩ = some (.int .i64 r.f) := cell_of_row _ _ _ _ _ _ hr
  have y2 : (w.alloc (.cells #[.int .i64 r.k, .int .i64 r.f, .int .i64 r.t, .int .i64 r.a, .int .i64 r.b] 70)).cell? ⟨w.heap.size, 2, none⟩ = some (.int .i64 r.t) := cell_of_row _ _ _ _ _ _ hr
  have y3 : (w.alloc (.cells #[.int .i64 r.k, .int .i64 r.f, .int .i64 r.t, .int .i64 r.a, .int .i64 r.b] 70)).cell? ⟨w.heap.size, 3, none⟩ = some (.int .i64 r.a) := cell_of_row _ _ _ _ _ _ hr
  have y4 : (w.alloc (.cells #[.int .i64 r.k, .int .i64 r.f, .int .i64 r.t, .int .i64 r.a, .int .i64 r.b] 70)).cell? ⟨w.heap.size, 4, none⟩ = some (.int .i64 r.b) := cell_of_row _ _ _ _ _ _ hr
  have z3 := J0.c3
  have zc := (hcb.alloc (.cells #[.int .i64 r.k, .int .i64 r.f, .int .i64 r.t, .int .i64 r.a, .int .i64 r.b] 70)).cell
  clear hr
  cases hbr : x.br
  · have c := hc hbr _ J0
    rw [hbr] at z3
    rw [if_neg (by simp)]
    clear hc
    go_enter Tryz.func140, Tryz.ntmps140
    go_wp2_with fail
    refine c.mono ?_
    rintro e w2 ⟨⟨v, rfl⟩, J2, K2⟩
    clear c z3 zc y0 y1 y2 y3 y4
    go_wp2_with fail
    go_end0
    exact ⟨⟨_, rfl⟩, J2, K0.trans K2⟩
  · rw [hbr] at z3
    rw [if_pos rfl]
    clear hc
    go_enter Tryz.func140, Tryz.ntmps140
    go_wp2_with fail
    go_end0
    exact CarPost.mk J0 K0

set_option maxRecDepth 100000 in
set_option maxHeartbeats 4000000 in
theorem quiet3_any (cb B b X E s : Nat) (r : Rul) (x : Lgt) (ns : List Nte) (w : World) (sl : Int) (i1 : Value) (Z : Lgt × Nat × List Nte) (h : CarS B w b X E x s ns) (hcb : Boxed w cb 232 (.func (.func 144) #[] #[]))
    (hc : x.br = false → ∀ w', CarS B w' b X E x s ns → Calls Tryz.prog 144 #[r.val, .pointer (some ⟨X, 0, none⟩), .pointer (some ⟨b, 0, none⟩)] w' (CarPost B b X E w' ns Z)) :
    Calls Tryz.prog 140 #[r.val, .int .i64 sl, .pointer (some ⟨X, 0, none⟩), .pointer (some ⟨b, 0, none⟩), i1, .pointer (some ⟨cb, 0, none⟩)] w (CarPost B b X E w ns (if x.br = true then (x, s, []) else Z)) := by
  unfold Rul.val at *
  have hr := rul_box w r
  obtain ⟨J0, K0⟩ := h.alloc (.cells #[.int .i64 r.k, .int .i64 r.f, .int .i64 r.t, .int .i64 r.a, .int .i64 r.b] 70)
  have y0 : (w.alloc (.cells #[.int .i64 r.k, .int .i64 r.f, .int .i64 r.t, .int .i64 r.a, .int .i64 r.b] 70)).cell? ⟨w.heap.size, 0, none⟩ = some (.int .i64 r.k) := cell_of_row _ _ _ _ _ _ hr
  have y1 : (w.alloc (.cells #[.int .i64 r.k, .int .i64 r.f, .int .i64 r.t, .int .i64 r.a, .int .i64 r.b] 70)).cell? ⟨w.heap.size, 1, none⟩ = some (.int .i64 r.f) := cell_of_row _ _ _ _ _ _ hr
  have y2 : (w.alloc (.cells #[.int .i64 r.k, .int .i64 r.f, .int .i64 r.t, .int .i64 r.a, .int .i64 r.b] 70)).cell? ⟨w.heap.size, 2, none⟩ = some (.int .i64 r.t) := cell_of_row _ _ _ _ _ _ hr
  have y3 : (w.alloc (.cells #[.int .i64 r.k, .int .i64 r.f, .int .i64 r.t, .int .i64 r.a, .int .i64 r.b] 70)).cell? ⟨w.heap.size, 3, none⟩ = some (.int .i64 r.a) := cell_of_row _ _ _ _ _ _ hr
  have y4 : (w.alloc (.cells #[.int .i64 r.k, .int .i64 r.f, .int .i64 r.t, .int .i64 r.a, .int .i64 r.b] 70)).cell? ⟨w.heap.size, 4, none⟩ = some (.int .i64 r.b) := cell_of_row _ _ _ _ _ _ hr
  have z3 := J0.c3
  have zc := (hcb.alloc (.cells #[.int .i64 r.k, .int .i64 r.f, .int .i64 r.t, .int .i64 r.a, .int .i64 r.b] 70)).cell
  clear hr
  cases hbr : x.br
  · have c := hc hbr _ J0
    rw [hbr] at z3
    rw [if_neg (by simp)]
    clear hc
    go_enter Tryz.func140, Tryz.ntmps140
    go_wp2_with fail
    refine c.mono ?_
    rintro e w2 ⟨⟨v, rfl⟩, J2, K2⟩
    clear c z3 zc y0 y1 y2 y3 y4
    go_wp2_with fail
    go_end0
    exact ⟨⟨_, rfl⟩, J2, K0.trans K2⟩
  · rw [hbr] at z3
    rw [if_pos rfl]
    clear hc
    go_enter Tryz.func140, Tryz.ntmps140
    go_wp2_with fail
    go_end0
    exact CarPost.mk J0 K0

set_option maxRecDepth 100000 in
set_option maxHeartbeats 4000000 in
theorem quiet4_any (cb B b X E s : Nat) (r : Rul) (x : Lgt) (ns : List Nte) (w : World) (sl : Int) (i1 : Value) (Z : Lgt × Nat × List Nte) (h : CarS B w b X E x s ns) (hcb : Boxed w cb 232 (.func (.func 145) #[] #[]))
    (hc : x.br = false → ∀ w', CarS B w' b X E x s ns → Calls Tryz.prog 145 #[r.val, .pointer (some ⟨X, 0, none⟩), .pointer (some ⟨b, 0, none⟩)] w' (CarPost B b X E w' ns Z)) :
    Calls Tryz.prog 140 #[r.val, .int .i64 sl, .pointer (some ⟨X, 0, none⟩), .pointer (some ⟨b, 0, none⟩), i1, .pointer (some ⟨cb, 0, none⟩)] w (CarPost B b X E w ns (if x.br = true then (x, s, []) else Z)) := by
  unfold Rul.val at *
  have hr := rul_box w r
  obtain ⟨J0, K0⟩ := h.alloc (.cells #[.int .i64 r.k, .int .i64 r.f, .int .i64 r.t, .int .i64 r.a, .int .i64 r.b] 70)
  have y0 : (w.alloc (.cells #[.int .i64 r.k, .int .i64 r.f, .int .i64 r.t, .int .i64 r.a, .int .i64 r.b] 70)).cell? ⟨w.heap.size, 0, none⟩ = some (.int .i64 r.k) := cell_of_row _ _ _ _ _ _ hr
  have y1 : (w.alloc (.cells #[.int .i64 r.k, .int .i64 r.f, .int .i64 r.t, .int .i64 r.a, .int .i64 r.b] 70)).cell? ⟨w.heap.size, 1, none⟩ = some (.int .i64 r.f) := cell_of_row _ _ _ _ _ _ hr
  have y2 : (w.alloc (.cells #[.int .i64 r.k, .int .i64 r.f, .int .i64 r.t, .int .i64 r.a, .int .i64 r.b] 70)).cell? ⟨w.heap.size, 2, none⟩ = some (.int .i64 r.t) := cell_of_row _ _ _ _ _ _ hr
  have y3 : (w.alloc (.cells #[.int .i64 r.k, .int .i64 r.f, .int .i64 r.t, .int .i64 r.a, .int .i64 r.b] 70)).cell? ⟨w.heap.size, 3, none⟩ = some (.int .i64 r.a) := cell_of_row _ _ _ _ _ _ hr
  have y4 : (w.alloc (.cells #[.int .i64 r.k, .int .i64 r.f, .int .i64 r.t, .int .i64 r.a, .int .i64 r.b] 70)).cell? ⟨w.heap.size, 4, none⟩ = some (.int .i64 r.b) := cell_of_row _ _ _ _ _ _ hr
  have z3 := J0.c3
  have zc := (hcb.alloc (.cells #[.int .i64 r.k, .int .i64 r.f, .int .i64 r.t, .int .i64 r.a, .int .i64 r.b] 70)).cell
  clear hr
  cases hbr : x.br
  · have c := hc hbr _ J0
    rw [hbr] at z3
    rw [if_neg (by simp)]
    clear hc
    go_enter Tryz.func140, Tryz.ntmps140
    go_wp2_with fail
    refine c.mono ?_
    rintro e w2 ⟨⟨v, rfl⟩, J2, K2⟩
    clear c z3 zc y0 y1 y2 y3 y4
    go_wp2_with fail
    go_end0
    exact ⟨⟨_, rfl⟩, J2, K0.trans K2⟩
  · rw [hbr] at z3
    rw [if_pos rfl]
    clear hc
    go_enter Tryz.func140, Tryz.ntmps140
    go_wp2_with fail
    go_end0
    exact CarPost.mk J0 K0


end Go.Proofs.YteoaaphjbggobaaGreat

namespace Go.Proofs.YteoaaphjbggobaaGreat
open Go.RowKit
set_option linter.unusedVariables false
set_option linter.unusedSimpArgs false

def eveV (E : Nat) : Value := .iface 188 (.pointer (some ⟨E, 0, none⟩))
theorem hear_m0 (E : Nat) (w : World) : (method (Tryz.prog.types.size + Made.depth) 188 (.pointer (some ⟨E, 0, none⟩)) "waveplate/optics.hear").run Tryz.prog w = .ok (200, .pointer (some ⟨E, 0, none⟩)) w := by kernel_rfl
@[go_sem] theorem hear_m (n E : Nat) (w : World) (hn : n = Tryz.prog.types.size + Made.depth) : (method n 188 (.pointer (some ⟨E, 0, none⟩)) "waveplate/optics.hear").run Tryz.prog w = .ok (200, .pointer (some ⟨E, 0, none⟩)) w := by rw [hn]; exact hear_m0 E w
theorem CarS.hear {B : Nat} {w w' : World} {b X E s : Nat} {x : Lgt} {ns ms : List Nte} (h : CarS B w b X E x s ns) (h2 : BookAt w' B E ms) (k : CarK B E E E w w') : CarS B w' b X E x s ms ∧ CarK B b X E w w' := by
  have h3 := h.eb; have h4 := h.ex; have h5 := h.lb; have h6 := k.bel.size
  exact ⟨⟨k.row b _ _ _ h.d h3.symm h3.symm h3.symm (by decide), k.row X _ _ _ h.l h4.symm h4.symm h4.symm (by decide), h2, by omega⟩, ⟨k.bel, fun i cs T fr hi _ _ he hT => k.row i cs T fr hi he he he hT⟩⟩
theorem CarPost.one {B b X E : Nat} {w w' : World} {ns : List Nte} {x : Lgt} {s : Nat} {n : Nte} {v : Value} (h : CarS B w' b X E x s (ns ++ [n])) (k : CarK B b X E w w') : CarPost B b X E w ns (x, s, [n]) (.returned v) w' := ⟨⟨v, rfl⟩, h, k⟩

set_option maxRecDepth 100000 in
set_option maxHeartbeats 4000000 in
theorem resend_any (B b X E s i : Nat) (r : Rul) (x : Lgt) (ns : List Nte) (w : World) (h : CarS B w b X E x s ns) (hp : x.ph ≤ 3) (hn : ns.length ≤ 1000000) :
    Calls Tryz.prog 147 #[r.val, .int .i64 i, .pointer (some ⟨X, 0, none⟩), .pointer (some ⟨b, 0, none⟩), eveV E] w (CarPost B b X E w ns (if x.br = true then (x, s, []) else if x.ph = 0 then (x, s, []) else if chB s r.a = true then rsnX i x (nxS s) else (x, nxS s, []))) := by
  unfold Rul.val eveV
  have hr := rul_box w r
  obtain ⟨J0, K0⟩ := h.alloc (.cells #[.int .i64 r.k, .int .i64 r.f, .int .i64 r.t, .int .i64 r.a, .int .i64 r.b] 70)
  have lts := h.lt
  have y0 := J0.c0
  have yb := J0.c3
  have y3 : (w.alloc (.cells #[.int .i64 r.k, .int .i64 r.f, .int .i64 r.t, .int .i64 r.a, .int .i64 r.b] 70)).cell? ⟨w.heap.size, 3, none⟩ = some (.int .i64 r.a) := cell_of_row _ _ _ _ _ _ hr
  obtain ⟨Z, hZ⟩ : ∃ Z, (if x.br = true then (x, s, []) else if x.ph = 0 then (x, s, []) else if chB s r.a = true then rsnX i x (nxS s) else (x, nxS s, [])) = Z := ⟨_, rfl⟩
  rw [hZ]
  have HZ := Lib.hid hZ
  clear hZ
  rcases (Bool.eq_false_or_eq_true x.br).symm with hbr | hbr
  · rw [hbr] at yb
    by_cases hph : x.ph = 0
    · have hz : (x, s, []) = Z := by rw [← HZ.out, if_neg (by rw [hbr]; simp), if_pos hph]
      subst hz
      have d1 : ((x.ph : Int) == 0) = true := by simp; omega
      go_enter Tryz.func147, Tryz.ntmps147
      go_wp2_with fail
      go_end0
      exact CarPost.mk J0 K0
    · have d1 : ((x.ph : Int) == 0) = false := by simp; omega
      have cC := chance_any b s r.a _ J0.d
      obtain ⟨u, hu⟩ : ∃ u, chB s r.a = u := ⟨_, rfl⟩
      have hz : (if u = true then rsnX i x (nxS s) else (x, nxS s, [])) = Z := by
        have h9 := HZ.out
        rw [if_neg (show ¬ x.br = true by rw [hbr]; simp), if_neg hph, hu] at h9
        exact h9
      rw [hu] at cC
      have Hz := Lib.hid hz
      clear hu hz HZ
      go_enter Tryz.func147, Tryz.ntmps147
      go_wp2_with fail
      refine cC.mono ?_
      rintro e w2 ⟨rfl, D2, g2⟩
      obtain ⟨J2, K2⟩ := J0.draw D2 g2
      have K3 := K0.trans K2
      clear cC y3 y0 J0 K0 K2 D2 g2 hr h yb
      have y2 := J2.c2
      cases u
      · have hz := Hz.out
        rw [if_neg (by simp)] at hz
        subst hz
        go_wp2_with fail
        (try simp only [Exit.inBlock, Exit.then])
        refine bodyPost_ret (results_none rfl _ _ _) rfl ?_
        exact CarPost.mk J2 K3
      · have hz := Hz.out
        rw [if_pos rfl] at hz
        have HZ := Lib.hid hz
        clear hz Hz
        go_wp2_with fail
        obtain ⟨Jd, Kd⟩ := J2.drew
        have cB := obel_any b (nxS s) 2 w2.drew Jd.d (by decide) (by decide)
        obtain ⟨q, hq⟩ : ∃ q, nxY (nxS s) % 2 = q := ⟨_, rfl⟩
        obtain ⟨s2, hs2⟩ : ∃ q, nxS (nxS s) = q := ⟨_, rfl⟩
        rw [hq, hs2] at cB
        have Hq := Lib.hid hq; have Hs2 := Lib.hid hs2
        clear hq hs2
        go_cut [10, 11] (fun v10 v11 wx => v10 = .int .i64 q ∧ v11 = .bool x.bit ∧ CarS B wx b X E x s2 ns ∧ CarK B b X E w wx)
        case first =>
          go_region_with (go_at_call 149; refine cB.mono ?_; rintro e w3 ⟨rfl, D3, g3⟩; obtain ⟨J3, K4⟩ := Jd.draw D3 g3; have y5 := J3.c2; have K5 := (K3.trans Kd).trans K4)
          all_goals (
            go_wp2_with fail
            go_meet
            case rel => exact ⟨rfl, rfl, J3, K5⟩)
        case rest =>
          clear cB Jd Kd J2 K3 y2
          obtain ⟨rfl, rfl, J, K⟩ := hcut
          have y1 := J.c1
          obtain ⟨xb, hxb⟩ : ∃ xb, x.basis = xb := ⟨_, rfl⟩
          rw [hxb] at y1
          have Hxb := Lib.hid hxb
          clear hxb
          go_upto_if 41 with fail
          go_cut [11] (fun v wx => ∃ (t : Bool) (s3 : Nat), v = .bool t ∧ Hid ((if (q : Int) = x.basis then (x.bit, s2) else (decide (nxY s2 % 2 = 1), nxS s2)) = (t, s3)) ∧ CarS B wx b X E x s3 ns ∧ CarK B b X E w wx)
          case first =>
            by_cases hqb : (q : Int) = xb
            · have ht : Hid ((if (q : Int) = x.basis then (x.bit, s2) else (decide (nxY s2 % 2 = 1), nxS s2)) = (x.bit, s2)) := Lib.hid (if_pos (hqb.trans Hxb.out.symm))
              have d2 : ((q : Int) != xb) = false := by simpa using hqb
              rw [d2]
              clear d2 hqb
              go_wp2_with fail
              go_meet
              case rel => exact ⟨_, _, rfl, ht, J, K⟩
            · have d2 : ((q : Int) != xb) = true := by simpa using hqb
              have cB := obel_any b s2 2 wc J.d (by decide) (by decide)
              obtain ⟨q2, hq2⟩ : ∃ q, nxY s2 % 2 = q := ⟨_, rfl⟩
              have d3 : ((q2 : Int) == 1) = decide (nxY s2 % 2 = 1) := by rw [hq2, Bool.eq_iff_iff]; simp; omega
              rw [hq2] at cB
              have ht : Hid ((if (q : Int) = x.basis then (x.bit, s2) else (decide (nxY s2 % 2 = 1), nxS s2)) = (decide (nxY s2 % 2 = 1), nxS s2))   := Lib.hid (if_neg (by rw [Hxb.out]; exact hqb))
              generalize decide (nxY s2 % 2 = 1) = t2 at *
              rw [d2]
              clear hqb hq2 d2
              go_wp2_with fail
              refine cB.mono ?_
              rintro e w5 ⟨rfl, D5, g5⟩
              obtain ⟨J5, K5⟩ := J.draw D5 g5
              go_wp2_with fail
              go_meet
              case rel => exact ⟨_, _, rfl, ht, J5, K.trans K5⟩
          case rest =>
            clear y1 J K
            obtain ⟨t, s3, rfl, ht, J, K⟩ := hcut
            have f0 := J.fr 0; have f1 := J.fr 1; have f2 := J.fr 2; have f3 := J.fr 3
            have y0 := J.c0; have y1 := J.c1; have y2 := J.c2; have y3 := J.c3
            obtain ⟨J4, K4⟩ := J.set4 ⟨1, (q : Int), t, false⟩
            have hK := K.trans K4
            clear K K4 J
            go_wp2_with fail
            refine (hear_any B E E E ns ⟨(i : Int), 1, (q : Int), t⟩ _ J4.e J4.lb.2.2.1 J4.lb.2.2.2 hn).mono ?_
            rintro e w9 ⟨⟨v9, rfl⟩, hE9, K9⟩
            go_wp2_with fail
            go_end0
            have hz : rsnX i x (nxS s) = (⟨1, (q : Int), t, false⟩, s3, [⟨(i : Int), 1, (q : Int), t⟩]) := by
              unfold rsnX
              simp only
              rw [Hq.out, Hs2.out, ht.out]
            rw [← HZ.out, hz]
            obtain ⟨J9, K10⟩ := J4.hear hE9 K9
            exact CarPost.one J9 (hK.trans K10)
  · have hz : (x, s, []) = Z := by rw [← HZ.out, if_pos hbr]
    subst hz
    rw [hbr] at yb
    go_enter Tryz.func147, Tryz.ntmps147
    go_wp2_with fail
    go_end0
    exact CarPost.mk J0 K0

end Go.Proofs.YteoaaphjbggobaaGreat

namespace Go.Proofs.YteoaaphjbggobaaGreat
open Go.RowKit
set_option linter.unusedVariables false
set_option linter.unusedSimpArgs false

theorem hear_n0 (E : Nat) (w : World) : (nilAhead (Tryz.prog.types.size + Made.depth) 188 (.pointer (some ⟨E, 0, none⟩)) "waveplate/optics.hear").run Tryz.prog w = .ok (some false) w := by kernel_rfl
@[go_sem] theorem hear_n (n E : Nat) (w : World) (hn : n = Tryz.prog.types.size + Made.depth) : (nilAhead n 188 (.pointer (some ⟨E, 0, none⟩)) "waveplate/optics.hear").run Tryz.prog w = .ok (some false) w := by rw [hn]; exact hear_n0 E w

set_option maxRecDepth 100000 in
set_option maxHeartbeats 4000000 in
theorem osplit_any (B b X E s i : Nat) (r : Rul) (x : Lgt) (ns : List Nte) (w : World) (h : CarS B w b X E x s ns) (hp : x.ph ≤ 3) (hn : ns.length ≤ 1000000) :
    Calls Tryz.prog 146 #[r.val, .int .i64 i, .pointer (some ⟨X, 0, none⟩), .pointer (some ⟨b, 0, none⟩), eveV E] w (CarPost B b X E w ns (if x.br = true then (x, s, []) else if 2 ≤ x.ph then (⟨x.ph - 1, x.basis, x.bit, false⟩, s, [⟨i, 2, x.basis, x.bit⟩]) else (x, s, []))) := by
  unfold Rul.val eveV
  obtain ⟨J0, K0⟩ := h.alloc (.cells #[.int .i64 r.k, .int .i64 r.f, .int .i64 r.t, .int .i64 r.a, .int .i64 r.b] 70)
  have lts := h.lt
  have y0 := J0.c0
  have yb := J0.c3
  obtain ⟨Z, hZ⟩ : ∃ Z : Lgt × Nat × List Nte, (if x.br = true then (x, s, []) else if 2 ≤ x.ph then (⟨x.ph - 1, x.basis, x.bit, false⟩, s, [⟨i, 2, x.basis, x.bit⟩]) else (x, s, [])) = Z := ⟨_, rfl⟩
  rw [hZ]
  have HZ := Lib.hid hZ
  clear hZ
  rcases (Bool.eq_false_or_eq_true x.br).symm with hbr | hbr
  · rw [hbr] at yb
    by_cases hph : 2 ≤ x.ph
    · have hz : Hid ((⟨x.ph - 1, x.basis, x.bit, false⟩, s, [⟨i, 2, x.basis, x.bit⟩]) = Z) := Lib.hid (by
        have h9 := HZ.out
        rw [if_neg (show ¬ x.br = true by rw [hbr]; simp), if_pos hph] at h9
        exact h9)
      have d1 : decide ((2 : Int) ≤ (x.ph : Int)) = true := by simp; omega
      have f0 := J0.fr 0
      have e1 : ((x.ph : Int) - 1) = ((x.ph - 1 : Nat) : Int) := by omega
      obtain ⟨J1, K1⟩ := h.set (x' := ⟨x.ph - 1, x.basis, x.bit, false⟩) 0 (.int .i64 ((x.ph - 1 : Nat) : Int)) (by rw [hbr]; rfl)
      obtain ⟨J2, K2⟩ := J1.alloc (.cells #[.int .i64 r.k, .int .i64 r.f, .int .i64 r.t, .int .i64 r.a, .int .i64 r.b] 70)
      have K3 := K1.trans K2
      clear HZ J0 K0 K1 K2 J1
      go_enter Tryz.func146, Tryz.ntmps146
      go_upto_region 3 with fail
      obtain ⟨W, hW⟩ : ∃ W, (w.setCell ⟨X, 0, none⟩ (.int .i64 ((x.ph - 1 : Nat) : Int))).alloc (.cells #[.int .i64 r.k, .int .i64 r.f, .int .i64 r.t, .int .i64 r.a, .int .i64 r.b] 70) = W := ⟨_, rfl⟩
      rw [hW] at J2 K3 ⊢
      clear hW y0 yb f0
      have y1 := J2.c1
      have y2 := J2.c2
      obtain ⟨Jd, Kd⟩ := J2.drew
      have cH := hear_any B E E E ns ⟨(i : Int), 2, x.basis, x.bit⟩ W.drew Jd.e Jd.lb.2.2.1 Jd.lb.2.2.2 hn
      go_region_with (go_at_call 200; refine cH.mono ?_; rintro e w9 ⟨⟨v9, rfl⟩, hE9, K9⟩)
      all_goals (
        go_end0
        rw [← hz.out]
        obtain ⟨J9, K10⟩ := Jd.hear hE9 K9
        exact CarPost.one J9 ((K3.trans Kd).trans K10))
    · have hz : (x, s, []) = Z := by
        have h9 := HZ.out
        rw [if_neg (show ¬ x.br = true by rw [hbr]; simp), if_neg hph] at h9
        exact h9
      subst hz
      have d1 : decide ((2 : Int) ≤ (x.ph : Int)) = false := by simp; omega
      go_enter Tryz.func146, Tryz.ntmps146
      go_wp2_with fail
      go_end0
      exact CarPost.mk J0 K0
  · have hz : (x, s, []) = Z := by rw [← HZ.out, if_pos hbr]
    subst hz
    rw [hbr] at yb
    go_enter Tryz.func146, Tryz.ntmps146
    go_wp2_with fail
    go_end0
    exact CarPost.mk J0 K0

set_option maxRecDepth 100000 in
set_option maxHeartbeats 4000000 in
theorem blind_any (B b X E s i : Nat) (r : Rul) (x : Lgt) (ns : List Nte) (w : World) (h : CarS B w b X E x s ns) (hn : ns.length ≤ 1000000) :
    Calls Tryz.prog 148 #[r.val, .int .i64 i, .pointer (some ⟨X, 0, none⟩), .pointer (some ⟨b, 0, none⟩), eveV E] w (CarPost B b X E w ns (⟨0, r.a, decide (r.b = 1), true⟩, s, [⟨i, 3, r.a, decide (r.b = 1)⟩])) := by
  unfold Rul.val eveV
  have hr := rul_box w r
  have y3 : (w.alloc (.cells #[.int .i64 r.k, .int .i64 r.f, .int .i64 r.t, .int .i64 r.a, .int .i64 r.b] 70)).cell? ⟨w.heap.size, 3, none⟩ = some (.int .i64 r.a) := cell_of_row _ _ _ _ _ _ hr
  have y4 : (w.alloc (.cells #[.int .i64 r.k, .int .i64 r.f, .int .i64 r.t, .int .i64 r.a, .int .i64 r.b] 70)).cell? ⟨w.heap.size, 4, none⟩ = some (.int .i64 r.b) := cell_of_row _ _ _ _ _ _ hr
  have lts := h.lt
  obtain ⟨t, ht⟩ : ∃ t, (r.b == 1) = t := ⟨_, rfl⟩
  have ht2 : decide (r.b = 1) = t := by rw [← ht, Bool.eq_iff_iff]; simp
  rw [ht2]
  clear ht2
  obtain ⟨J1, K1⟩ := h.set4 ⟨0, r.a, t, true⟩
  obtain ⟨J2, K2⟩ := J1.alloc (.cells #[.int .i64 r.k, .int .i64 r.f, .int .i64 r.t, .int .i64 r.a, .int .i64 r.b] 70)
  have K3 := K1.trans K2
  obtain ⟨J0, _⟩ := h.alloc (.cells #[.int .i64 r.k, .int .i64 r.f, .int .i64 r.t, .int .i64 r.a, .int .i64 r.b] 70)
  have f0 := h.fr 0; have f1 := h.fr 1; have f2 := h.fr 2; have f3 := h.fr 3
  have z0 := h.c0; have z1 := h.c1; have z2 := h.c2; have z3 := h.c3
  have hX := lts.2.1
  have hne : w.heap.size ≠ X := by omega
  clear hr K1 K2 J1 J0 h
  go_enter Tryz.func148, Tryz.ntmps148
  go_upto_region 2 with fail
  obtain ⟨W, hW⟩ : ∃ W, ((((w.setCell ⟨X, 0, none⟩ (.int .i64 0)).setCell ⟨X, 1, none⟩ (.int .i64 r.a)).setCell ⟨X, 2, none⟩ (.bool t)).setCell ⟨X, 3, none⟩ (.bool true)).alloc (.cells #[.int .i64 r.k, .int .i64 r.f, .int .i64 r.t, .int .i64 r.a, .int .i64 r.b] 70) = W := ⟨_, rfl⟩
  have J3 : CarS B W b X E ⟨0, r.a, t, true⟩ s ns := by rw [← hW]; exact J2
  have K4 : CarK B b X E w W := by rw [← hW]; exact K3
  rw [hW]
  clear hW y3 y4 f0 f1 f2 f3 z0 z1 z2 z3 J2 K3 hne hX
  have y1 : W.cell? ⟨X, 1, none⟩ = some (.int .i64 r.a) := J3.c1
  have y2 : W.cell? ⟨X, 2, none⟩ = some (.bool t) := J3.c2
  obtain ⟨Jd, Kd⟩ := J3.drew
  have cH := hear_any B E E E ns ⟨(i : Int), 3, r.a, t⟩ W.drew Jd.e Jd.lb.2.2.1 Jd.lb.2.2.2 hn
  go_region_with (go_at_call 200; refine cH.mono ?_; rintro e w9 ⟨⟨v9, rfl⟩, hE9, K9⟩)
  all_goals (
    go_end0
    obtain ⟨J9, K10⟩ := Jd.hear hE9 K9
    exact CarPost.one J9 ((K4.trans Kd).trans K10))

end Go.Proofs.YteoaaphjbggobaaGreat

namespace Go.Proofs.YteoaaphjbggobaaGreat
open Go.RowKit
set_option linter.unusedVariables false
set_option linter.unusedSimpArgs false

@[go_sem] theorem run_store_func {P : Program} {w : World} {a : Addr} {m : Mode} (fn : Fn) (x y : Array Value) : (store a (.func fn x y) m).run P w = stored P w a (.func fn x y) m := run_store P w a _ m rfl
@[go_sem] theorem run_store_nilFunc {P : Program} {w : World} {a : Addr} {m : Mode} : (store a .nilFunc m).run P w = stored P w a .nilFunc m := run_store P w a _ m rfl
theorem set8 {w x : World} {g : Nat} {T : TypeId} {z0 z1 z2 z3 z4 z5 z6 z7 : Value} (v0 v1 v2 v3 v4 v5 v6 v7 : Value) (h : w.heap[g]? = some (.cells #[z0, z1, z2, z3, z4, z5, z6, z7] T (0, 0))) :
    ((((((((w.setCell ⟨g, 0, none⟩ v0).setCell ⟨g, 1, none⟩ v1).setCell ⟨g, 2, none⟩ v2).setCell ⟨g, 3, none⟩ v3).setCell ⟨g, 4, none⟩ v4).setCell ⟨g, 5, none⟩ v5).setCell ⟨g, 6, none⟩ v6).setCell ⟨g, 7, none⟩ v7).heap[g]? = some (.cells #[v0, v1, v2, v3, v4, v5, v6, v7] T (0, 0)) ∧ (∀ k, k ≠ g → ((((((((w.setCell ⟨g, 0, none⟩ v0).setCell ⟨g, 1, none⟩ v1).setCell ⟨g, 2, none⟩ v2).setCell ⟨g, 3, none⟩ v3).setCell ⟨g, 4, none⟩ v4).setCell ⟨g, 5, none⟩ v5).setCell ⟨g, 6, none⟩ v6).setCell ⟨g, 7, none⟩ v7).heap[k]? = w.heap[k]?) ∧ (∀ B, Below B x w → B ≤ g → Below B x ((((((((w.setCell ⟨g, 0, none⟩ v0).setCell ⟨g, 1, none⟩ v1).setCell ⟨g, 2, none⟩ v2).setCell ⟨g, 3, none⟩ v3).setCell ⟨g, 4, none⟩ v4).setCell ⟨g, 5, none⟩ v5).setCell ⟨g, 6, none⟩ v6).setCell ⟨g, 7, none⟩ v7)) := by
  have h0 : (w.setCell ⟨g, 0, none⟩ v0).heap[g]? = some (.cells #[v0, z1, z2, z3, z4, z5, z6, z7] T (0, 0)) := heap_setCell_same _ _ 0 _ _ v0 h
  have h1 : ((w.setCell ⟨g, 0, none⟩ v0).setCell ⟨g, 1, none⟩ v1).heap[g]? = some (.cells #[v0, v1, z2, z3, z4, z5, z6, z7] T (0, 0)) := heap_setCell_same _ _ 1 _ _ v1 h0
  have h2 : (((w.setCell ⟨g, 0, none⟩ v0).setCell ⟨g, 1, none⟩ v1).setCell ⟨g, 2, none⟩ v2).heap[g]? = some (.cells #[v0, v1, v2, z3, z4, z5, z6, z7] T (0, 0)) := heap_setCell_same _ _ 2 _ _ v2 h1
  have h3 : ((((w.setCell ⟨g, 0, none⟩ v0).setCell ⟨g, 1, none⟩ v1).setCell ⟨g, 2, none⟩ v2).setCell ⟨g, 3, none⟩ v3).heap[g]? = some (.cells #[v0, v1, v2, v3, z4, z5, z6, z7] T (0, 0)) := heap_setCell_same _ _ 3 _ _ v3 h2
  have h4 : (((((w.setCell ⟨g, 0, none⟩ v0).setCell ⟨g, 1, none⟩ v1).setCell ⟨g, 2, none⟩ v2).setCell ⟨g, 3, none⟩ v3).setCell ⟨g, 4, none⟩ v4).heap[g]? = some (.cells #[v0, v1, v2, v3, v4, z5, z6, z7] T (0, 0)) := heap_setCell_same _ _ 4 _ _ v4 h3
  have h5 : ((((((w.setCell ⟨g, 0, none⟩ v0).setCell ⟨g, 1, none⟩ v1).setCell ⟨g, 2, none⟩ v2).setCell ⟨g, 3, none⟩ v3).setCell ⟨g, 4, none⟩ v4).setCell ⟨g, 5, none⟩ v5).heap[g]? = some (.cells #[v0, v1, v2, v3, v4, v5, z6, z7] T (0, 0)) := heap_setCell_same _ _ 5 _ _ v5 h4
  have h6 : (((((((w.setCell ⟨g, 0, none⟩ v0).setCell ⟨g, 1, none⟩ v1).setCell ⟨g, 2, none⟩ v2).setCell ⟨g, 3, none⟩ v3).setCell ⟨g, 4, none⟩ v4).setCell ⟨g, 5, none⟩ v5).setCell ⟨g, 6, none⟩ v6).heap[g]? = some (.cells #[v0, v1, v2, v3, v4, v5, v6, z7] T (0, 0)) := heap_setCell_same _ _ 6 _ _ v6 h5
  have h7 : ((((((((w.setCell ⟨g, 0, none⟩ v0).setCell ⟨g, 1, none⟩ v1).setCell ⟨g, 2, none⟩ v2).setCell ⟨g, 3, none⟩ v3).setCell ⟨g, 4, none⟩ v4).setCell ⟨g, 5, none⟩ v5).setCell ⟨g, 6, none⟩ v6).setCell ⟨g, 7, none⟩ v7).heap[g]? = some (.cells #[v0, v1, v2, v3, v4, v5, v6, v7] T (0, 0)) := heap_setCell_same _ _ 7 _ _ v7 h6
  refine ⟨h7, fun k hk => ?_, fun B hb hB => ?_⟩
  · rw [Below.heap_setCell _ _ _ k hk, Below.heap_setCell _ _ _ k hk, Below.heap_setCell _ _ _ k hk, Below.heap_setCell _ _ _ k hk, Below.heap_setCell _ _ _ k hk, Below.heap_setCell _ _ _ k hk, Below.heap_setCell _ _ _ k hk, Below.heap_setCell _ _ _ k hk]
  · have b0 := hb.setCell (p := ⟨g, 0, none⟩) hB v0
    have b1 := b0.setCell (p := ⟨g, 1, none⟩) hB v1
    have b2 := b1.setCell (p := ⟨g, 2, none⟩) hB v2
    have b3 := b2.setCell (p := ⟨g, 3, none⟩) hB v3
    have b4 := b3.setCell (p := ⟨g, 4, none⟩) hB v4
    have b5 := b4.setCell (p := ⟨g, 5, none⟩) hB v5
    have b6 := b5.setCell (p := ⟨g, 6, none⟩) hB v6
    have b7 := b6.setCell (p := ⟨g, 7, none⟩) hB v7
    exact b7
theorem acts8_size : (Tryz.prog.info? 193).map (·.size) = some 8 := by kernel_rfl
theorem acts1_any (f : Nat) (w : World) : Calls Tryz.prog 139 #[.func (.func f) #[] #[]] w fun e w' => e = .returned (.func (.func 140) #[] #[.pointer (some ⟨w.heap.size, 0, none⟩)]) ∧ w' = w.alloc (.cells #[.func (.func f) #[] #[]] 232) := by
  go_enter Tryz.func139, Tryz.ntmps139
  go_wp2
  go_ret
  exact ⟨rfl, rfl⟩
def actF (c : Nat) : Value := .func (.func 140) #[] #[.pointer (some ⟨c, 0, none⟩)]
/-- The acts in the order of the kinds of rules. -/
def actsV (c1 c2 c3 c6 : Nat) : Value := .agg #[.nilFunc, actF c1, actF c2, actF c3, .func (.func 147) #[] #[], .func (.func 146) #[] #[], actF c6, .func (.func 148) #[] #[]]
/-- The boxes that hold what the acts change. -/
structure ActBs (w : World) (c1 c2 c3 c6 : Nat) : Prop where
  b1 : Boxed w c1 232 (.func (.func 141) #[] #[])
  b2 : Boxed w c2 232 (.func (.func 143) #[] #[])
  b3 : Boxed w c3 232 (.func (.func 144) #[] #[])
  b6 : Boxed w c6 232 (.func (.func 145) #[] #[])

set_option maxRecDepth 100000 in
set_option maxHeartbeats 4000000 in
theorem acts_any (w : World) : Calls Tryz.prog 100 #[] w fun e w' => ∃ c1 c2 c3 c6, e = .returned (actsV c1 c2 c3 c6) ∧ ActBs w' c1 c2 c3 c6 ∧ Below w.heap.size w w' := by
  unfold actsV actF
  go_enter Tryz.func100, Tryz.ntmps100
  go_wp2_with fail
  obtain ⟨w0, h0⟩ : ∃ w0, w0 = w.alloc (.cells #[.nilFunc, .nilFunc, .nilFunc, .nilFunc, .nilFunc, .nilFunc, .nilFunc, .nilFunc] 193) := ⟨_, rfl⟩
  have R0 : w0.heap[w.heap.size]? = some (.cells #[.nilFunc, .nilFunc, .nilFunc, .nilFunc, .nilFunc, .nilFunc, .nilFunc, .nilFunc] 193 (0, 0)) := by rw [h0]; exact World.alloc_heap_new _ _
  have q0 : Below w.heap.size w w0 := by rw [h0]; exact below_alloc (Below.refl _ _) _
  rw [← h0]
  clear h0
  have sz0 : w.heap.size < w0.heap.size := (Array.getElem?_eq_some_iff.1 R0).1
  refine (acts1_any _ w0).mono ?_
  rintro e w1 ⟨rfl, h1⟩
  have B1 : Boxed w1 w0.heap.size 232 (.func (.func 141) #[] #[]) := by rw [h1]; exact Boxed.new _ _ _
  have R1 : w1.heap[w.heap.size]? = some (.cells #[.nilFunc, .nilFunc, .nilFunc, .nilFunc, .nilFunc, .nilFunc, .nilFunc, .nilFunc] 193 (0, 0)) := by rw [h1]; exact (Below.heap_alloc _ _ _ (Array.getElem?_eq_some_iff.1 R0).1).trans R0
  have q1 : Below w.heap.size w w1 := by rw [h1]; exact below_alloc q0 _
  clear h1 R0 q0
  go_wp2_with fail
  have sz1 : w.heap.size < w1.heap.size := (Array.getElem?_eq_some_iff.1 R1).1
  refine (acts1_any _ w1).mono ?_
  rintro e w2 ⟨rfl, h2⟩
  have B2 : Boxed w2 w1.heap.size 232 (.func (.func 143) #[] #[]) := by rw [h2]; exact Boxed.new _ _ _
  replace B1 := (by rw [h2]; exact B1.alloc _ : Boxed w2 w0.heap.size _ _)
  have R2 : w2.heap[w.heap.size]? = some (.cells #[.nilFunc, .nilFunc, .nilFunc, .nilFunc, .nilFunc, .nilFunc, .nilFunc, .nilFunc] 193 (0, 0)) := by rw [h2]; exact (Below.heap_alloc _ _ _ (Array.getElem?_eq_some_iff.1 R1).1).trans R1
  have q2 : Below w.heap.size w w2 := by rw [h2]; exact below_alloc q1 _
  clear h2 R1 q1
  go_wp2_with fail
  have sz2 : w.heap.size < w2.heap.size := (Array.getElem?_eq_some_iff.1 R2).1
  refine (acts1_any _ w2).mono ?_
  rintro e w3 ⟨rfl, h3⟩
  have B3 : Boxed w3 w2.heap.size 232 (.func (.func 144) #[] #[]) := by rw [h3]; exact Boxed.new _ _ _
  replace B1 := (by rw [h3]; exact B1.alloc _ : Boxed w3 w0.heap.size _ _)
  replace B2 := (by rw [h3]; exact B2.alloc _ : Boxed w3 w1.heap.size _ _)
  have R3 : w3.heap[w.heap.size]? = some (.cells #[.nilFunc, .nilFunc, .nilFunc, .nilFunc, .nilFunc, .nilFunc, .nilFunc, .nilFunc] 193 (0, 0)) := by rw [h3]; exact (Below.heap_alloc _ _ _ (Array.getElem?_eq_some_iff.1 R2).1).trans R2
  have q3 : Below w.heap.size w w3 := by rw [h3]; exact below_alloc q2 _
  clear h3 R2 q2
  go_wp2_with fail
  have sz3 : w.heap.size < w3.heap.size := (Array.getElem?_eq_some_iff.1 R3).1
  refine (acts1_any _ w3).mono ?_
  rintro e w4 ⟨rfl, h4⟩
  have B4 : Boxed w4 w3.heap.size 232 (.func (.func 145) #[] #[]) := by rw [h4]; exact Boxed.new _ _ _
  replace B1 := (by rw [h4]; exact B1.alloc _ : Boxed w4 w0.heap.size _ _)
  replace B2 := (by rw [h4]; exact B2.alloc _ : Boxed w4 w1.heap.size _ _)
  replace B3 := (by rw [h4]; exact B3.alloc _ : Boxed w4 w2.heap.size _ _)
  have R4 : w4.heap[w.heap.size]? = some (.cells #[.nilFunc, .nilFunc, .nilFunc, .nilFunc, .nilFunc, .nilFunc, .nilFunc, .nilFunc] 193 (0, 0)) := by rw [h4]; exact (Below.heap_alloc _ _ _ (Array.getElem?_eq_some_iff.1 R3).1).trans R3
  have q4 : Below w.heap.size w w4 := by rw [h4]; exact below_alloc q3 _
  clear h4 R3 q3
  have sz : w0.heap.size ≠ w.heap.size ∧ w1.heap.size ≠ w.heap.size ∧ w2.heap.size ≠ w.heap.size ∧ w3.heap.size ≠ w.heap.size := ⟨Nat.ne_of_gt sz0, Nat.ne_of_gt sz1, Nat.ne_of_gt sz2, Nat.ne_of_gt sz3⟩
  have f0 : w4.frozen? ⟨w.heap.size, 0, none⟩ = false := frozen_of_row _ _ _ _ _ R4
  have z0 : w4.cell? ⟨w.heap.size, 0, none⟩ = some .nilFunc := cell_of_row _ _ _ _ _ _ R4
  have f1 : w4.frozen? ⟨w.heap.size, 1, none⟩ = false := frozen_of_row _ _ _ _ _ R4
  have z1 : w4.cell? ⟨w.heap.size, 1, none⟩ = some .nilFunc := cell_of_row _ _ _ _ _ _ R4
  have f2 : w4.frozen? ⟨w.heap.size, 2, none⟩ = false := frozen_of_row _ _ _ _ _ R4
  have z2 : w4.cell? ⟨w.heap.size, 2, none⟩ = some .nilFunc := cell_of_row _ _ _ _ _ _ R4
  have f3 : w4.frozen? ⟨w.heap.size, 3, none⟩ = false := frozen_of_row _ _ _ _ _ R4
  have z3 : w4.cell? ⟨w.heap.size, 3, none⟩ = some .nilFunc := cell_of_row _ _ _ _ _ _ R4
  have f4 : w4.frozen? ⟨w.heap.size, 4, none⟩ = false := frozen_of_row _ _ _ _ _ R4
  have z4 : w4.cell? ⟨w.heap.size, 4, none⟩ = some .nilFunc := cell_of_row _ _ _ _ _ _ R4
  have f5 : w4.frozen? ⟨w.heap.size, 5, none⟩ = false := frozen_of_row _ _ _ _ _ R4
  have z5 : w4.cell? ⟨w.heap.size, 5, none⟩ = some .nilFunc := cell_of_row _ _ _ _ _ _ R4
  have f6 : w4.frozen? ⟨w.heap.size, 6, none⟩ = false := frozen_of_row _ _ _ _ _ R4
  have z6 : w4.cell? ⟨w.heap.size, 6, none⟩ = some .nilFunc := cell_of_row _ _ _ _ _ _ R4
  have f7 : w4.frozen? ⟨w.heap.size, 7, none⟩ = false := frozen_of_row _ _ _ _ _ R4
  have z7 : w4.cell? ⟨w.heap.size, 7, none⟩ = some .nilFunc := cell_of_row _ _ _ _ _ _ R4
  go_wp2_with fail
  obtain ⟨s1, s2, s3⟩ := set8 (x := w) .nilFunc (actF w0.heap.size) (actF w1.heap.size) (actF w2.heap.size) (.func (.func 147) #[] #[]) (.func (.func 146) #[] #[]) (actF w3.heap.size) (.func (.func 148) #[] #[]) R4
  have n0 : w0.heap.size ≠ w.heap.size := sz.1
  have n1 : w1.heap.size ≠ w.heap.size := sz.2.1
  have n2 : w2.heap.size ≠ w.heap.size := sz.2.2.1
  have n3 : w3.heap.size ≠ w.heap.size := sz.2.2.2
  unfold actF at s1 s2 s3
  (try simp only [Exit.inBlock, Exit.then])
  refine bodyPost_ret (v := .agg #[.nilFunc, .func (.func 140) #[] #[.pointer (some ⟨w0.heap.size, 0, none⟩)], .func (.func 140) #[] #[.pointer (some ⟨w1.heap.size, 0, none⟩)], .func (.func 140) #[] #[.pointer (some ⟨w2.heap.size, 0, none⟩)], .func (.func 147) #[] #[], .func (.func 146) #[] #[], .func (.func 140) #[] #[.pointer (some ⟨w3.heap.size, 0, none⟩)], .func (.func 148) #[] #[]]) ?_ rfl ⟨w0.heap.size, w1.heap.size, w2.heap.size, w3.heap.size, rfl, ⟨(s2 _ n0).trans B1, (s2 _ n1).trans B2, (s2 _ n2).trans B3, (s2 _ n3).trans B4⟩, s3 _ q4 (Nat.le_refl _)⟩
  exact results_cell_row rfl _ _ w.heap.size _ _ _ _ rfl s1 Tryz.underlying193 rfl acts8_size

end Go.Proofs.YteoaaphjbggobaaGreat

namespace Go.Proofs.YteoaaphjbggobaaGreat
open Go.RowKit
set_option linter.unusedVariables false
set_option linter.unusedSimpArgs false

set_option maxRecDepth 100000 in
set_option maxHeartbeats 4000000 in
theorem ovalid_any (A : Option Addr) (c : Nat) (l : List Pls) (w : World) (hA : Arr 5 Pls.enc w w.heap.size A l) (hl : l.length ≤ 9223372036854775807) :
    Calls Tryz.prog 99 #[.slice A l.length c] w fun e w' => e = .returned (.int .i64 (allE Pls.ok l)) ∧ Below w.heap.size w w' := by
  by_cases h : 4096 < l.length
  · have d1 : decide (4096 < (l.length : Int)) = true := by simp; omega
    have e1 := Lib.hid (allE_many (ok := Pls.ok) h)
    go_enter Tryz.func99, Tryz.ntmps99
    go_wp2
    go_ret
    exact ⟨ret_int e1.out.symm, Below.refl _ _⟩
  have d1 : decide (4096 < (l.length : Int)) = false := by simp; omega
  go_enter Tryz.func99, Tryz.ntmps99
  go_wp2_with fail
  go_loopw [10] (fun i wr => ∃ k : Nat, k ≤ l.length ∧ i = .int .i64 k ∧ Hid ((l.take k).all Pls.ok = true) ∧ Below w.heap.size w wr) (fun i _ => l.length + 1 - (intOf i).toNat)
  case atStart => exact ⟨0, Nat.zero_le _, rfl, Lib.hid rfl, Below.refl _ _⟩
  case round =>
    obtain ⟨k, hk, rfl, inv, hb⟩ := hrel
    obtain ⟨w6, rfl⟩ : ∃ w6, w6 = wr := ⟨_, rfl⟩
    rcases Nat.lt_or_ge k l.length with hlt | hge
    · obtain ⟨b, off, pb, pbit, pc, pph, ps, rfl, hbb, hx, c0, c1, c2, c3, c4⟩ := hA.pls hlt hb
      have q7 := below_alloc hb (.cells #[.int .i64 pb, .bool pbit, .int .i64 pc, .int .i64 pph, .bool ps] 148)
      have bad : Hid (Pls.ok ⟨pb, pbit, pc, pph, ps⟩ = false → allE Pls.ok l = 2) := Lib.hid (fun hf => allE_no h hx.out hf)
      have good : Hid (Pls.ok ⟨pb, pbit, pc, pph, ps⟩ = true → (l.take (k + 1)).all Pls.ok = true) := Lib.hid (fun hf => all_take hx.out inv.out hf)
      by_cases hok : (0 ≤ pb ∧ pb ≤ 1) ∧ (0 ≤ pc ∧ pc ≤ 2) ∧ (0 ≤ pph ∧ pph ≤ 3)
      · obtain ⟨⟨a1, a2⟩, ⟨a3, a4⟩, a5, a6⟩ := hok
        have e1 : decide (pb < 0) = false := by simp; omega
        have e2 : decide (1 < pb) = false := by simp; omega
        have e3 : decide (pc < 0) = false := by simp; omega
        have e4 : decide (2 < pc) = false := by simp; omega
        have e5 : decide (pph < 0) = false := by simp; omega
        have e6 : decide (3 < pph) = false := by simp; omega
        have hg := Lib.hid (good.out (by simp [Pls.ok, betwB]; omega))
        go_wp2_with fail
        exact ⟨⟨k + 1, by omega, by go_num, hg, q7⟩, by simp [intOf]; omega⟩
      · have hbd := Lib.hid (bad.out (by simp [Pls.ok, betwB]; omega))
        clear good bad inv hx
        go_wp2_with fail
        all_goals (first | (exfalso; omega) | (go_ret; exact ⟨ret_int hbd.out.symm, q7⟩))
    · have e1 := Lib.hid (allE_yes (ok := Pls.ok) h hge inv.out)
      go_wp2
      go_ret
      exact ⟨ret_int e1.out.symm, hb⟩

theorem rsnX_notes (i : Nat) (x : Lgt) (s : Nat) : (rsnX i x s).2.2.length = 1 := rfl
theorem actX_notes (r : Rul) (i : Nat) (x : Lgt) (s : Nat) : (actX r i x s).2.2.length ≤ 1 := by
  unfold actX
  repeat' split
  all_goals first | simp | exact Nat.le_refl 1
theorem stpX_notes (r : Rul) (i : Nat) (z : Lgt × Nat × List Nte) : (stpX r i z).2.2.length ≤ z.2.2.length + 1 := by
  unfold stpX
  split
  · have := actX_notes r i z.1 z.2.1
    simp; omega
  · omega
theorem rulX_notes (l : List Rul) (i : Nat) (z : Lgt × Nat × List Nte) : ∀ k, k ≤ l.length → (rulX l i z k).2.2.length ≤ z.2.2.length + k
  | 0, _ => by simp [rulX]
  | k + 1, h => by
    have ih := rulX_notes l i z k (by omega)
    rw [rulX_snoc i z (List.getElem?_eq_getElem (by omega))]
    have := stpX_notes l[k] i (rulX l i z k)
    omega
theorem carX_notes (l : List Rul) (hl : l.length ≤ 32) (p : List Pls) (s : Nat) : ∀ k, (carX l p s k).2.2.length ≤ 32 * k
  | 0 => by simp [carX]
  | k + 1 => by
    have ih := carX_notes l hl p s k
    cases h : p[k]? with
    | none => rw [carX, h]; simp only; omega
    | some x =>
      rw [carX_snoc h]
      have := rulX_notes l k (plsX x, (carX l p s k).2.1, (carX l p s k).2.2) l.length (Nat.le_refl _)
      simp only at this ⊢
      omega

theorem row_ne {w : World} {k j : Nat} {cs cs' : Array Value} {T T' : TypeId} {fr fr' : Nat × Nat} (h1 : w.heap[k]? = some (.cells cs T fr)) (h2 : w.heap[j]? = some (.cells cs' T' fr')) (hT : T ≠ T') : k ≠ j := fun e => by
  rw [e, h2] at h1
  simp at h1
  exact hT h1.2.1.symm
theorem CarK.own {B b X E : Nat} {w w' : World} (k : CarK B b X E w w') {α : Type} {B' e sz : Nat} {enc : α → List Value} {v : Value} {l : List α} (h : Go.Proofs.YteoaaphjbggobaaGreat.Own w B' e sz enc v l) (hn : ∀ g, v.ownBlock = some g → g ≠ b ∧ g ≠ X ∧ g ≠ E) (he : e ≠ 239) : Go.Proofs.YteoaaphjbggobaaGreat.Own w' B' e sz enc v l := by
  rcases h.2 with h0 | ⟨g, cap, cur, rfl, hb, hg, rest⟩
  · exact ⟨h.1, .inl h0⟩
  · obtain ⟨n1, n2, n3⟩ := hn g rfl
    exact ⟨h.1, .inr ⟨g, cap, cur, rfl, hb, k.row g _ _ _ hg n1 n2 n3 he, rest⟩⟩
theorem CarS.on {B : Nat} {w w' : World} {b X E s : Nat} {x : Lgt} {ns : List Nte} (h : CarS B w b X E x s ns) (hb : Below w.heap.size w w') : CarS B w' b X E x s ns ∧ CarK B b X E w w' := by
  have hg := grown_of_below hb
  have h4 := h.lb
  exact ⟨⟨h.d.keep hg (by simp), (hg.block X h.lt.2.1 (by simp)).trans h.l, h.e.grown hg (by simp) (by simp), by have := hg.size; omega⟩, ⟨hb.mono h4.2.2.2, fun k cs T fr hk _ _ _ _ => (hg.block k (Array.getElem?_eq_some_iff.1 hk).1 (by simp)).trans hk⟩⟩

end Go.Proofs.YteoaaphjbggobaaGreat

namespace Go.Proofs.YteoaaphjbggobaaGreat
open Go.RowKit
set_option linter.unusedVariables false
set_option linter.unusedSimpArgs false

def actsC (c1 c2 c3 c6 : Nat) : Array Value := #[.nilFunc, actF c1, actF c2, actF c3, .func (.func 147) #[] #[], .func (.func 146) #[] #[], actF c6, .func (.func 148) #[] #[]]
/-- The world between two slots: draws b, book E, the table D, what arrives g. -/
structure CarO (B : Nat) (W : World) (b E D g n c1 c2 c3 c6 s : Nat) (ns : List Nte) (outs : List Lgt) : Prop where
  d : DrwAt W b s
  e : BookAt W B E ns
  dd : W.heap[D]? = some (.cells (actsC c1 c2 c3 c6) 193 (0, 0))
  ac : ActBs W c1 c2 c3 c6
  o : Go.Proofs.YteoaaphjbggobaaGreat.Own W B 196 4 Lgt.enc (.slice (some ⟨g, 0, none⟩) n n) outs
  lb : B ≤ b ∧ B ≤ E ∧ B ≤ W.heap.size
section
variable {B : Nat} {W W' : World} {b E D g n c1 c2 c3 c6 s : Nat} {ns : List Nte} {outs : List Lgt}
theorem CarO.alloc (h : CarO B W b E D g n c1 c2 c3 c6 s ns outs) (o : Obj) : CarO B (W.alloc o) b E D g n c1 c2 c3 c6 s ns outs := by
  have hg : W.grownBy (W.alloc o) none := World.grownBy_alloc W o none
  obtain ⟨v, hv, hw⟩ := h.e
  have keep : ∀ {k : Nat} {ob : Obj}, W.heap[k]? = some ob → (W.alloc o).heap[k]? = some ob := fun hk => (hg.block _ (Array.getElem?_eq_some_iff.1 hk).1 (by simp)).trans hk
  exact ⟨h.d.keep hg (by simp), h.e.grown hg (by simp) (by simp), keep h.dd, ⟨keep h.ac.b1, keep h.ac.b2, keep h.ac.b3, keep h.ac.b6⟩, Own.alloc h.o _, by have := hg.size; have := h.lb; omega⟩
theorem CarO.gt (h : CarO B W b E D g n c1 c2 c3 c6 s ns outs) (hn : 0 < n) (hl : outs.length = n) : ∃ cs, W.heap[g]? = some (.cells cs 196 (0, 0)) := by
  rcases h.o.2 with ⟨h0, _⟩ | ⟨g', cap, cur, h0, _, hg, _⟩
  · cases h0
  · cases h0
    exact ⟨_, hg⟩
theorem CarO.car (h : CarO B W b E D g n c1 c2 c3 c6 s ns outs) {X s' : Nat} {x : Lgt} {ns' : List Nte} (hS : CarS B W' b X E x s' ns') (hK : CarK B b X E W W') (hgX : g ≠ X) (hX : ∃ cs, W.heap[X]? = some (.cells cs 196 (0, 0))) : CarO B W' b E D g n c1 c2 c3 c6 s' ns' outs := by
  obtain ⟨v, hv, hw⟩ := h.e
  obtain ⟨xs, hX⟩ := hX
  have keep : ∀ {k : Nat} {cs : Array Value} {T : TypeId}, W.heap[k]? = some (.cells cs T (0, 0)) → T ≠ 210 → T ≠ 196 → T ≠ 190 → T ≠ 239 → W'.heap[k]? = some (.cells cs T (0, 0)) := fun hk t1 t2 t3 t4 => hK.row _ _ _ _ hk (row_ne hk h.d t1) (row_ne hk hX t2) (row_ne hk hv t3) t4
  refine ⟨hS.d, hS.e, keep h.dd (by decide) (by decide) (by decide) (by decide), ⟨keep h.ac.b1 (by decide) (by decide) (by decide) (by decide), keep h.ac.b2 (by decide) (by decide) (by decide) (by decide), keep h.ac.b3 (by decide) (by decide) (by decide) (by decide), keep h.ac.b6 (by decide) (by decide) (by decide) (by decide)⟩, hK.own h.o (fun k hk => ?_) (by decide), ⟨h.lb.1, h.lb.2.1, hS.lb.2.2.2⟩⟩
  have hkg : k = g := by simpa [Value.ownBlock] using hk.symm
  subst hkg
  rcases h.o.2 with ⟨h0, _⟩ | ⟨g', cap, cur, h0, _, hg, _⟩
  · cases h0
  · cases h0
    exact ⟨row_ne hg h.d (by decide), hgX, row_ne hg hv (by decide)⟩
/-- Light is set into what arrives. -/
theorem CarO.set (h : CarO B W b E D g n c1 c2 c3 c6 s ns outs) (hl : outs.length = n) {k : Nat} {x : Lgt} (hx : outs[k]? = some x) (x' : Lgt) :
    CarO B ((((W.setCell ⟨g, k * 4, none⟩ (.int .i64 x'.ph)).setCell ⟨g, k * 4 + 1, none⟩ (.int .i64 x'.basis)).setCell ⟨g, k * 4 + 2, none⟩ (.bool x'.bit)).setCell ⟨g, k * 4 + 3, none⟩ (.bool x'.br)) b E D g n c1 c2 c3 c6 s ns (outs.set k x') ∧
    (∀ {x : World}, Below B x W → Below B x ((((W.setCell ⟨g, k * 4, none⟩ (.int .i64 x'.ph)).setCell ⟨g, k * 4 + 1, none⟩ (.int .i64 x'.basis)).setCell ⟨g, k * 4 + 2, none⟩ (.bool x'.bit)).setCell ⟨g, k * 4 + 3, none⟩ (.bool x'.br))) := by
  have hk := (List.getElem?_eq_some_iff.1 hx).1
  obtain ⟨v, hv, hw⟩ := h.e
  have hrow : ∃ cs, B ≤ g ∧ W.heap[g]? = some (.cells cs 196 (0, 0)) := by
    rcases h.o.2 with ⟨h0, _⟩ | ⟨g', cap, cur, h0, hb, hg, _⟩
    · cases h0
    · cases h0
      exact ⟨_, hb, hg⟩
  obtain ⟨cs, hBg, hg⟩ := hrow
  have hG : W.grownBy ((((W.setCell ⟨g, k * 4, none⟩ (.int .i64 x'.ph)).setCell ⟨g, k * 4 + 1, none⟩ (.int .i64 x'.basis)).setCell ⟨g, k * 4 + 2, none⟩ (.bool x'.bit)).setCell ⟨g, k * 4 + 3, none⟩ (.bool x'.br)) (some g) :=
    grown_trans (grown_trans (grown_trans (grown_setCell W g _ _) (grown_setCell _ g _ _)) (grown_setCell _ g _ _)) (grown_setCell _ g _ _)
  have o1 := h.o.setK hl Lgt.enc_len (x' := ⟨x'.ph, x.basis, x.bit, x.br⟩) hx (j := 0) (u := .int .i64 x'.ph) (by decide) rfl
  have o2 := o1.setK (by rw [List.length_set]; exact hl) Lgt.enc_len (x' := ⟨x'.ph, x'.basis, x.bit, x.br⟩) (List.getElem?_set_self hk) (j := 1) (u := .int .i64 x'.basis) (by decide) rfl
  rw [List.set_set] at o2
  have o3 := o2.setK (by rw [List.length_set]; exact hl) Lgt.enc_len (x' := ⟨x'.ph, x'.basis, x'.bit, x.br⟩) (List.getElem?_set_self hk) (j := 2) (u := .bool x'.bit) (by decide) rfl
  rw [List.set_set] at o3
  have o4 := o3.setK (by rw [List.length_set]; exact hl) Lgt.enc_len (x' := x') (List.getElem?_set_self hk) (j := 3) (u := .bool x'.br) (by decide) rfl
  rw [List.set_set] at o4
  have keep : ∀ {k : Nat} {cs : Array Value} {T : TypeId}, W.heap[k]? = some (.cells cs T (0, 0)) → T ≠ 196 → ((((W.setCell ⟨g, _, none⟩ (.int .i64 x'.ph)).setCell ⟨g, _, none⟩ (.int .i64 x'.basis)).setCell ⟨g, _, none⟩ (.bool x'.bit)).setCell ⟨g, _, none⟩ (.bool x'.br)).heap[k]? = some (.cells cs T (0, 0)) :=
    fun hk t => (hG.block _ (Array.getElem?_eq_some_iff.1 hk).1 (by have := row_ne hk hg t; simpa using this)).trans hk
  refine ⟨⟨keep h.d (by decide), h.e.grown hG (by have := row_ne hv hg (by decide); simpa using this) (fun j hj => by cases hj; exact ⟨_, _, _, hg, by decide⟩), keep h.dd (by decide), ⟨keep h.ac.b1 (by decide), keep h.ac.b2 (by decide), keep h.ac.b3 (by decide), keep h.ac.b6 (by decide)⟩, o4, ⟨h.lb.1, h.lb.2.1, by have := hG.size; have := h.lb; omega⟩⟩, fun hb => hb.grown hG (by have := h.lb; omega) (fun j hj => by cases hj; exact hBg)⟩
end

end Go.Proofs.YteoaaphjbggobaaGreat
