/- Contracts of slices.Concat of two bit strings, and of a pool's Refill. -/
import Derived.Shelf.Spec.SlicesGrow
import Derived.Test.YtpejoghdmkpfcaaGreatDoorPolE
import Derived.Test.YtpejoghdmkpfcaaGreatDoorShelfG
namespace Go.Proofs.YtpejoghdmkpfcaaGreatDoor
open Go.RowKit Go.Maps Go.Sort Go.Shelf
set_option linter.unusedVariables false
set_option linter.unusedSimpArgs false

theorem Grow_any (n : Nat) (w : World) (hn : n ≤ 200000) : Calls Tryz.prog 88 #[.slice none 0 0, .int .i64 n] w fun e w' => ∃ v, e = .returned v ∧ Own w' w.heap.size 4 1 encB v [] ∧ Below w.heap.size w w' := by
  obtain ⟨i0, hi, hz0, hz1, hz2⟩ := info_parts bool_info3
  cases n with
  | zero =>
    refine (Any8.slices_Grow_room Tryz.growB none 0 0 0 w (by omega) (by omega) (by omega) (by omega)).mono ?_
    rintro e w' ⟨rfl, rfl⟩
    exact ⟨_, rfl, Own.nil, Below.refl _ _⟩
  | succ n =>
    refine (Any8.slices_Grow_grow Tryz.growB i0 (.bool false) hi hz0 (by omega) none 0 0 (n + 1) [] w (by omega) (by omega) (by rw [hz2]; omega) (by omega) (by simp) (fun _ => rfl) (fun a ha => by cases ha)).mono ?_
    rintro e w' ⟨rfl, rfl⟩
    have h1 := grownCap_ge w (0 + (n + 1)) 0 (Tryz.growB_ren.t 25)
    have h2 := grownCap_le_maxLen w (0 + (n + 1)) 0 (Tryz.growB_ren.t 25) (by unfold maxLen; omega)
    have h3 : (Value.bool false).cells.size = 1 := rfl
    refine ⟨_, rfl, ⟨rfl, .inr ⟨w.heap.size, _, _, rfl, Nat.le_refl _, heap_alloc_new w.drew _, Nat.zero_le _, h2, ?_, by simp⟩⟩, below_alloc (Below.refl _ _).drew _⟩
    simp only [Array.size_append, size_zeroCells, h3]
    simp only [List.size_toArray, List.length_nil]
    omega

theorem arr_i64 {w w' : World} {X k : Nat} {v : Value} (h : w.cell? ⟨X, k, none⟩ = some v) (hb : Below w.heap.size w w') : w'.cell? ⟨X, k, none⟩ = some v := bel_cell hb h

set_option maxRecDepth 100000 in
set_option maxHeartbeats 4000000 in
theorem Concat_any (X : Nat) (A C : Option Addr) (cA cC : Nat) (a b : List Bool) (w : World) (h0 : w.cell? ⟨X, 0, none⟩ = some (.slice A a.length cA)) (h1 : w.cell? ⟨X, 1, none⟩ = some (.slice C b.length cC)) (hA : Arr 1 encB w w.heap.size A a) (hC : Arr 1 encB w w.heap.size C b) (nA : A = none → cA = 0) (nC : C = none → cC = 0) (la : a.length ≤ 65536) (lb : b.length ≤ 65536) :
    Calls Tryz.prog 68 #[.slice (some ⟨X, 0, none⟩) 2 2] w fun e w' => ∃ v, e = .returned v ∧ Own w' w.heap.size 4 1 encB v (a ++ b) ∧ Below w.heap.size w w' := by
  obtain ⟨i0, hi, hz0, hz1, hz2⟩ := info_parts bool_info3
  have Hi := Lib.hid hi; have Hz0 := Lib.hid hz0; have Hz1 := Lib.hid hz1; have Hz2 := Lib.hid hz2
  clear hi hz0 hz1 hz2
  have cG := Grow_any (a.length + b.length) w (by omega)
  go_enter Tryz.func68, Tryz.ntmps68
  go_wp2_with fail
  go_loop [3, 11] (fun sz i => (i = .int .i64 0 ∧ sz = .int .i64 0) ∨ (i = .int .i64 1 ∧ sz = .int .i64 (a.length : Nat)) ∨ (i = .int .i64 2 ∧ sz = .int .i64 ((a.length + b.length : Nat) : Int))) (fun _ i => 5 - (intOf i).toNat)
  case atStart => exact .inl ⟨rfl, rfl⟩
  case round =>
    rcases hrel with ⟨rfl, rfl⟩ | ⟨rfl, rfl⟩ | ⟨rfl, rfl⟩
    · go_wp2
      exact ⟨.inr (.inl ⟨rfl, by go_num⟩), by simp [intOf]⟩
    · go_wp2
      exact ⟨.inr (.inr ⟨rfl, by go_num⟩), by simp [intOf]⟩
    · go_wp2_with fail
      refine cG.mono ?_
      rintro e w1 ⟨v1, rfl, own1, hb1⟩
      clear cG
      go_wp2_with fail
      go_loopw [6, 27] (fun v i wr => ((i = .int .i64 0 ∧ Own wr w.heap.size 4 1 encB v []) ∨ (i = .int .i64 1 ∧ Own wr w.heap.size 4 1 encB v a) ∨ (i = .int .i64 2 ∧ Own wr w.heap.size 4 1 encB v (a ++ b))) ∧ Below w.heap.size w wr) (fun _ i _ => 5 - (intOf i).toNat)
      case atStart => exact ⟨.inl ⟨rfl, own1⟩, hb1⟩
      case round =>
        obtain ⟨hrel, hb⟩ := hrel
        obtain ⟨w6, rfl⟩ : ∃ w6, w6 = wr := ⟨_, rfl⟩
        have k0 := bel_cell hb h0
        have k1 := bel_cell hb h1
        have arA := hA.on hb
        have arC := hC.on hb
        have sz := hb.size
        have by1 : (([] : List Bool).length + a.length) * 1 ≤ 140737488355328 := by simp; omega
        have by2 : (a.length + b.length) * 1 ≤ 140737488355328 := by omega
        clear own1 hb1
        rcases hrel with ⟨rfl, own⟩ | ⟨rfl, own⟩ | ⟨rfl, own⟩
        · go_wp2_with (at_builtin; refine wpList_app rfl _ _ 22 rfl w.heap.size 4 i0 _ 1 1 Tryz.underlying22 Hi.out Hz0.out Hz1.out Hz2.out rfl (by decide) encB_len encB_one _ ([] : List Bool) a A cA w6.heap.size rfl own rfl arA nA by1 (by decide) sz ?_; intro v2 w2 own2 hb2; rw [List.nil_append] at own2)
          exact ⟨⟨.inr (.inl ⟨rfl, own2⟩), hb.trans hb2⟩, by simp [intOf]⟩
        · go_wp2_with (at_builtin; refine wpList_app rfl _ _ 22 rfl w.heap.size 4 i0 _ 1 1 Tryz.underlying22 Hi.out Hz0.out Hz1.out Hz2.out rfl (by decide) encB_len encB_one _ a b C cC w6.heap.size rfl own rfl arC nC by2 (by decide) sz ?_; intro v2 w2 own2 hb2)
          exact ⟨⟨.inr (.inr ⟨rfl, own2⟩), hb.trans hb2⟩, by simp [intOf]⟩
        · go_wp2_with fail
          go_ret
          exact ⟨_, rfl, own, hb⟩

/-- Other bits are laid into a pool. -/
theorem PoolAt.setB {w : World} {b nb mb W : Nat} {bits bits' : List Bool} {u : List Nat} {v : Value} {base : Nat} (h : PoolAt w b nb mb W bits u) (ho : Own w base 4 1 encB v bits') (hbm : mb < base) (hb : b < base) (hl : bits.length ≤ bits'.length) (hl2 : bits'.length ≤ 65536) : PoolAt (w.setCell ⟨b, 2, none⟩ v) b nb mb W bits' u := by
  have hg : w.grownBy (w.setCell ⟨b, 2, none⟩ v) (some b) := grown_setCell w b 2 v
  obtain ⟨A2, c2, rfl, l2, m2, n2, ar2⟩ := ho.form encB_len
  have hbase : ∀ a, A2 = some a → base ≤ a.block ∧ a.block < w.heap.size := fun a ha => by
    subst ha
    exact World.ownsRow.lt ho a.block rfl
  obtain ⟨A0, k0, hc2, _⟩ := h.c2
  have sz : (w.setCell ⟨b, 2, none⟩ (.slice A2 bits'.length c2)).heap.size = w.heap.size := by simp
  refine ⟨h.wd, ?_, ?_, ⟨A2, c2, World.cell?_setCell_same _ _ _ hc2, ?_, l2, m2, n2, fun a ha => ⟨by have := (hbase a ha).1; omega, by rw [sz]; exact (hbase a ha).2⟩⟩, ?_, h.us.kept hg (by simp; exact fun e => h.bm e.symm), h.bm, h.nm, hl2, h.un, fun x hx => Nat.lt_of_lt_of_le (h.ub x hx) (Nat.div_le_div_right hl), by rw [World.frozen?_setCell]; exact h.fr⟩
  · rw [World.cell?_setCell_other _ _ _ _ (by simp)]; exact h.c0
  · rw [World.cell?_setCell_other _ _ _ _ (by simp)]; exact h.c1
  · rw [sz]
    intro hne
    obtain ⟨b2, off, rfl, hlt, hc⟩ := ar2 hne
    have hb2 := (hbase _ rfl).1
    exact ⟨b2, off, rfl, hlt, fun i x hx j y hy => by rw [World.cell?_setCell_far _ _ _ _ (show b ≠ b2 by simp at hb2; omega)]; exact hc i x hx j y hy⟩
  · rw [World.cell?_setCell_other _ _ _ _ (by simp)]; exact h.d0

def reE (bits l : List Bool) : Int := if 65536 < bits.length + l.length then 4 else 0
set_option maxRecDepth 100000 in
set_option maxHeartbeats 4000000 in
theorem Refill_any (b nb mb W : Nat) (bits : List Bool) (u : List Nat) (M : Option Addr) (mc : Nat) (m : List Bool) (w : World) (h : PoolAt w b nb mb W bits u) (hM : Arr 1 encB w w.heap.size M m) (lm : m.length ≤ mc) (mm : mc ≤ maxLen) (nM : M = none → mc = 0) (l6 : m.length ≤ 100000) :
    Calls Tryz.prog 33 #[.pointer (some ⟨b, 0, none⟩), .slice M m.length mc] w fun e w' => e = .returned (.int .i64 (reE bits m)) ∧
      ((reE bits m ≠ 0 ∧ Below w.heap.size w w') ∨ (reE bits m = 0 ∧ PoolAt w' b nb mb W (bits ++ m) u ∧ w.grownBy w' (some b) ∧ ∀ A c, w'.cell? ⟨b, 2, none⟩ = some (.slice A (bits ++ m).length c) → ∀ a, A = some a → w.heap.size ≤ a.block)) := by
  have cV := pvalid_any b nb w h.c0
  have hP := Lib.hid h
  have hblt : b < w.heap.size := World.block_lt_of_cell? _ _ h.c0
  have hmlt := h.us.lt
  have hfr := h.fr
  obtain ⟨wd, c0, c1, ⟨A, c, c2, ar, l1, l2, l3, l4⟩, d0, us, bm, nm, bl, un, ub, fr⟩ := h
  have l2' := l2
  have mm' := mm
  unfold maxLen at l2' mm'
  have ml : m.length ≤ 9223372036854775807 := Nat.le_trans lm (Nat.le_trans mm (by decide))
  by_cases hbig : 65536 < bits.length + m.length
  · have e1 : reE bits m = 4 := by unfold reE; rw [if_pos hbig]
    rw [e1]
    have w1 : wrap64 ((bits.length : Int) + (m.length : Int)) = (bits.length : Int) + (m.length : Int) := IntWalk.wrap64_in _ (by omega)
    have d1 : decide (65536 < (bits.length : Int) + (m.length : Int)) = true := by simp; omega
    clear e1 c1 d0 us bm nm un ub wd ar l4 hbig fr
    go_enter Tryz.func33, Tryz.ntmps33
    go_wp2_with (go_at_call 37; refine (cV).mono ?_; rintro e w' ⟨rfl, rfl⟩)
    go_ret
    exact ⟨rfl, .inl ⟨by decide, Below.refl _ _⟩⟩
  · have e1 : reE bits m = 0 := by unfold reE; rw [if_neg hbig]
    rw [e1]
    have w1 : wrap64 ((bits.length : Int) + (m.length : Int)) = (bits.length : Int) + (m.length : Int) := IntWalk.wrap64_in _ (by omega)
    have d1 : decide (65536 < (bits.length : Int) + (m.length : Int)) = false := by simp; omega
    have lsum : (bits ++ m).length ≤ 65536 := by rw [List.length_append]; omega
    have LS := Lib.hid lsum
    have cC := fun X w' (hb : Below w.heap.size w w') (h0 : w'.cell? ⟨X, 0, none⟩ = some (.slice A bits.length c)) (h1 : w'.cell? ⟨X, 1, none⟩ = some (.slice M m.length mc)) => Concat_any X A M c mc bits m w' h0 h1 (ar.on hb) (hM.on hb) l3 nM (by omega) (by omega)
    clear e1 c1 d0 us bm nm un ub wd ar l4 hbig fr lsum
    go_enter Tryz.func33, Tryz.ntmps33
    go_wp2_with (go_at_call 37; refine (cV).mono ?_; rintro e w' ⟨rfl, rfl⟩)
    have q1 := below_alloc (Below.refl w.heap.size w) (.cells #[.slice A bits.length c, .slice M m.length mc] 22)
    refine (cC w.heap.size _ q1 (new_cell rfl) (new_cell rfl)).mono ?_
    rintro e w2 ⟨v, rfl, own, hb2⟩
    have q2 := below_trans q1 hb2
    have sz1 : (w.alloc (.cells #[.slice A bits.length c, .slice M m.length mc] 22)).heap.size = w.heap.size + 1 := by simp
    rw [sz1] at own
    have P2 := hP.out.on q2
    have f2 := P2.fr
    have k2 : w2.cell? ⟨b, 2, none⟩ = some (.slice A bits.length c) := bel_cell q2 c2
    have fin := P2.setB own (by omega) (by omega) (by rw [List.length_append]; omega) LS.out
    have sz2 := q2.size
    obtain ⟨Av, cv, hv, _, _, _, _⟩ := own.form encB_len
    subst hv
    rw [List.length_append] at fin
    go_wp2_with fail
    go_ret
    refine ⟨rfl, .inr ⟨trivial, fin, ?_, fun A' c' hc' a ha => ?_⟩⟩
    · exact grown_trans (below_any q2 (some b)) (grown_setCell w2 b 2 _)
    · rw [World.cell?_setCell_same _ _ _ k2] at hc'
      simp only [Option.some.injEq, Value.slice.injEq] at hc'
      obtain ⟨rfl, _⟩ := hc'
      subst ha
      have := (World.ownsRow.lt own a.block rfl).1
      omega

end Go.Proofs.YtpejoghdmkpfcaaGreatDoor
