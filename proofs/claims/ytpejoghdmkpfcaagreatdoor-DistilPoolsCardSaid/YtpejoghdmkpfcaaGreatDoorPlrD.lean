/- Contracts of the reference's pool: Copy, NewPool; and of the comparison of two lists of numbers. -/
import Derived.Test.YtpejoghdmkpfcaaGreatDoorPlrC
namespace Go.Proofs.YtpejoghdmkpfcaaGreatDoor
open Go.RowKit Go.Maps
set_option linter.unusedVariables false
set_option linter.unusedSimpArgs false

/-- 'append(out, xs...)' at a step of a region that draws its order: out is the call's own. -/
theorem step_appG {P : Program} {ops : Array Oper} {o : Oper} {a : Act} {K : Act → World → Prop} {Q : Exit → Act → World → Prop} {E : Prop} {W : World} (hgd : o.guard = none) (s x : Operand) (t : TypeId)
    (ho : o.op = .call { callee := .builtin .append, args := #[s, x], argTypes := #[t, t] })
    (base : Nat) (e : TypeId) (i : TypeInfo) (z : Value) (size bytes : Nat) (ht : P.underlying t = some (.slice e)) (hi : P.info? e = some i) (hz : i.zero = some z)
    (hsize : i.size = size) (hby : i.bytes = bytes) (hzs : z.cells.size = size) (hsz : 0 < size)
    {α : Type} {enc : α → List Value} (hs' : ∀ x, (enc x).length = size) (h1 : ∀ x, ∀ u ∈ enc x, u.oneCell' = true) (v : Value) (l : List α) (l2 : List α) (A : Option Addr) (c B : Nat) (hs : a.eval s = v) (hown : Own W base e size enc v l)
    (hx : a.eval x = .slice A l2.length c) (hA : Arr size enc W B A l2) (hnil : A = none → c = 0)
    (hbytes : (l.length + l2.length) * bytes ≤ 140737488355328) (hbp : 0 < bytes) (hbase : base ≤ W.heap.size)
    (h : ∀ v' w', Own w' base e size enc v' (l ++ l2) → W.grownBy w' v.ownBlock → At W v v' → K (a.put o.dst v') w') : if Region.wanted o (yielded ops a.tmps) = true then Oper.wp P o a W K Q else E := by
  have hw : Region.wanted o (yielded ops a.tmps) = true := by simp [Region.wanted, hgd]
  rw [if_pos hw]
  have h63 : l.length + l2.length ≤ maxLen := by
    have := Nat.le_mul_of_pos_right (l.length + l2.length) hbp
    unfold maxLen; omega
  have hgo : ∀ ad, A = some ad → (∀ j u, (l2.flatMap enc)[j]? = some u → W.cell? (ad.add j) = some u) → o.wp P a W K Q := by
    rintro ad rfl hnews
    obtain ⟨v', w', hr, h2, h3, _, h5⟩ := run_append_own_at (P := P) W base t o.type e i z size bytes ht hi hz hsize hby hzs hsz v l.length (l.flatMap enc) hown ad l2.length c (l2.flatMap enc) (flat_len hs' l2) hnews (fun u hu => by
      obtain ⟨y, _, hy⟩ := List.mem_flatMap.1 hu
      exact h1 y u hy) h63 hbytes hbase
    unfold Oper.wp execOp
    simp only [ho, resolve, invoke, builtin, Sem.run_bind, Sem.run_pure, Result.andThen_ok, List.map_toArray, List.map_cons, List.map_nil, hs, hx, hr]
    refine h v' w' (by unfold Own; rw [List.length_append, List.flatMap_append]; exact h2) h3 ?_
    rcases h5 with h5 | h5
    · exact .inl h5
    · exact .inr ⟨_, h5, Nat.le_refl _⟩
  cases l2 with
  | nil =>
    cases A with
    | none =>
      obtain rfl : c = 0 := hnil rfl
      have hrun := run_append_owned_none (P := P) (w := W) base t o.type e i size ht hi v l.length (l.flatMap enc) hown
      unfold Oper.wp execOp
      simp only [List.length_nil] at hx
      simp only [ho, resolve, invoke, builtin, Sem.run_bind, Sem.run_pure, Result.andThen_ok, List.map_toArray, List.map_cons, List.map_nil, hs, hx, hrun]
      exact h v W (by rw [List.append_nil]; exact hown) (grown_refl _ _) (.inl rfl)
    | some ad => exact hgo ad rfl (by simp)
  | cons y ys =>
    obtain ⟨b, off, rfl, _, hc⟩ := hA (by simp)
    exact hgo _ rfl (flat_cell hs' hsz hc)

/-- The reference's pool is laid anew. -/
theorem rp_new {y : World} {lo W : Nat} {vb vd : Value} {bits : List Bool} {d : List Nat} (wd : W = 8 ∨ W = 16 ∨ W = 32) (ob : Own y lo 4 1 encB vb bits) (od : Own y lo 3 1 encN vd d) (bd : Ap vb vd) (bl : bits.length ≤ 65536) (dl : d.length ≤ 65536) (hlo : lo ≤ y.heap.size) :
    RpAt (y.alloc (.cells #[.int .i64 W, vb, vd] 86)) lo y.heap.size W vb vd bits d := by
  have hal := below_alloc (Below.refl y.heap.size y) (.cells #[.int .i64 W, vb, vd] 86)
  have ne : ∀ {α : Type} {e z : Nat} {enc : α → List Value} {v : Value} {l : List α}, Own y lo e z enc v l → v.ownBlock ≠ some y.heap.size := fun ho hq => by
    have := (World.ownsRow.lt ho _ hq).2
    omega
  exact ⟨wd, heap_alloc_new y _, ob.below hal, od.below hal, ne ob, ne od, bd, hlo, bl, dl⟩

section
variable {lo q W : Nat} {vb vd : Value} {bits : List Bool} {d : List Nat}
set_option maxRecDepth 100000 in
set_option maxHeartbeats 16000000 in
theorem rCopy_any (w : World) (h : RpAt w lo q W vb vd bits d) : Calls Tryz.prog 52 #[.pointer (some ⟨q, 0, none⟩)] w fun e w' => ∃ q' vb' vd', e = .returned (.pointer (some ⟨q', 0, none⟩)) ∧ RpAt w' w.heap.size q' W vb' vd' bits d ∧ w.heap.size ≤ q' ∧ Below w.heap.size w w' := by
  obtain ⟨i0, hi, hz0, hz1, hz2⟩ := info_parts bool_info3
  have Hi := Lib.hid hi; have Hz0 := Lib.hid hz0; have Hz1 := Lib.hid hz1; have Hz2 := Lib.hid hz2
  obtain ⟨n0, ni, nz0, nz1, nz2⟩ := info_parts onc_int
  have Ni := Lib.hid ni; have Nz0 := Lib.hid nz0; have Nz1 := Lib.hid nz1; have Nz2 := Lib.hid nz2
  obtain ⟨A, c, hv, l1, l2, l3, ar⟩ := h.ob.form encB_len
  obtain ⟨C, e, hv', m1, m2, m3, ad⟩ := h.od.form encN_len
  have L0 := fun w' (hb : Below w.heap.size w w') => (h.on hb).c0
  have L1 := fun w' (hb : Below w.heap.size w w') => (h.on hb).c1
  have L2 := fun w' (hb : Below w.heap.size w w') => (h.on hb).c2
  rw [hv] at L1
  rw [hv'] at L2
  have WD := Lib.hid h.wd; have BL := Lib.hid h.bl; have DL := Lib.hid h.dl
  have by1 : (([] : List Bool).length + bits.length) * 1 ≤ 140737488355328 := by have := h.bl; simp; omega
  have by2 : (([] : List Nat).length + d.length) * 8 ≤ 140737488355328 := by have := h.dl; simp; omega
  clear hi hz0 hz1 hz2 ni nz0 nz1 nz2 h hv hv'
  go_enter Tryz.func52, Tryz.ntmps52
  go_wp2_with fail
  go_cut [2] (fun va wx => ∃ q' vb' vd', va = .pointer (some ⟨q', 0, none⟩) ∧ RpAt wx w.heap.size q' W vb' vd' bits d ∧ w.heap.size ≤ q' ∧ Below w.heap.size w wx)
  case first =>
    refine wp_region_held_drew (S := fun w' => Below w.heap.size w w') (by kernel_rfl) (Below.refl _ _).drew (fun hHeld => ?_)
    have B0 : Below w.heap.size w w.drew := (Below.refl _ _).drew
    (refine wpAnyH_take (i := 0) (v := ?_) rfl (by kernel_rfl) (by kernel_rfl) (by kernel_rfl) (fun _ _ _ h => h) (Or.inl ⟨by rfl, ?_⟩) (by assumption) ?_; rotate_left 1; (focus (intro wz hSz; (try dsimp only at hSz); go_simp; (try with_reducible rfl))); (try simp only [Act.put, List.setIfInBounds_toArray, List.set_cons_zero, List.set_cons_succ]))
    (try simp only [Act.put, List.getElem_toArray, List.getElem_cons_succ, List.getElem_cons_zero, List.setIfInBounds_toArray, List.set_cons_zero, List.set_cons_succ])
    (refine wpAnyH_take (i := 1) (v := ?_) rfl (by kernel_rfl) (by kernel_rfl) (by kernel_rfl) (fun _ _ _ h => h) (Or.inl ⟨by rfl, ?_⟩) (by assumption) ?_; rotate_left 1; (focus (intro wz hSz; (try dsimp only at hSz); go_simp; (try with_reducible rfl))); (try simp only [Act.put, List.setIfInBounds_toArray, List.set_cons_zero, List.set_cons_succ]))
    (try simp only [Act.put, List.getElem_toArray, List.getElem_cons_succ, List.getElem_cons_zero, List.setIfInBounds_toArray, List.set_cons_zero, List.set_cons_succ])
    (refine wpAnyH_take (i := 2) (v := ?_) rfl (by kernel_rfl) (by kernel_rfl) (by kernel_rfl) (fun _ _ _ h => h) (Or.inl ⟨by rfl, ?_⟩) (by assumption) ?_; rotate_left 1; (focus (intro wz hSz; (try dsimp only at hSz); go_simp; (try with_reducible rfl))); (try simp only [Act.put, List.setIfInBounds_toArray, List.set_cons_zero, List.set_cons_succ]))
    (try simp only [Act.put, List.getElem_toArray, List.getElem_cons_succ, List.getElem_cons_zero, List.setIfInBounds_toArray, List.set_cons_zero, List.set_cons_succ])
    (refine wpAnyH_take (i := 3) (v := ?_) rfl (by kernel_rfl) (by kernel_rfl) (by kernel_rfl) (fun _ _ _ h => h) (Or.inl ⟨by rfl, ?_⟩) (by assumption) ?_; rotate_left 1; (focus (intro wz hSz; (try dsimp only at hSz); go_simp; (try with_reducible rfl))); (try simp only [Act.put, List.setIfInBounds_toArray, List.set_cons_zero, List.set_cons_succ]))
    (try simp only [Act.put, List.getElem_toArray, List.getElem_cons_succ, List.getElem_cons_zero, List.setIfInBounds_toArray, List.set_cons_zero, List.set_cons_succ])
    (refine wpAnyH_take (i := 5) (v := ?_) rfl (by kernel_rfl) (by kernel_rfl) (by kernel_rfl) (fun _ _ _ h => h) (Or.inl ⟨by rfl, ?_⟩) (by assumption) ?_; rotate_left 1; (focus (intro wz hSz; (try dsimp only at hSz); go_simp; (try with_reducible rfl))); (try simp only [Act.put, List.setIfInBounds_toArray, List.set_cons_zero, List.set_cons_succ]))
    (try simp only [Act.put, List.getElem_toArray, List.getElem_cons_succ, List.getElem_cons_zero, List.setIfInBounds_toArray, List.set_cons_zero, List.set_cons_succ])
    (refine wpAnyH_take (i := 6) (v := ?_) rfl (by kernel_rfl) (by kernel_rfl) (by kernel_rfl) (fun _ _ _ h => h) (Or.inl ⟨by rfl, ?_⟩) (by assumption) ?_; rotate_left 1; (focus (intro wz hSz; (try dsimp only at hSz); go_simp; (try with_reducible rfl))); (try simp only [Act.put, List.setIfInBounds_toArray, List.set_cons_zero, List.set_cons_succ]))
    (try simp only [Act.put, List.getElem_toArray, List.getElem_cons_succ, List.getElem_cons_zero, List.setIfInBounds_toArray, List.set_cons_zero, List.set_cons_succ])
    (refine wpAnyH_take (i := 7) (v := ?_) rfl (by kernel_rfl) (by kernel_rfl) (by kernel_rfl) (fun _ _ _ h => h) (Or.inl ⟨by rfl, ?_⟩) (by assumption) ?_; rotate_left 1; (focus (intro wz hSz; (try dsimp only at hSz); go_simp; (try with_reducible rfl))); (try simp only [Act.put, List.setIfInBounds_toArray, List.set_cons_zero, List.set_cons_succ]))
    (try simp only [Act.put, List.getElem_toArray, List.getElem_cons_succ, List.getElem_cons_zero, List.setIfInBounds_toArray, List.set_cons_zero, List.set_cons_succ])
    (refine wpAnyH_take (i := 8) (v := ?_) rfl (by kernel_rfl) (by kernel_rfl) (by kernel_rfl) (fun _ _ _ h => h) (Or.inl ⟨by rfl, ?_⟩) (by assumption) ?_; rotate_left 1; (focus (intro wz hSz; (try dsimp only at hSz); go_simp; (try with_reducible rfl))); (try simp only [Act.put, List.setIfInBounds_toArray, List.set_cons_zero, List.set_cons_succ]))
    (try simp only [Act.put, List.getElem_toArray, List.getElem_cons_succ, List.getElem_cons_zero, List.setIfInBounds_toArray, List.set_cons_zero, List.set_cons_succ])
    (refine wpAnyH_take (i := 11) (v := ?_) rfl (by kernel_rfl) (by kernel_rfl) (by kernel_rfl) (fun _ _ _ h => h) (Or.inl ⟨by rfl, ?_⟩) (by assumption) ?_; rotate_left 1; (focus (intro wz hSz; (try dsimp only at hSz); go_simp; (try with_reducible rfl))); (try simp only [Act.put, List.setIfInBounds_toArray, List.set_cons_zero, List.set_cons_succ]))
    (try simp only [Act.put, List.getElem_toArray, List.getElem_cons_succ, List.getElem_cons_zero, List.setIfInBounds_toArray, List.set_cons_zero, List.set_cons_succ])
    (refine wpAnyH_take (i := 12) (v := ?_) rfl (by kernel_rfl) (by kernel_rfl) (by kernel_rfl) (fun _ _ _ h => h) (Or.inl ⟨by rfl, ?_⟩) (by assumption) ?_; rotate_left 1; (focus (intro wz hSz; (try dsimp only at hSz); go_simp; (try with_reducible rfl))); (try simp only [Act.put, List.setIfInBounds_toArray, List.set_cons_zero, List.set_cons_succ]))
    (try simp only [Act.put, List.getElem_toArray, List.getElem_cons_succ, List.getElem_cons_zero, List.setIfInBounds_toArray, List.set_cons_zero, List.set_cons_succ])
    (refine wpAnyH_take (i := 13) (v := ?_) rfl (by kernel_rfl) (by kernel_rfl) (by kernel_rfl) (fun _ _ _ h => h) (Or.inl ⟨by rfl, ?_⟩) (by assumption) ?_; rotate_left 1; (focus (intro wz hSz; (try dsimp only at hSz); go_simp; (try with_reducible rfl))); (try simp only [Act.put, List.setIfInBounds_toArray, List.set_cons_zero, List.set_cons_succ]))
    (try simp only [Act.put, List.getElem_toArray, List.getElem_cons_succ, List.getElem_cons_zero, List.setIfInBounds_toArray, List.set_cons_zero, List.set_cons_succ])
    (refine wpAnyH_take (i := 14) (v := ?_) rfl (by kernel_rfl) (by kernel_rfl) (by kernel_rfl) (fun _ _ _ h => h) (Or.inl ⟨by rfl, ?_⟩) (by assumption) ?_; rotate_left 1; (focus (intro wz hSz; (try dsimp only at hSz); go_simp; (try with_reducible rfl))); (try simp only [Act.put, List.setIfInBounds_toArray, List.set_cons_zero, List.set_cons_succ]))
    (try simp only [Act.put, List.getElem_toArray, List.getElem_cons_succ, List.getElem_cons_zero, List.setIfInBounds_toArray, List.set_cons_zero, List.set_cons_succ])
    refine wpAnyH_ready (rs := [4, 10]) (by kernel_rfl) (by simp) ?_
    refine AllReadyH.cons rfl (fun K1 hK1 => ?_) (AllReadyH.cons rfl (fun K2 hK2 => ?_) (AllReadyH.nil))
    · skip
      go_simp
      have B4 := below_alloc B0 (.cells #[] 4)
      have o5 := own_empty (α := Bool) (sz := 1) (enc := encB) w.drew w.heap.size 4 B0.size
      refine hK1.out _ _ B4 (fun hHeldK1 => ?_)
      clear hK1 K1
      (try simp only [Act.put, List.getElem_toArray, List.getElem_cons_succ, List.getElem_cons_zero, List.setIfInBounds_toArray, List.set_cons_zero, List.set_cons_succ])
      refine wpAnyH_ready (rs := [9, 10]) (by kernel_rfl) (by simp) ?_
      refine AllReadyH.cons rfl (fun K6 hK6 => ?_) (AllReadyH.cons rfl (fun K7 hK7 => ?_) (AllReadyH.nil))
      · skip
        refine step_appG rfl _ _ 22 rfl w.heap.size 4 i0 _ 1 1 Tryz.underlying22 Hi.out Hz0.out Hz1.out Hz2.out rfl (by decide) encB_len encB_one _ ([] : List Bool) bits A c _ rfl o5 rfl (ar.on B4) l3 by1 (by decide) B4.size ?_
        intro v10 y8 o11 hg12 hat13
        rw [List.nil_append] at o11
        have B9 := B4.grown hg12 B4.size (fun g hg => (World.ownsRow.lt o5 g hg).1)
        refine hK6.out _ _ B9 (fun hHeldK6 => ?_)
        clear hK6 K6
        (try simp only [Act.put, List.getElem_toArray, List.getElem_cons_succ, List.getElem_cons_zero, List.setIfInBounds_toArray, List.set_cons_zero, List.set_cons_succ])
        refine wpAnyH_ready (rs := [10]) (by kernel_rfl) (by simp) ?_
        refine AllReadyH.cons rfl (fun K14 hK14 => ?_) (AllReadyH.nil)
        · skip
          go_simp
          have B16 := below_alloc B9 (.cells #[] 3)
          have o17 := own_empty (α := Nat) (sz := 1) (enc := encN) y8 w.heap.size 3 B9.size
          have o18 := o11.below (below_alloc (Below.refl _ y8) (.cells #[] 3))
          have ap19 := (ap_low o11 (own_empty (α := Nat) (sz := 1) (enc := encN) y8 y8.heap.size 3 (Nat.le_refl _))).symm
          refine hK14.out _ _ B16 (fun hHeldK14 => ?_)
          clear hK14 K14
          (try simp only [Act.put, List.getElem_toArray, List.getElem_cons_succ, List.getElem_cons_zero, List.setIfInBounds_toArray, List.set_cons_zero, List.set_cons_succ])
          refine wpAnyH_ready (rs := [15]) (by kernel_rfl) (by simp) ?_
          refine AllReadyH.cons rfl (fun K20 hK20 => ?_) (AllReadyH.nil)
          · skip
            refine step_appG rfl _ _ 37 rfl w.heap.size 3 n0 _ 1 8 Tryz.underlying37 Ni.out Nz0.out Nz1.out Nz2.out rfl (by decide) encN_len encN_one _ ([] : List Nat) d C e _ rfl o17 rfl (ad.on B16) m3 by2 (by decide) B16.size ?_
            intro v23 y21 o24 hg25 hat26
            rw [List.nil_append] at o24
            have B22 := B16.grown hg25 B16.size (fun g hg => (World.ownsRow.lt o17 g hg).1)
            have o27 := own_new o18 ap19 hg25
            have ap28 := ap_new o18 ap19 hat26
            refine hK20.out _ _ B22 (fun hHeldK20 => ?_)
            clear hK20 K20
            (try simp only [Act.put, List.getElem_toArray, List.getElem_cons_succ, List.getElem_cons_zero, List.setIfInBounds_toArray, List.set_cons_zero, List.set_cons_succ])
            obtain ⟨Aa, ca, hva, _, _, _, _⟩ := o27.form encB_len
            obtain ⟨Ab, cb, hvb, _, _, _, _⟩ := o24.form encN_len
            have fin := rp_new WD.out o27 o24 ap28 BL.out DL.out B22.size
            have sf := B22.size
            subst hva hvb
            (refine wpAnyH_take (i := 16) (v := ?_) rfl (by kernel_rfl) (by kernel_rfl) (by kernel_rfl) (fun _ _ _ h => h) (Or.inl ⟨by rfl, ?_⟩) (by assumption) ?_; rotate_left 1; (focus (intro wz hSz; (try dsimp only at hSz); go_simp; (try with_reducible rfl))); (try simp only [Act.put, List.setIfInBounds_toArray, List.set_cons_zero, List.set_cons_succ]))
            (try simp only [Act.put, List.getElem_toArray, List.getElem_cons_succ, List.getElem_cons_zero, List.setIfInBounds_toArray, List.set_cons_zero, List.set_cons_succ])
            refine wpAnyH_ready (rs := [17]) (by kernel_rfl) (by simp) ?_
            refine AllReadyH.cons rfl (fun K9 hK9 => ?_) AllReadyH.nil
            go_simp
            refine hK9.out _ _ (below_alloc B22 _) (fun hHeldK9 => ?_)
            clear hK9 K9
            (try simp only [Act.put, List.getElem_toArray, List.getElem_cons_succ, List.getElem_cons_zero, List.setIfInBounds_toArray, List.set_cons_zero, List.set_cons_succ])
            (refine wpAnyH_take (i := 18) (v := ?_) rfl (by kernel_rfl) (by kernel_rfl) (by kernel_rfl) (fun _ _ _ h => h) (Or.inl ⟨by rfl, ?_⟩) (by assumption) ?_; rotate_left 1; (focus (intro wz hSz; (try dsimp only at hSz); go_simp; (try with_reducible rfl))); (try simp only [Act.put, List.setIfInBounds_toArray, List.set_cons_zero, List.set_cons_succ]))
            (try simp only [Act.put, List.getElem_toArray, List.getElem_cons_succ, List.getElem_cons_zero, List.setIfInBounds_toArray, List.set_cons_zero, List.set_cons_succ])
            refine wpAnyH_done (by kernel_rfl) ?_ _
            go_wp2_with fail
            go_meet
            case rel => exact ⟨_, _, _, rfl, fin, sf, below_alloc B22 _⟩
      · skip
        go_simp
        have B30 := below_alloc B4 (.cells #[] 3)
        have o31 := own_empty (α := Nat) (sz := 1) (enc := encN) (w.drew.alloc (.cells #[] 4)) w.heap.size 3 B4.size
        have o32 := o5.below (below_alloc (Below.refl _ (w.drew.alloc (.cells #[] 4))) (.cells #[] 3))
        have ap33 := (ap_low o5 (own_empty (α := Nat) (sz := 1) (enc := encN) (w.drew.alloc (.cells #[] 4)) (w.drew.alloc (.cells #[] 4)).heap.size 3 (Nat.le_refl _))).symm
        have hs34 : (w.drew.alloc (.cells #[] 4)).heap.size = w.heap.size + 1 := by simp
        rw [hs34] at o31 ap33
        refine hK7.out _ _ B30 (fun hHeldK7 => ?_)
        clear hK7 K7
        (try simp only [Act.put, List.getElem_toArray, List.getElem_cons_succ, List.getElem_cons_zero, List.setIfInBounds_toArray, List.set_cons_zero, List.set_cons_succ])
        refine wpAnyH_ready (rs := [9]) (by kernel_rfl) (by simp) ?_
        refine AllReadyH.cons rfl (fun K35 hK35 => ?_) (AllReadyH.nil)
        · skip
          refine step_appG rfl _ _ 22 rfl w.heap.size 4 i0 _ 1 1 Tryz.underlying22 Hi.out Hz0.out Hz1.out Hz2.out rfl (by decide) encB_len encB_one _ ([] : List Bool) bits A c _ rfl o32 rfl (ar.on B30) l3 by1 (by decide) B30.size ?_
          intro v38 y36 o39 hg40 hat41
          rw [List.nil_append] at o39
          have B37 := B30.grown hg40 B30.size (fun g hg => (World.ownsRow.lt o32 g hg).1)
          have o42 := own_new o31 ap33.symm hg40
          have ap43 := (ap_new o31 ap33.symm hat41).symm
          refine hK35.out _ _ B37 (fun hHeldK35 => ?_)
          clear hK35 K35
          (try simp only [Act.put, List.getElem_toArray, List.getElem_cons_succ, List.getElem_cons_zero, List.setIfInBounds_toArray, List.set_cons_zero, List.set_cons_succ])
          refine wpAnyH_ready (rs := [15]) (by kernel_rfl) (by simp) ?_
          refine AllReadyH.cons rfl (fun K44 hK44 => ?_) (AllReadyH.nil)
          · skip
            refine step_appG rfl _ _ 37 rfl w.heap.size 3 n0 _ 1 8 Tryz.underlying37 Ni.out Nz0.out Nz1.out Nz2.out rfl (by decide) encN_len encN_one _ ([] : List Nat) d C e _ rfl o42 rfl (ad.on B37) m3 by2 (by decide) B37.size ?_
            intro v47 y45 o48 hg49 hat50
            rw [List.nil_append] at o48
            have B46 := B37.grown hg49 B37.size (fun g hg => (World.ownsRow.lt o42 g hg).1)
            have o51 := own_new o39 ap43 hg49
            have ap52 := ap_new o39 ap43 hat50
            refine hK44.out _ _ B46 (fun hHeldK44 => ?_)
            clear hK44 K44
            (try simp only [Act.put, List.getElem_toArray, List.getElem_cons_succ, List.getElem_cons_zero, List.setIfInBounds_toArray, List.set_cons_zero, List.set_cons_succ])
            obtain ⟨Aa, ca, hva, _, _, _, _⟩ := o51.form encB_len
            obtain ⟨Ab, cb, hvb, _, _, _, _⟩ := o48.form encN_len
            have fin := rp_new WD.out o51 o48 ap52 BL.out DL.out B46.size
            have sf := B46.size
            subst hva hvb
            (refine wpAnyH_take (i := 16) (v := ?_) rfl (by kernel_rfl) (by kernel_rfl) (by kernel_rfl) (fun _ _ _ h => h) (Or.inl ⟨by rfl, ?_⟩) (by assumption) ?_; rotate_left 1; (focus (intro wz hSz; (try dsimp only at hSz); go_simp; (try with_reducible rfl))); (try simp only [Act.put, List.setIfInBounds_toArray, List.set_cons_zero, List.set_cons_succ]))
            (try simp only [Act.put, List.getElem_toArray, List.getElem_cons_succ, List.getElem_cons_zero, List.setIfInBounds_toArray, List.set_cons_zero, List.set_cons_succ])
            refine wpAnyH_ready (rs := [17]) (by kernel_rfl) (by simp) ?_
            refine AllReadyH.cons rfl (fun K9 hK9 => ?_) AllReadyH.nil
            go_simp
            refine hK9.out _ _ (below_alloc B46 _) (fun hHeldK9 => ?_)
            clear hK9 K9
            (try simp only [Act.put, List.getElem_toArray, List.getElem_cons_succ, List.getElem_cons_zero, List.setIfInBounds_toArray, List.set_cons_zero, List.set_cons_succ])
            (refine wpAnyH_take (i := 18) (v := ?_) rfl (by kernel_rfl) (by kernel_rfl) (by kernel_rfl) (fun _ _ _ h => h) (Or.inl ⟨by rfl, ?_⟩) (by assumption) ?_; rotate_left 1; (focus (intro wz hSz; (try dsimp only at hSz); go_simp; (try with_reducible rfl))); (try simp only [Act.put, List.setIfInBounds_toArray, List.set_cons_zero, List.set_cons_succ]))
            (try simp only [Act.put, List.getElem_toArray, List.getElem_cons_succ, List.getElem_cons_zero, List.setIfInBounds_toArray, List.set_cons_zero, List.set_cons_succ])
            refine wpAnyH_done (by kernel_rfl) ?_ _
            go_wp2_with fail
            go_meet
            case rel => exact ⟨_, _, _, rfl, fin, sf, below_alloc B46 _⟩
    · skip
      go_simp
      have B54 := below_alloc B0 (.cells #[] 3)
      have o55 := own_empty (α := Nat) (sz := 1) (enc := encN) w.drew w.heap.size 3 B0.size
      refine hK2.out _ _ B54 (fun hHeldK2 => ?_)
      clear hK2 K2
      (try simp only [Act.put, List.getElem_toArray, List.getElem_cons_succ, List.getElem_cons_zero, List.setIfInBounds_toArray, List.set_cons_zero, List.set_cons_succ])
      refine wpAnyH_ready (rs := [4]) (by kernel_rfl) (by simp) ?_
      refine AllReadyH.cons rfl (fun K56 hK56 => ?_) (AllReadyH.nil)
      · skip
        go_simp
        have B58 := below_alloc B54 (.cells #[] 4)
        have o59 := own_empty (α := Bool) (sz := 1) (enc := encB) (w.drew.alloc (.cells #[] 3)) w.heap.size 4 B54.size
        have o60 := o55.below (below_alloc (Below.refl _ (w.drew.alloc (.cells #[] 3))) (.cells #[] 4))
        have ap61 := ap_low o55 (own_empty (α := Bool) (sz := 1) (enc := encB) (w.drew.alloc (.cells #[] 3)) (w.drew.alloc (.cells #[] 3)).heap.size 4 (Nat.le_refl _))
        have hs62 : (w.drew.alloc (.cells #[] 3)).heap.size = w.heap.size + 1 := by simp
        rw [hs62] at o59 ap61
        refine hK56.out _ _ B58 (fun hHeldK56 => ?_)
        clear hK56 K56
        (try simp only [Act.put, List.getElem_toArray, List.getElem_cons_succ, List.getElem_cons_zero, List.setIfInBounds_toArray, List.set_cons_zero, List.set_cons_succ])
        refine wpAnyH_ready (rs := [9]) (by kernel_rfl) (by simp) ?_
        refine AllReadyH.cons rfl (fun K63 hK63 => ?_) (AllReadyH.nil)
        · skip
          refine step_appG rfl _ _ 22 rfl w.heap.size 4 i0 _ 1 1 Tryz.underlying22 Hi.out Hz0.out Hz1.out Hz2.out rfl (by decide) encB_len encB_one _ ([] : List Bool) bits A c _ rfl o59 rfl (ar.on B58) l3 by1 (by decide) B58.size ?_
          intro v66 y64 o67 hg68 hat69
          rw [List.nil_append] at o67
          have B65 := B58.grown hg68 B58.size (fun g hg => (World.ownsRow.lt o59 g hg).1)
          have o70 := own_new o60 ap61.symm hg68
          have ap71 := (ap_new o60 ap61.symm hat69).symm
          refine hK63.out _ _ B65 (fun hHeldK63 => ?_)
          clear hK63 K63
          (try simp only [Act.put, List.getElem_toArray, List.getElem_cons_succ, List.getElem_cons_zero, List.setIfInBounds_toArray, List.set_cons_zero, List.set_cons_succ])
          refine wpAnyH_ready (rs := [15]) (by kernel_rfl) (by simp) ?_
          refine AllReadyH.cons rfl (fun K72 hK72 => ?_) (AllReadyH.nil)
          · skip
            refine step_appG rfl _ _ 37 rfl w.heap.size 3 n0 _ 1 8 Tryz.underlying37 Ni.out Nz0.out Nz1.out Nz2.out rfl (by decide) encN_len encN_one _ ([] : List Nat) d C e _ rfl o70 rfl (ad.on B65) m3 by2 (by decide) B65.size ?_
            intro v75 y73 o76 hg77 hat78
            rw [List.nil_append] at o76
            have B74 := B65.grown hg77 B65.size (fun g hg => (World.ownsRow.lt o70 g hg).1)
            have o79 := own_new o67 ap71 hg77
            have ap80 := ap_new o67 ap71 hat78
            refine hK72.out _ _ B74 (fun hHeldK72 => ?_)
            clear hK72 K72
            (try simp only [Act.put, List.getElem_toArray, List.getElem_cons_succ, List.getElem_cons_zero, List.setIfInBounds_toArray, List.set_cons_zero, List.set_cons_succ])
            obtain ⟨Aa, ca, hva, _, _, _, _⟩ := o79.form encB_len
            obtain ⟨Ab, cb, hvb, _, _, _, _⟩ := o76.form encN_len
            have fin := rp_new WD.out o79 o76 ap80 BL.out DL.out B74.size
            have sf := B74.size
            subst hva hvb
            (refine wpAnyH_take (i := 16) (v := ?_) rfl (by kernel_rfl) (by kernel_rfl) (by kernel_rfl) (fun _ _ _ h => h) (Or.inl ⟨by rfl, ?_⟩) (by assumption) ?_; rotate_left 1; (focus (intro wz hSz; (try dsimp only at hSz); go_simp; (try with_reducible rfl))); (try simp only [Act.put, List.setIfInBounds_toArray, List.set_cons_zero, List.set_cons_succ]))
            (try simp only [Act.put, List.getElem_toArray, List.getElem_cons_succ, List.getElem_cons_zero, List.setIfInBounds_toArray, List.set_cons_zero, List.set_cons_succ])
            refine wpAnyH_ready (rs := [17]) (by kernel_rfl) (by simp) ?_
            refine AllReadyH.cons rfl (fun K9 hK9 => ?_) AllReadyH.nil
            go_simp
            refine hK9.out _ _ (below_alloc B74 _) (fun hHeldK9 => ?_)
            clear hK9 K9
            (try simp only [Act.put, List.getElem_toArray, List.getElem_cons_succ, List.getElem_cons_zero, List.setIfInBounds_toArray, List.set_cons_zero, List.set_cons_succ])
            (refine wpAnyH_take (i := 18) (v := ?_) rfl (by kernel_rfl) (by kernel_rfl) (by kernel_rfl) (fun _ _ _ h => h) (Or.inl ⟨by rfl, ?_⟩) (by assumption) ?_; rotate_left 1; (focus (intro wz hSz; (try dsimp only at hSz); go_simp; (try with_reducible rfl))); (try simp only [Act.put, List.setIfInBounds_toArray, List.set_cons_zero, List.set_cons_succ]))
            (try simp only [Act.put, List.getElem_toArray, List.getElem_cons_succ, List.getElem_cons_zero, List.setIfInBounds_toArray, List.set_cons_zero, List.set_cons_succ])
            refine wpAnyH_done (by kernel_rfl) ?_ _
            go_wp2_with fail
            go_meet
            case rel => exact ⟨_, _, _, rfl, fin, sf, below_alloc B74 _⟩
  obtain ⟨q', vb', vd', rfl, h1, h2, h3⟩ := hcut
  go_wp2_with fail
  go_ret
  exact ⟨q', vb', vd', rfl, h1, h2, h3⟩

set_option maxRecDepth 100000 in
set_option maxHeartbeats 2000000 in
theorem rNewPool_any (n : Nat) (wd : n = 8 ∨ n = 16 ∨ n = 32) (A : Option Addr) (c : Nat) (l : List Bool) (w : World) (hA : Arr 1 encB w w.heap.size A l) (nA : A = none → c = 0) (hl : l.length ≤ 65536) :
    Calls Tryz.prog 17 #[.int .i64 n, .slice A l.length c] w fun e w' => ∃ q vb, e = .returned (.tuple #[.pointer (some ⟨q, 0, none⟩), .int .i64 0]) ∧ RpAt w' w.heap.size q n vb (.slice none 0 0) l [] ∧ Below w.heap.size w w' := by
  have cW := fun w' => Width_any (n : Int) w'
  have hB : wdB (n : Int) = true := by rcases wd with rfl | rfl | rfl <;> decide
  rw [hB] at cW
  obtain ⟨i0, hi, hz0, hz1, hz2⟩ := info_parts bool_info3
  have Hi := Lib.hid hi; have Hz0 := Lib.hid hz0; have Hz1 := Lib.hid hz1; have Hz2 := Lib.hid hz2
  have by1 : (([] : List Bool).length + l.length) * 1 ≤ 140737488355328 := by simp; omega
  have oe := own_empty (α := Bool) (sz := 1) (enc := encB) w w.heap.size 4 (Nat.le_refl _)
  have qe := below_alloc (Below.refl w.heap.size w) (.cells #[] 4)
  have are := hA.on qe
  have sze := qe.size
  have WD := Lib.hid wd
  have dl : decide (65536 < (l.length : Int)) = false := by simp; omega
  clear hi hz0 hz1 hz2 wd hB
  go_enter Tryz.func17, Tryz.ntmps17
  go_wp2_with (first
    | (go_at_call 46; refine (cW _).mono ?_; rintro e w' ⟨rfl, rfl⟩)
    | (at_builtin; refine wpList_app rfl _ _ 22 rfl w.heap.size 4 i0 _ 1 1 Tryz.underlying22 Hi.out Hz0.out Hz1.out Hz2.out rfl (by decide) encB_len encB_one _ ([] : List Bool) l A c _ rfl oe rfl are nA by1 (by decide) sze ?_; intro v2 w2 own2 hb2; rw [List.nil_append] at own2; have q2 := qe.trans hb2; have fin := rp_new WD.out own2 (Own.nil (enc := encN)) (.inl rfl |> Ap.symm) hl (by simp) q2.size; obtain ⟨A3, c3, hv3, _, _, _, _⟩ := own2.form encB_len; subst hv3))
  go_ret2
  exact ⟨_, _, rfl, fin, below_alloc q2 _⟩

set_option maxHeartbeats 2000000 in
theorem NewPool_bad (W : Int) (h : wdB W = false) (A : Option Addr) (c n : Nat) (w : World) : Calls Tryz.prog 9 #[.int .i64 W, .slice A n c] w fun e w' => e = .returned (.tuple #[.pointer none, .int .i64 2]) ∧ Below w.heap.size w w' := by
  rcases wd_cases W with ⟨n, rfl, hn, hB⟩ | ⟨hB, h8, h16, h32⟩
  · rw [hB] at h; cases h
  have e8 : (W != 8) = true := by simpa using h8
  have e16 : (W != 16) = true := by simpa using h16
  have e32 : (W != 32) = true := by simpa using h32
  clear h h8 h16 h32 hB
  go_enter Tryz.func9, Tryz.ntmps9
  go_wp2
  go_ret2
  exact ⟨rfl, Below.refl _ _⟩
set_option maxHeartbeats 2000000 in
theorem rNewPool_bad (W : Int) (h : wdB W = false) (A : Option Addr) (c n : Nat) (w : World) : Calls Tryz.prog 17 #[.int .i64 W, .slice A n c] w fun e w' => e = .returned (.tuple #[.pointer none, .int .i64 2]) ∧ Below w.heap.size w w' := by
  have cW := fun w' => Width_any W w'
  rw [h] at cW
  go_enter Tryz.func17, Tryz.ntmps17
  go_wp2_with (go_at_call 46; refine (cW _).mono ?_; rintro e w' ⟨rfl, rfl⟩)
  go_ret2
  exact ⟨rfl, Below.refl _ _⟩
set_option maxRecDepth 100000 in
set_option maxHeartbeats 2000000 in
theorem ints_same (A B : Option Addr) (c e : Nat) (l : List Int) (w : World) (hA : Arr 1 encI w w.heap.size A l) (hB : Arr 1 encI w w.heap.size B l) (hl : l.length ≤ 65536) :
    Calls Tryz.prog 22 #[.slice A l.length c, .slice B l.length e] w fun e w' => e = .returned (.bool true) ∧ Below w.heap.size w w' := by
  go_enter Tryz.func22, Tryz.ntmps22
  go_wp2_with fail
  go_loopw [5] (fun i wr => ∃ k : Nat, k ≤ l.length ∧ i = .int .i64 k ∧ Below w.heap.size w wr) (fun i _ => l.length + 1 - (intOf i).toNat)
  case atStart => exact ⟨0, Nat.zero_le _, rfl, Below.refl _ _⟩
  case round =>
    obtain ⟨k, hk, rfl, hb⟩ := hrel
    obtain ⟨w6, rfl⟩ : ∃ w6, w6 = wr := ⟨_, rfl⟩
    rcases Nat.lt_or_ge k l.length with hlt | hge
    · obtain ⟨b, o, x, rfl, _, hx, cx⟩ := hA.int hlt hb
      obtain ⟨b', o', y, rfl, _, hy, cy⟩ := hB.int hlt hb
      obtain rfl : x = y := Option.some.inj (hx.out.symm.trans hy.out)
      go_wp2_with fail
      go_quiet (fail)
      go_wp2_with fail
      exact ⟨⟨k + 1, by omega, by go_num, hb.trans ((below_dn1 _ _).mono hb.size)⟩, by simp [intOf]; omega⟩
    · have hkl : k = l.length := by omega
      subst hkl
      go_wp2_with fail
      go_ret
      exact ⟨rfl, hb⟩
end

end Go.Proofs.YtpejoghdmkpfcaaGreatDoor
