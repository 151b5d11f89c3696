/- Contracts of a pool's copy, and of the list of its used numbers. For pools of the width 8, 16 or 32. -/
import Derived.Shelf.SlIterI.Nil
import Derived.Shelf.SlMaps.Clone
import Derived.Shelf.SortM.Plain
import Derived.Shelf.SortM.SortNone
import Derived.Ground.GgzProg
import Derived.Ground.SlgmProg
import Derived.Ground.SlmcProg
import Derived.Test.YtpejoghdmkpfcaaGreatDoorPolAll
import Derived.Test.YtpejoghdmkpfcaaGreatDoorShelfG
namespace Go.Proofs.YtpejoghdmkpfcaaGreatDoor
open Go.RowKit Go.Maps Go.Sort Go.Shelf
set_option linter.unusedVariables false
set_option linter.unusedSimpArgs false

theorem mclone_any (mb : Nat) (u : List Nat) (w : World) (h : Usd w mb u) : Calls Tryz.prog 38 #[.map (some mb)] w fun e w' => ∃ M, e = .returned (.map (some M)) ∧ w.heap.size ≤ M ∧ Usd w' M u ∧ Below w.heap.size w w' := by
  obtain ⟨D, own, tidy, hhas⟩ := h
  refine (AnyW.maps_Clone_owns Tryz.cloneM 3 _ mb u.length D w own).mono ?_
  rintro e w' ⟨rfl, o1, _, hb⟩
  exact ⟨_, rfl, Nat.le_refl _, ⟨D, o1, tidy, hhas⟩, hb⟩

theorem sortsA (m : Nat) : AnyZI.SortsIn Tryz.prog Tryz.sortedA_ren Fence.wide m :=
  ⟨fun blk off cap ss W hH hblk hsz => callsIn_wide.2 (AnyM.slices_Sort_int Tryz.sortA blk off cap ss W hH hblk hsz),
   fun p cap W => callsIn_wide.2 (AnyM.slices_Sort_int_none Tryz.sortA p cap W)⟩
/-- The used numbers, ascending. -/
def usedS (u : List Nat) : List Int := (u.map fun n : Nat => (n : Int)).mergeSort (fun x y => decide (x ≤ y))
theorem flat_encZ (l : List Int) : l.flatMap encI = l.map encZ := by
  induction l with
  | nil => rfl
  | cons x l ih => rw [List.flatMap_cons, ih]; rfl

set_option maxRecDepth 100000 in
set_option maxHeartbeats 2000000 in
theorem nUsed_any (nb mb : Nat) (u : List Nat) (w : World) (d0 : w.cell? ⟨nb, 0, none⟩ = some (.map (some mb))) (us : Usd w mb u) (un : u.Nodup) (ul : u.length ≤ 65536) :
    Calls Tryz.prog 42 #[.pointer (some ⟨nb, 0, none⟩)] w fun e w' => ∃ v, e = .returned v ∧ Own w' w.heap.size 3 1 encI v (usedS u) ∧ Below w.heap.size w w' := by
  obtain ⟨D, own, tidy, hhas⟩ := us
  have hpm : (u.map fun n : Nat => (n : Int)).Perm (intKeys D) := CollectedI.perm (D0 := D) (left := fun _ => false) ⟨List.pairwise_map.2 (un.imp fun h e => h (by exact_mod_cast e)), fun x => by
    rw [hhas x]; simp⟩ own key_int Tryz.underlying3 (fun _ => rfl)
  have hsz : Maps.size D ≤ 65536 := Nat.le_trans own.size_le ul
  have hmax : Maps.size D ≤ maxLen := by unfold maxLen; omega
  have hbytes : Maps.size D * 8 ≤ 140737488355328 := by omega
  refine (callsIn_wide (n := 6)).1 ?_
  have hbl := own.lt
  have hseq : SeqGives Fence.wide 2 Tryz.prog 92 #[.pointer (some ⟨w.heap.size, 0, none⟩)] encZ (fun ss => ss.Perm (intKeys D)) (Maps.size D) (w.alloc (.cells #[.map (some mb)] 72)) :=
    AnyZI.keys_gives (ρ := Tryz.keysA_ren) { Tryz.keysA with } Fence.wide _ trivial rfl (by omega) w.heap.size mb u.length D _ (by simp) (by simp) (by
      obtain ⟨es, clock, hb, Ft, hs, hD⟩ := own
      exact ⟨es, clock, (Below.heap_alloc _ _ mb hbl).trans hb, Ft, hs, hD⟩)
  have cK : ∀ m W, CallsIn Fence.wide 5 Tryz.prog 73 #[.map m] W fun e w' => e = .returned (.func (.func 92) #[] #[.pointer (some ⟨W.heap.size, 0, none⟩)]) ∧ w' = W.alloc (.cells #[.map m] 72) := fun m W => AnyZI.keys_in Tryz.keysA Fence.wide 5 trivial rfl m W
  have cS := AnyZI.sorted_in Tryz.sortedA Fence.wide 5 trivial trivial trivial trivial rfl (by omega) (sortsA _) (enters_of Tryz.func91 (by kernel_rfl) rfl) 92 #[.pointer (some ⟨w.heap.size, 0, none⟩)] trivial (enters_of Tryz.func92 (by kernel_rfl) rfl) _ _ hmax hbytes _ hseq
  change CallsIn _ _ Tryz.prog 72 _ _ _ at cS
  have hfK : Fence.wide.fn 73 := trivial
  have hfS : Fence.wide.fn 72 := trivial
  have HP := Lib.hid hpm
  clear hpm hseq hhas tidy hsz hmax hbytes un
  refine callsIn_of_wp Tryz.func42 rfl trivial ?_ rfl
  simp only [Tryz.ntmps42, List.size_toArray, List.length_cons, List.length_nil, Nat.reduceAdd, Nat.reduceSub, Array.replicate_succ, Array.replicate_zero, List.push_toArray, List.append_toArray, List.nil_append, List.cons_append]
  gi_wp2_with (first
    | (gi_at_call 73; refine (cK _ _).mono ?_; rintro e w' ⟨rfl, rfl⟩)
    | (gi_at_call 72; refine cS.mono ?_; rintro e w' ⟨v, ss, rfl, hS, hrow, hnil, hb⟩))
  go_ret
  refine ⟨v, rfl, ?_, ((Below.refl _ w).alloc (Nat.le_refl _) _).trans (hb.mono (by simp))⟩
  have hr := ownsRow_base_a hrow (show w.heap.size ≤ _ by simp)
  have e : ss.mergeSort (fun x y => decide (x ≤ y)) = usedS u := mergeSort_of_perm_i (hS.trans HP.out.symm)
  unfold Own
  rw [flat_encZ, ← e, List.length_mergeSort]
  exact hr

/-- A pool is laid anew. -/
theorem pool_new {y : World} {mb nb base w0 W : Nat} {u : List Nat} {bits : List Bool} {v : Value} (wd : W = 8 ∨ W = 16 ∨ W = 32) (hu : Usd y mb u) (hd : y.cell? ⟨nb, 0, none⟩ = some (.map (some mb))) (hv : Own y base 4 1 encB v bits) (ne : ∀ g, v.ownBlock = some g → g ≠ mb) (nm : nb ≠ mb)
    (bl : bits.length ≤ 65536) (un : u.Nodup) (ub : ∀ x ∈ u, x < bits.length / (2 * W)) (h1 : w0 ≤ base) (h2 : w0 ≤ nb) (h3 : w0 ≤ mb) (h4 : w0 ≤ y.heap.size) :
    PoolAt (y.alloc (.cells #[.pointer (some ⟨nb, 0, none⟩), .int .i64 W, v] 77)) y.heap.size nb mb W bits u ∧ (∀ A' c', (y.alloc (.cells #[.pointer (some ⟨nb, 0, none⟩), .int .i64 W, v] 77)).cell? ⟨y.heap.size, 2, none⟩ = some (.slice A' bits.length c') → ∀ a, A' = some a → w0 ≤ a.block) := by
  have hal := below_alloc (Below.refl y.heap.size y) (.cells #[.pointer (some ⟨nb, 0, none⟩), .int .i64 W, v] 77)
  have hml := hu.lt
  obtain ⟨A2, c2, rfl, l2, m2, n2, ar2⟩ := hv.form encB_len
  have hbase : ∀ a, A2 = some a → base ≤ a.block ∧ a.block < y.heap.size ∧ a.block ≠ mb := fun a ha => by
    subst ha
    have := World.ownsRow.lt hv a.block rfl
    exact ⟨this.1, this.2, ne _ rfl⟩
  refine ⟨⟨wd, new_cell rfl, new_cell rfl, ⟨A2, c2, new_cell rfl, ar2.on hal, l2, m2, n2, fun a ha => ⟨(hbase a ha).2.2, by have := (hbase a ha).2.1; simp; omega⟩⟩, bel_cell hal hd, hu.kept (grown_of_below hal) (by simp), by omega, nm, bl, un, ub, frozen_of_row _ _ _ _ _ (heap_alloc_new _ _)⟩, ?_⟩
  intro A' c' hc' a ha
  rw [new_cell (j := 2) rfl] at hc'
  cases hc'
  have := hbase a ha
  omega
theorem num_new (y : World) (mb : Nat) : (y.alloc (.cells #[.map (some mb)] 74)).cell? ⟨y.heap.size, 0, none⟩ = some (.map (some mb)) := new_cell rfl

set_option maxRecDepth 100000 in
set_option maxHeartbeats 8000000 in
theorem Copy_any (b nb mb W : Nat) (bits : List Bool) (u : List Nat) (w : World) (h : PoolAt w b nb mb W bits u) :
    Calls Tryz.prog 11 #[.pointer (some ⟨b, 0, none⟩)] w fun e w' => ∃ b' nb' mb', e = .returned (.pointer (some ⟨b', 0, none⟩)) ∧ PoolAt w' b' nb' mb' W bits u ∧ w.heap.size ≤ b' ∧ w.heap.size ≤ nb' ∧ w.heap.size ≤ mb' ∧ (∀ A' c', w'.cell? ⟨b', 2, none⟩ = some (.slice A' bits.length c') → ∀ a, A' = some a → w.heap.size ≤ a.block) ∧ Below w.heap.size w w' := by
  have cV := pvalid_any b nb w h.c0
  obtain ⟨wd, c0, c1, ⟨A, c, c2, ar, l1, l2, l3, l4⟩, d0, us, bm, nm, bl, un, ub⟩ := h
  have WD := Lib.hid wd; have UN := Lib.hid un; have UB := Lib.hid ub; have BL := Lib.hid bl
  have cM := fun w' (hb : Below w.heap.size w w') => mclone_any mb u w' (us.kept (grown_of_below hb) (by simp))
  have cC := fun w' (hb : Below w.heap.size w w') => Clone_any A c bits w' (ar.on hb) l3 l1 l2 (by omega)
  have L0 := fun w' (hb : Below w.heap.size w w') => bel_cell hb c0
  have L1 := fun w' (hb : Below w.heap.size w w') => bel_cell hb c1
  have L2 := fun w' (hb : Below w.heap.size w w') => bel_cell hb c2
  have L3 := fun w' (hb : Below w.heap.size w w') => bel_cell hb d0
  clear c0 c1 c2 d0 ar us wd un ub bl l1 l2 l3 l4 bm nm
  go_enter Tryz.func11, Tryz.ntmps11
  go_wp2_with (go_at_call 37; refine (cV).mono ?_; rintro e w' ⟨rfl, rfl⟩)
  go_cut [2] (fun va wx => ∃ b' nb' mb', va = .pointer (some ⟨b', 0, none⟩) ∧ PoolAt wx b' nb' mb' W bits u ∧ w.heap.size ≤ b' ∧ w.heap.size ≤ nb' ∧ w.heap.size ≤ mb' ∧ (∀ A' c', wx.cell? ⟨b', 2, none⟩ = some (.slice A' bits.length c') → ∀ a, A' = some a → w.heap.size ≤ a.block) ∧ Below w.heap.size w wx)
  case first =>
    clear cV
    refine wp_region_held_drew (S := fun w' => Below w.heap.size w w') (by kernel_rfl) (Below.refl _ _).drew (fun hHeld => ?_)
    have B0 : Below w.heap.size w w.drew := (Below.refl _ _).drew
    (refine wpAnyH_take (i := 0) (v := ?_) rfl (by kernel_rfl) (by kernel_rfl) (by kernel_rfl) (fun _ _ _ h => h) (Or.inl ⟨by rfl, ?_⟩) (by assumption) ?_; rotate_left 1; (focus (intro wz hSz; (try dsimp only at hSz); go_simp; (try with_reducible rfl))); (try simp only [Act.put, List.setIfInBounds_toArray, List.set_cons_zero, List.set_cons_succ]))
    (try simp only [Act.put, List.getElem_toArray, List.getElem_cons_succ, List.getElem_cons_zero, List.setIfInBounds_toArray, List.set_cons_zero, List.set_cons_succ])
    (refine wpAnyH_take (i := 1) (v := ?_) rfl (by kernel_rfl) (by kernel_rfl) (by kernel_rfl) (fun _ _ _ h => h) (Or.inl ⟨by rfl, ?_⟩) (by assumption) ?_; rotate_left 1; (focus (intro wz hSz; (try dsimp only at hSz); go_simp; (try with_reducible rfl))); (try simp only [Act.put, List.setIfInBounds_toArray, List.set_cons_zero, List.set_cons_succ]))
    (try simp only [Act.put, List.getElem_toArray, List.getElem_cons_succ, List.getElem_cons_zero, List.setIfInBounds_toArray, List.set_cons_zero, List.set_cons_succ])
    (refine wpAnyH_take (i := 2) (v := ?_) rfl (by kernel_rfl) (by kernel_rfl) (by kernel_rfl) (fun _ _ _ h => h) (Or.inl ⟨by rfl, ?_⟩) (by assumption) ?_; rotate_left 1; (focus (intro wz hSz; (try dsimp only at hSz); go_simp; (try with_reducible rfl))); (try simp only [Act.put, List.setIfInBounds_toArray, List.set_cons_zero, List.set_cons_succ]))
    (try simp only [Act.put, List.getElem_toArray, List.getElem_cons_succ, List.getElem_cons_zero, List.setIfInBounds_toArray, List.set_cons_zero, List.set_cons_succ])
    (refine wpAnyH_take (i := 3) (v := ?_) rfl (by kernel_rfl) (by kernel_rfl) (by kernel_rfl) (fun _ _ _ h => h) (Or.inl ⟨by rfl, ?_⟩) (by assumption) ?_; rotate_left 1; (focus (intro wz hSz; (try dsimp only at hSz); go_simp; (try with_reducible rfl))); (try simp only [Act.put, List.setIfInBounds_toArray, List.set_cons_zero, List.set_cons_succ]))
    (try simp only [Act.put, List.getElem_toArray, List.getElem_cons_succ, List.getElem_cons_zero, List.setIfInBounds_toArray, List.set_cons_zero, List.set_cons_succ])
    (refine wpAnyH_take (i := 4) (v := ?_) rfl (by kernel_rfl) (by kernel_rfl) (by kernel_rfl) (fun _ _ _ h => h) (Or.inl ⟨by rfl, ?_⟩) (by assumption) ?_; rotate_left 1; (focus (intro wz hSz; (try dsimp only at hSz); go_simp; (try with_reducible rfl))); (try simp only [Act.put, List.setIfInBounds_toArray, List.set_cons_zero, List.set_cons_succ]))
    (try simp only [Act.put, List.getElem_toArray, List.getElem_cons_succ, List.getElem_cons_zero, List.setIfInBounds_toArray, List.set_cons_zero, List.set_cons_succ])
    (refine wpAnyH_take (i := 5) (v := ?_) rfl (by kernel_rfl) (by kernel_rfl) (by kernel_rfl) (fun _ _ _ h => h) (Or.inl ⟨by rfl, ?_⟩) (by assumption) ?_; rotate_left 1; (focus (intro wz hSz; (try dsimp only at hSz); go_simp; (try with_reducible rfl))); (try simp only [Act.put, List.setIfInBounds_toArray, List.set_cons_zero, List.set_cons_succ]))
    (try simp only [Act.put, List.getElem_toArray, List.getElem_cons_succ, List.getElem_cons_zero, List.setIfInBounds_toArray, List.set_cons_zero, List.set_cons_succ])
    (refine wpAnyH_take (i := 6) (v := ?_) rfl (by kernel_rfl) (by kernel_rfl) (by kernel_rfl) (fun _ _ _ h => h) (Or.inl ⟨by rfl, ?_⟩) (by assumption) ?_; rotate_left 1; (focus (intro wz hSz; (try dsimp only at hSz); go_simp; (try with_reducible rfl))); (try simp only [Act.put, List.setIfInBounds_toArray, List.set_cons_zero, List.set_cons_succ]))
    (try simp only [Act.put, List.getElem_toArray, List.getElem_cons_succ, List.getElem_cons_zero, List.setIfInBounds_toArray, List.set_cons_zero, List.set_cons_succ])
    (refine wpAnyH_take (i := 10) (v := ?_) rfl (by kernel_rfl) (by kernel_rfl) (by kernel_rfl) (fun _ _ _ h => h) (Or.inl ⟨by rfl, ?_⟩) (by assumption) ?_; rotate_left 1; (focus (intro wz hSz; (try dsimp only at hSz); go_simp; (try with_reducible rfl))); (try simp only [Act.put, List.setIfInBounds_toArray, List.set_cons_zero, List.set_cons_succ]))
    (try simp only [Act.put, List.getElem_toArray, List.getElem_cons_succ, List.getElem_cons_zero, List.setIfInBounds_toArray, List.set_cons_zero, List.set_cons_succ])
    (refine wpAnyH_take (i := 11) (v := ?_) rfl (by kernel_rfl) (by kernel_rfl) (by kernel_rfl) (fun _ _ _ h => h) (Or.inl ⟨by rfl, ?_⟩) (by assumption) ?_; rotate_left 1; (focus (intro wz hSz; (try dsimp only at hSz); go_simp; (try with_reducible rfl))); (try simp only [Act.put, List.setIfInBounds_toArray, List.set_cons_zero, List.set_cons_succ]))
    (try simp only [Act.put, List.getElem_toArray, List.getElem_cons_succ, List.getElem_cons_zero, List.setIfInBounds_toArray, List.set_cons_zero, List.set_cons_succ])
    (refine wpAnyH_take (i := 12) (v := ?_) rfl (by kernel_rfl) (by kernel_rfl) (by kernel_rfl) (fun _ _ _ h => h) (Or.inl ⟨by rfl, ?_⟩) (by assumption) ?_; rotate_left 1; (focus (intro wz hSz; (try dsimp only at hSz); go_simp; (try with_reducible rfl))); (try simp only [Act.put, List.setIfInBounds_toArray, List.set_cons_zero, List.set_cons_succ]))
    (try simp only [Act.put, List.getElem_toArray, List.getElem_cons_succ, List.getElem_cons_zero, List.setIfInBounds_toArray, List.set_cons_zero, List.set_cons_succ])
    (refine wpAnyH_take (i := 13) (v := ?_) rfl (by kernel_rfl) (by kernel_rfl) (by kernel_rfl) (fun _ _ _ h => h) (Or.inl ⟨by rfl, ?_⟩) (by assumption) ?_; rotate_left 1; (focus (intro wz hSz; (try dsimp only at hSz); go_simp; (try with_reducible rfl))); (try simp only [Act.put, List.setIfInBounds_toArray, List.set_cons_zero, List.set_cons_succ]))
    (try simp only [Act.put, List.getElem_toArray, List.getElem_cons_succ, List.getElem_cons_zero, List.setIfInBounds_toArray, List.set_cons_zero, List.set_cons_succ])
    (refine wpAnyH_take (i := 14) (v := ?_) rfl (by kernel_rfl) (by kernel_rfl) (by kernel_rfl) (fun _ _ _ h => h) (Or.inl ⟨by rfl, ?_⟩) (by assumption) ?_; rotate_left 1; (focus (intro wz hSz; (try dsimp only at hSz); go_simp; (try with_reducible rfl))); (try simp only [Act.put, List.setIfInBounds_toArray, List.set_cons_zero, List.set_cons_succ]))
    (try simp only [Act.put, List.getElem_toArray, List.getElem_cons_succ, List.getElem_cons_zero, List.setIfInBounds_toArray, List.set_cons_zero, List.set_cons_succ])
    (refine wpAnyH_take (i := 15) (v := ?_) rfl (by kernel_rfl) (by kernel_rfl) (by kernel_rfl) (fun _ _ _ h => h) (Or.inl ⟨by rfl, ?_⟩) (by assumption) ?_; rotate_left 1; (focus (intro wz hSz; (try dsimp only at hSz); go_simp; (try with_reducible rfl))); (try simp only [Act.put, List.setIfInBounds_toArray, List.set_cons_zero, List.set_cons_succ]))
    (try simp only [Act.put, List.getElem_toArray, List.getElem_cons_succ, List.getElem_cons_zero, List.setIfInBounds_toArray, List.set_cons_zero, List.set_cons_succ])
    (refine wpAnyH_take (i := 16) (v := ?_) rfl (by kernel_rfl) (by kernel_rfl) (by kernel_rfl) (fun _ _ _ h => h) (Or.inl ⟨by rfl, ?_⟩) (by assumption) ?_; rotate_left 1; (focus (intro wz hSz; (try dsimp only at hSz); go_simp; (try with_reducible rfl))); (try simp only [Act.put, List.setIfInBounds_toArray, List.set_cons_zero, List.set_cons_succ]))
    (try simp only [Act.put, List.getElem_toArray, List.getElem_cons_succ, List.getElem_cons_zero, List.setIfInBounds_toArray, List.set_cons_zero, List.set_cons_succ])
    (refine wpAnyH_take (i := 17) (v := ?_) rfl (by kernel_rfl) (by kernel_rfl) (by kernel_rfl) (fun _ _ _ h => h) (Or.inl ⟨by rfl, ?_⟩) (by assumption) ?_; rotate_left 1; (focus (intro wz hSz; (try dsimp only at hSz); go_simp; (try with_reducible rfl))); (try simp only [Act.put, List.setIfInBounds_toArray, List.set_cons_zero, List.set_cons_succ]))
    (try simp only [Act.put, List.getElem_toArray, List.getElem_cons_succ, List.getElem_cons_zero, List.setIfInBounds_toArray, List.set_cons_zero, List.set_cons_succ])
    refine wpAnyH_ready (rs := [7]) (by kernel_rfl) (by simp) ?_
    refine AllReadyH.cons rfl (fun K1 hK1 => ?_) AllReadyH.nil
    · go_simp
      refine (cM _ B0).mono ?_
      rintro e y1 ⟨M, rfl, lM, us1, hx1⟩
      have B1 := below_trans B0 hx1
      go_wp2_with fail
      refine hK1.out _ _ B1 (fun hHeldK1 => ?_)
      clear hK1 K1
      (try simp only [Act.put, List.getElem_toArray, List.getElem_cons_succ, List.getElem_cons_zero, List.setIfInBounds_toArray, List.set_cons_zero, List.set_cons_succ])
      (refine wpAnyH_take (i := 8) (v := ?_) rfl (by kernel_rfl) (by kernel_rfl) (by kernel_rfl) (fun _ _ _ h => h) (Or.inl ⟨by rfl, ?_⟩) (by assumption) ?_; rotate_left 1; (focus (intro wz hSz; (try dsimp only at hSz); go_simp; (try with_reducible rfl))); (try simp only [Act.put, List.setIfInBounds_toArray, List.set_cons_zero, List.set_cons_succ]))
      (try simp only [Act.put, List.getElem_toArray, List.getElem_cons_succ, List.getElem_cons_zero, List.setIfInBounds_toArray, List.set_cons_zero, List.set_cons_succ])
      have lM' : w.heap.size ≤ M := by simpa using lM
      have hM1 := us1.lt
      refine wpAnyH_ready (rs := [9, 18]) (by kernel_rfl) (by simp) ?_
      refine AllReadyH.cons rfl (fun K2 hK2 => ?_) (AllReadyH.cons rfl (fun K2 hK2 => ?_) AllReadyH.nil)
      · go_simp
        have dn := num_new y1 M
        have us2 := us1.kept (grown_of_below (below_alloc (Below.refl _ y1) (.cells #[.map (some M)] 74))) (by simp)
        have B2 := below_alloc B1 (.cells #[.map (some M)] 74)
        refine hK2.out _ _ B2 (fun hHeldK2 => ?_)
        clear hK2 K2
        (try simp only [Act.put, List.getElem_toArray, List.getElem_cons_succ, List.getElem_cons_zero, List.setIfInBounds_toArray, List.set_cons_zero, List.set_cons_succ])
        refine wpAnyH_ready (rs := [18]) (by kernel_rfl) (by simp) ?_
        refine AllReadyH.cons rfl (fun K3 hK3 => ?_) AllReadyH.nil
        go_simp
        refine (cC _ B2).mono ?_
        rintro e y3 ⟨v2, rfl, own3, hx3⟩
        have BE := below_trans B2 hx3
        go_wp2_with fail
        refine hK3.out _ _ BE (fun hHeldK3 => ?_)
        clear hK3 K3
        (try simp only [Act.put, List.getElem_toArray, List.getElem_cons_succ, List.getElem_cons_zero, List.setIfInBounds_toArray, List.set_cons_zero, List.set_cons_succ])
        have us3 := us2.kept (grown_of_below hx3) (by simp)
        have d3 := bel_cell hx3 dn
        have lN : w.heap.size ≤ y1.heap.size := B1.size
        have fp := pool_new (W := W) (w0 := w.heap.size) WD.out us3 d3 own3 (fun g hg => by have := (World.ownsRow.lt own3 g hg).1; simp at this; omega) (by omega) BL.out UN.out UB.out (by simp; omega) lN lM' BE.size
        obtain ⟨Av2, cv2, hv2, _, _, _, _⟩ := own3.form encB_len
        subst hv2
        (refine wpAnyH_take (i := 19) (v := ?_) rfl (by kernel_rfl) (by kernel_rfl) (by kernel_rfl) (fun _ _ _ h => h) (Or.inl ⟨by rfl, ?_⟩) (by assumption) ?_; rotate_left 1; (focus (intro wz hSz; (try dsimp only at hSz); go_simp; (try with_reducible rfl))); (try simp only [Act.put, List.setIfInBounds_toArray, List.set_cons_zero, List.set_cons_succ]))
        (try simp only [Act.put, List.getElem_toArray, List.getElem_cons_succ, List.getElem_cons_zero, List.setIfInBounds_toArray, List.set_cons_zero, List.set_cons_succ])
        refine wpAnyH_ready (rs := [20]) (by kernel_rfl) (by simp) ?_
        refine AllReadyH.cons rfl (fun K9 hK9 => ?_) AllReadyH.nil
        go_simp
        refine hK9.out _ _ (below_alloc BE _) (fun hHeldK9 => ?_)
        clear hK9 K9
        (try simp only [Act.put, List.getElem_toArray, List.getElem_cons_succ, List.getElem_cons_zero, List.setIfInBounds_toArray, List.set_cons_zero, List.set_cons_succ])
        (refine wpAnyH_take (i := 21) (v := ?_) rfl (by kernel_rfl) (by kernel_rfl) (by kernel_rfl) (fun _ _ _ h => h) (Or.inl ⟨by rfl, ?_⟩) (by assumption) ?_; rotate_left 1; (focus (intro wz hSz; (try dsimp only at hSz); go_simp; (try with_reducible rfl))); (try simp only [Act.put, List.setIfInBounds_toArray, List.set_cons_zero, List.set_cons_succ]))
        (try simp only [Act.put, List.getElem_toArray, List.getElem_cons_succ, List.getElem_cons_zero, List.setIfInBounds_toArray, List.set_cons_zero, List.set_cons_succ])
        refine wpAnyH_done (by kernel_rfl) ?_ _
        go_wp2_with fail
        go_meet
        case rel => exact ⟨_, _, M, rfl, fp.1, BE.size, lN, lM', fp.2, below_alloc BE _⟩
      · go_simp
        refine (cC _ B1).mono ?_
        rintro e y2 ⟨v2, rfl, own2, hx2⟩
        have B2 := below_trans B1 hx2
        go_wp2_with fail
        refine hK2.out _ _ B2 (fun hHeldK2 => ?_)
        clear hK2 K2
        (try simp only [Act.put, List.getElem_toArray, List.getElem_cons_succ, List.getElem_cons_zero, List.setIfInBounds_toArray, List.set_cons_zero, List.set_cons_succ])
        have us2 := us1.kept (grown_of_below hx2) (by simp)
        refine wpAnyH_ready (rs := [9]) (by kernel_rfl) (by simp) ?_
        refine AllReadyH.cons rfl (fun K3 hK3 => ?_) AllReadyH.nil
        go_simp
        have dn := num_new y2 M
        have us3 := us2.kept (grown_of_below (below_alloc (Below.refl _ y2) (.cells #[.map (some M)] 74))) (by simp)
        have own3 := own2.below (below_alloc (Below.refl _ y2) (.cells #[.map (some M)] 74))
        have BE := below_alloc B2 (.cells #[.map (some M)] 74)
        refine hK3.out _ _ BE (fun hHeldK3 => ?_)
        clear hK3 K3
        (try simp only [Act.put, List.getElem_toArray, List.getElem_cons_succ, List.getElem_cons_zero, List.setIfInBounds_toArray, List.set_cons_zero, List.set_cons_succ])
        have lN : w.heap.size ≤ y2.heap.size := B2.size
        have l12 := hx2.size
        have l01 := B1.size
        have fp := pool_new (W := W) (w0 := w.heap.size) WD.out us3 dn own3 (fun g hg => by have := (World.ownsRow.lt own2 g hg).1; omega) (by omega) BL.out UN.out UB.out (by omega) lN lM' BE.size
        have hsz : (y2.alloc (.cells #[.map (some M)] 74)).heap.size = y2.heap.size + 1 := by simp
        have sE := BE.size
        rw [hsz] at fp sE
        obtain ⟨Av2, cv2, hv2, _, _, _, _⟩ := own3.form encB_len
        subst hv2
        (refine wpAnyH_take (i := 19) (v := ?_) rfl (by kernel_rfl) (by kernel_rfl) (by kernel_rfl) (fun _ _ _ h => h) (Or.inl ⟨by rfl, ?_⟩) (by assumption) ?_; rotate_left 1; (focus (intro wz hSz; (try dsimp only at hSz); go_simp; (try with_reducible rfl))); (try simp only [Act.put, List.setIfInBounds_toArray, List.set_cons_zero, List.set_cons_succ]))
        (try simp only [Act.put, List.getElem_toArray, List.getElem_cons_succ, List.getElem_cons_zero, List.setIfInBounds_toArray, List.set_cons_zero, List.set_cons_succ])
        refine wpAnyH_ready (rs := [20]) (by kernel_rfl) (by simp) ?_
        refine AllReadyH.cons rfl (fun K9 hK9 => ?_) AllReadyH.nil
        go_simp
        refine hK9.out _ _ (below_alloc BE _) (fun hHeldK9 => ?_)
        clear hK9 K9
        (try simp only [Act.put, List.getElem_toArray, List.getElem_cons_succ, List.getElem_cons_zero, List.setIfInBounds_toArray, List.set_cons_zero, List.set_cons_succ])
        (refine wpAnyH_take (i := 21) (v := ?_) rfl (by kernel_rfl) (by kernel_rfl) (by kernel_rfl) (fun _ _ _ h => h) (Or.inl ⟨by rfl, ?_⟩) (by assumption) ?_; rotate_left 1; (focus (intro wz hSz; (try dsimp only at hSz); go_simp; (try with_reducible rfl))); (try simp only [Act.put, List.setIfInBounds_toArray, List.set_cons_zero, List.set_cons_succ]))
        (try simp only [Act.put, List.getElem_toArray, List.getElem_cons_succ, List.getElem_cons_zero, List.setIfInBounds_toArray, List.set_cons_zero, List.set_cons_succ])
        refine wpAnyH_done (by kernel_rfl) ?_ _
        go_wp2_with fail
        go_meet
        case rel => exact ⟨_, _, M, rfl, fp.1, sE, lN, lM', fp.2, below_alloc BE _⟩
  obtain ⟨b', nb', mb', rfl, hp, h1, h2, h3, h4, h5⟩ := hcut
  go_wp2_with fail
  go_ret
  exact ⟨b', nb', mb', rfl, hp, h1, h2, h3, h4, h5⟩

set_option maxHeartbeats 2000000 in
theorem Used_any (b nb mb W : Nat) (bits : List Bool) (u : List Nat) (w : World) (h : PoolAt w b nb mb W bits u) :
    Calls Tryz.prog 14 #[.pointer (some ⟨b, 0, none⟩)] w fun e w' => ∃ v, e = .returned v ∧ Own w' w.heap.size 3 1 encI v (usedS u) ∧ Below w.heap.size w w' := by
  have cV := pvalid_any b nb w h.c0
  have cU := nUsed_any nb mb u w h.d0 h.us h.un h.ul
  have c0 := h.c0
  go_enter Tryz.func14, Tryz.ntmps14
  go_wp2_with (first
    | (go_at_call 37; refine (cV).mono ?_; rintro e w' ⟨rfl, rfl⟩)
    | (go_at_call 42; refine cU.mono ?_; rintro e w1 ⟨v, rfl, own, hb⟩))
  go_ret
  exact ⟨v, rfl, own, hb⟩

end Go.Proofs.YtpejoghdmkpfcaaGreatDoor
