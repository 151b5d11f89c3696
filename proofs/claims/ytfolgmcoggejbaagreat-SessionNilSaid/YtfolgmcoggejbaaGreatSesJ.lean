/- Contract of send. For a valid letter of at most 4096 words. -/
import Derived.Test.YtfolgmcoggejbaaGreatSesI
import Derived.Test.YtfolgmcoggejbaaGreatOutB
import Derived.Test.YtfolgmcoggejbaaGreatPolAll
import Derived.Deep.DeepCutAuto
namespace Go.Proofs.YtfolgmcoggejbaaGreat
open Go.RowKit
set_option linter.unusedVariables false
set_option linter.unusedSimpArgs false

/-- The pool's blocks are not this one. -/
structure PoolOff (w : World) (pb nb mb b : Nat) (bits : List Bool) : Prop where
  p : pb ≠ b
  n : nb ≠ b
  m : mb ≠ b
  a : ∀ A c, w.cell? ⟨pb, 2, none⟩ = some (.slice A bits.length c) → ∀ a, A = some a → a.block ≠ b
theorem PoolOff.on {w w' : World} {pb nb mb b W : Nat} {bits : List Bool} {u : List Nat} (h : PoolOff w pb nb mb b bits) (hp : PoolAt w pb nb mb W bits u) (hb : Below w.heap.size w w') : PoolOff w' pb nb mb b bits :=
  ⟨h.p, h.n, h.m, fun A c hc => by
    obtain ⟨A0, c0, h2, _⟩ := hp.c2
    have h3 := bel_cell hb h2
    rw [h3] at hc
    cases hc
    exact h.a A c h2⟩
/-- The load of a struct out of a box, in a region that draws its order. -/
theorem step_load_at {P : Program} {W : World} {ops : Array Oper} {o : Oper} {a : Act} {K : Act → World → Prop} {Q : Exit → Act → World → Prop} {E : Prop} (hgd : o.guard = none) (ty : TypeId) (x : Operand) (ho : o.op = .load ty x)
    (g off : Nat) (hx : a.eval x = .pointer (some ⟨g, off, none⟩)) (cs : Array Value) (d : TypeDesc) (hc : ∀ (j : Nat) (v : Value), cs[j]? = some v → W.cell? ⟨g, off + j, none⟩ = some v)
    (hu : P.underlying ty = some d) (hd : (match d with | .struct _ | .array _ _ => true | _ => false) = true) (hi : (P.info? ty).map (·.size) = some cs.size)
    (h : K (a.put o.dst (.agg cs)) W) : if Region.wanted o (yielded ops a.tmps) = true then Oper.wp P o a W K Q else E := by
  rw [if_pos (by simp [Region.wanted, hgd])]
  unfold Oper.wp execOp
  simp only [ho, hx, Instr.loadAt, Instr.sureAddr, Sem.run_bind, Sem.run_pure, Result.andThen_ok, run_loadVar_at W g off ty cs d hc hu hd hi]
  exact h
/-- The letter that is sent. -/
def sndL (x : Sta) (kind : Int) (W : Nat) (bits : List Bool) (u : List Nat) (A : Option Addr) (c : Nat) (ws : List Int) (t : Nat) : Ltr := ⟨x.last, kind, (nxI W bits u x.side : Nat), A, c, ws, t⟩
def sndE (x : Sta) (kind : Int) (W : Nat) (bits : List Bool) (u : List Nat) (ws : List Int) : Int := if nxE W bits u x.side = 0 then plE W bits u (nxI W bits u x.side : Nat) (ltrL (sndL x kind W bits u none 0 ws 0)) else nxE W bits u x.side
theorem ltrL_same (s k n : Int) (A A' : Option Addr) (c c' : Nat) (ws : List Int) (t t' : Nat) : ltrL ⟨s, k, n, A, c, ws, t⟩ = ltrL ⟨s, k, n, A', c', ws, t'⟩ := rfl

/-- Behind the seal: the letter has its tag, or none. -/
structure SndMid (w3 wx : World) (p mb : Nat) (L : Ltr) (pb nb W : Nat) (bits : List Bool) (u : List Nat) (n : Nat) (E2 : Int) (v : Value) : Prop where
  v : v = .int .i64 E2
  out : Out2 w3 wx p mb
  l : LtrAt wx p L
  p : (E2 ≠ 0 ∧ PoolAt wx pb nb mb W bits u) ∨ (E2 = 0 ∧ PoolAt wx pb nb mb W bits (n :: u))
set_option maxRecDepth 100000 in
set_option maxHeartbeats 8000000 in
theorem send_any (b : Nat) (x : Sta) (kind : Int) (A : Option Addr) (c : Nat) (ws : List Int) (nb mb W : Nat) (bits : List Bool) (u : List Nat) (w : World) (hx : StaAt w b x) (pool : PoolAt w x.pool nb mb W bits u) (off : PoolOff w x.pool nb mb b bits)
    (hA : Arr 1 encI w w.heap.size A ws) (hl : ws.length ≤ c) (hc : c ≤ maxLen) (hn : A = none → c = 0) (hAo : ∀ a, A = some a → a.block ≠ b ∧ a.block ≠ mb) (hh : headLB (sndL x kind W bits u A c ws 0) = true) (hw : ws.all okW = true) :
    Calls Tryz.prog 66 #[.pointer (some ⟨b, 0, none⟩), .int .i64 kind, .slice A ws.length c] w fun e w' =>
      Out2 w w' b mb ∧ ((sndE x kind W bits u ws ≠ 0 ∧ e = .returned (.slice none 0 0) ∧ StaAt w' b { x with k := { x.k with phase := 3, reason := 14 } } ∧ ∃ u', PoolAt w' x.pool nb mb W bits u') ∨
        (sndE x kind W bits u ws = 0 ∧ ∃ p d A' c', e = .returned (.slice (some ⟨d, 0, none⟩) 1 1) ∧ StaAt w' b { x with k := { x.k with sent := .pointer (some ⟨p, 0, none⟩) } } ∧ PoolAt w' x.pool nb mb W bits (nxI W bits u x.side :: u) ∧
          LtrAt w' p (sndL x kind W bits u A c ws (plT W bits (nxI W bits u x.side : Nat) (ltrL (sndL x kind W bits u none 0 ws 0)))) ∧ LtrAt w' d (sndL x kind W bits u A' c' ws (plT W bits (nxI W bits u x.side : Nat) (ltrL (sndL x kind W bits u none 0 ws 0)))) ∧ (sndL x kind W bits u A' c' ws 0).In w')) := by
  have cN := fun (y : Later w) => calls_later (Next_pool x.pool nb mb W bits u x.side y.w (pool.on y.2))
  have x35 := later_cell (show w.cell? ⟨b, 35, none⟩ = some (.int .i64 x.side) from hx.c 35)
  have x36 := later_cell (show w.cell? ⟨b, 36, none⟩ = some (.pointer (some ⟨x.pool, 0, none⟩)) from hx.c 36)
  have hE : Hid (sndE x kind W bits u ws = if nxE W bits u x.side = 0 then plE W bits u (nxI W bits u x.side : Nat) (ltrL (sndL x kind W bits u none 0 ws 0)) else nxE W bits u x.side) := Lib.hid rfl
  obtain ⟨E, hEq⟩ : ∃ E, nxE W bits u x.side = E := ⟨_, rfl⟩
  rw [hEq] at hE
  simp only [hEq] at cN
  have HEq := Lib.hid hEq
  clear hEq
  go_enter Tryz.func66, Tryz.ntmps66
  go_upto_region 1 with fail
  (refine wp_region_later (by kernel_rfl) (by kernel_rfl) ?_; (repeat (go_big_quiet_step (((go_at_call 124; exact cN _))))); refine wpQuiet_nil ?_; rintro w2 ⟨⟨_, hb2⟩, rfl⟩)
  have hx2 := hx.on hb2
  have pool2 := pool.on hb2
  have x38 : w2.cell? ⟨b, 38, none⟩ = some (.int .i64 x.last) := hx2.c 38
  clear x35 x36 cN
  go_upto_region 3 with (first | (refine wpList_buildAs rfl 89 _ rfl #[(0, .int .i64 x.last), (1, .int .i64 kind), (2, .int .i64 (nxI W bits u x.side : Nat)), (3, .slice A ws.length c)] (by kernel_rfl) (sndL x kind W bits u A c ws 0).cs (by kernel_rfl) ?_) | (refine Great.wpList_allocTo rfl (some 9) rfl (.pointer (some ⟨w2.heap.size, 0, none⟩)) (.cells ltr0.cs 89) (by kernel_rfl) ?_) | (refine wpList_store_row rfl 89 _ _ rfl w2.heap.size (sndL x kind W bits u A c ws 0).cs (by kernel_rfl) (by kernel_rfl) 89 ltr0.cs (heap_last9 _ _) (ltr_size _) rfl (by kernel_rfl) ?_))
  rw [World.setRow_alloc_new]
  (try simp only [Act.put, List.getElem_toArray, List.getElem_cons_succ, List.getElem_cons_zero, List.setIfInBounds_toArray, List.set_cons_zero, List.set_cons_succ])
  have N3 := LtrAt.new w2 (sndL x kind W bits u A c ws 0)
  have bb := below_alloc (Below.refl w2.heap.size w2) (.cells (sndL x kind W bits u A c ws 0).cs 89)
  have hx3 := hx2.on bb
  have pool3 := pool2.on bb
  have q3 := below_trans hb2 bb
  have ltb : b < w2.heap.size := (Array.getElem?_eq_some_iff.1 hx2).1
  have ltw : w.heap.size ≤ w2.heap.size := hb2.size
  obtain ⟨w3, hw3⟩ : ∃ w3, w2.alloc (.cells (sndL x kind W bits u A c ws 0).cs 89) = w3 := ⟨_, rfl⟩
  obtain ⟨p, hp⟩ : ∃ p, w2.heap.size = p := ⟨_, rfl⟩
  have ltp : p < w3.heap.size := by rw [← hw3, ← hp]; simp
  rw [hw3] at N3 hx3 pool3 q3 ⊢
  rw [hp] at N3 ltb ltw ⊢
  clear hw3 hp bb hx2 pool2 x38 hb2
  by_cases e0 : E = 0
  case neg =>
    have g1 : (E == 0) = false := by simpa using e0
    have g2 : (E != 0) = true := by simpa using e0
    have g3 := Lib.hid (show sndE x kind W bits u ws ≠ 0 by rw [hE.out, if_neg e0]; exact e0)
    clear e0 N3
    have off3 := off.on pool q3
    have y39 : w3.cell? ⟨b, 39, none⟩ = some (.int .i64 x.k.phase) := hx3.c 39
    have y40 : w3.cell? ⟨b, 40, none⟩ = some (.int .i64 x.k.reason) := hx3.c 40
    have z39 := hx3.fr 39
    have z40 := hx3.fr 40
    have S1 : StaAt (w3.setCell ⟨b, 39, none⟩ (.int .i64 3)) b { x with k := { x.k with phase := 3 } } := hx3.set 39 _ rfl
    have S2 : StaAt ((w3.setCell ⟨b, 39, none⟩ (.int .i64 3)).setCell ⟨b, 40, none⟩ (.int .i64 14)) b { x with k := { x.k with phase := 3, reason := 14 } } := S1.set 40 _ rfl
    have gg := grown_trans (grown_setP w3 b 39 (.int .i64 3)) (grown_setP _ b 40 (.int .i64 14))
    have pe := pool3.kept gg (by simpa using off3.p) (by simpa using off3.n) (by simpa using off3.m) (fun A c h a ha => by simpa using off3.a A c h a ha)
    have oo := (Out2.of b mb q3).trans (Out2.grown (m := mb) gg (.inl rfl))
    clear hx3 pool3 S1 gg
    go_wp2_with fail
    go_ret
    exact ⟨oo, .inl ⟨g3.out, rfl, S2, _, pe⟩⟩
  subst e0
  obtain ⟨E2, hE2⟩ : ∃ E2, plE W bits u (nxI W bits u x.side : Nat) (ltrL (sndL x kind W bits u none 0 ws 0)) = E2 := ⟨_, rfl⟩
  obtain ⟨T, hT⟩ : ∃ T, plT W bits (nxI W bits u x.side : Nat) (ltrL (sndL x kind W bits u none 0 ws 0)) = T := ⟨_, rfl⟩
  obtain ⟨T2, hT2⟩ : ∃ T2 : Nat, (if E2 = 0 then T else 0) = T2 := ⟨_, rfl⟩
  have HT2 := Lib.hid hT2
  have HT3 := Lib.hid (show (if E2 = 0 then (T : Int) else 0) = (T2 : Int) by rw [← hT2]; split <;> rfl)
  have hs2 : sndE x kind W bits u ws = E2 := by rw [hE.out, if_pos rfl, hE2]
  have HE2 := Lib.hid hE2
  have HT := Lib.hid hT
  have Hs2 := Lib.hid hs2
  have mbp : mb < p := Nat.lt_of_lt_of_le pool.us.lt ltw
  have mid : ∀ y2 : World, Out2 w3 y2 p mb → LtrAt y2 p (sndL x kind W bits u A c ws 0) → ((E2 ≠ 0 ∧ PoolAt y2 x.pool nb mb W bits u) ∨ (E2 = 0 ∧ PoolAt y2 x.pool nb mb W bits (nxI W bits u x.side :: u))) → SndMid w3 (y2.setCell ⟨p, 4, none⟩ (.int .u64 (T2 : Int))) p mb (sndL x kind W bits u A c ws T2) x.pool nb W bits u (nxI W bits u x.side) E2 (.int .i64 E2) := fun y2 ho N2 hP => by
    have g := grown_setP y2 p 4 (.int .u64 (T2 : Int))
    obtain ⟨A0, c0, h20, _, _, _, _, hblk⟩ := pool.c2
    have bl1 : x.pool < w.heap.size := World.block_lt_of_cell? w _ pool.c0
    have bl2 : nb < w.heap.size := World.block_lt_of_cell? w _ pool.d0
    have c2y : y2.cell? ⟨x.pool, 2, none⟩ = some (.slice A0 bits.length c0) := (World.cell?_of_block (ho.block x.pool (by have := q3.size; omega) (by omega) pool.bm)).trans (bel_cell q3 h20)
    have kp : ∀ u', PoolAt y2 x.pool nb mb W bits u' → PoolAt (y2.setCell ⟨p, 4, none⟩ (.int .u64 (T2 : Int))) x.pool nb mb W bits u' := fun u' hp => hp.kept g (by simp; omega) (by simp; omega) (by simp; omega) (fun A c hc a ha => by
      rw [c2y] at hc
      cases hc
      have := (hblk a ha).2
      simp; omega)
    refine ⟨rfl, ho.trans (Out2.grown g (.inl rfl)), N2.set 4 _ rfl, ?_⟩
    rcases hP with ⟨h1, h2⟩ | ⟨h1, h2⟩
    · exact .inl ⟨h1, kp _ h2⟩
    · exact .inr ⟨h1, kp _ h2⟩
  clear hE2 hT hs2 hE hT2
  go_upto_if 33 with fail
  go_cut [8] (fun v wx => SndMid w3 wx p mb (sndL x kind W bits u A c ws T2) x.pool nb W bits u (nxI W bits u x.side) E2 v)
  case first =>
    go_upto_region 4 with fail
    have x36 : w3.cell? ⟨b, 36, none⟩ = some (.pointer (some ⟨x.pool, 0, none⟩)) := hx3.c 36
    have x36d : w3.drew.cell? ⟨b, 36, none⟩ = some (.pointer (some ⟨x.pool, 0, none⟩)) := x36
    have inL : (sndL x kind W bits u A c ws 0).In w3.drew := ⟨hA.on q3.drew, hl, hc, hn⟩
    have cS := spread_any (sndL x kind W bits u A c ws 0) w3.drew inL hh hw
    unfold Ltr.val at cS
    refine wp_region_held_drew (S := fun _ => True) (by kernel_rfl) trivial (fun hHeld => ?_)
    (refine wpAnyH_take (i := 0) (v := ?_) rfl (by kernel_rfl) (by kernel_rfl) (by kernel_rfl) (fun _ _ _ h => h) (Or.inl ⟨by rfl, ?_⟩) (by assumption) ?_; rotate_left 1; (focus (intro wz hSz; (try dsimp only at hSz); go_simp; (try with_reducible rfl))); (try simp only [Act.put, List.setIfInBounds_toArray, List.set_cons_zero, List.set_cons_succ]))
    try simp only [Act.put, List.getElem_toArray, List.getElem_cons_succ, List.getElem_cons_zero, List.setIfInBounds_toArray, List.set_cons_zero, List.set_cons_succ]
    (refine wpAnyH_take (i := 1) (v := ?_) rfl (by kernel_rfl) (by kernel_rfl) (by kernel_rfl) (fun _ _ _ h => h) (Or.inl ⟨by rfl, ?_⟩) (by assumption) ?_; rotate_left 1; (focus (intro wz hSz; (try dsimp only at hSz); go_simp; (try with_reducible rfl))); (try simp only [Act.put, List.setIfInBounds_toArray, List.set_cons_zero, List.set_cons_succ]))
    try simp only [Act.put, List.getElem_toArray, List.getElem_cons_succ, List.getElem_cons_zero, List.setIfInBounds_toArray, List.set_cons_zero, List.set_cons_succ]
    (refine wpAnyH_take (i := 2) (v := ?_) rfl (by kernel_rfl) (by kernel_rfl) (by kernel_rfl) (fun _ _ _ h => h) (Or.inl ⟨by rfl, ?_⟩) (by assumption) ?_; rotate_left 1; (focus (intro wz hSz; (try dsimp only at hSz); go_simp; (try with_reducible rfl))); (try simp only [Act.put, List.setIfInBounds_toArray, List.set_cons_zero, List.set_cons_succ]))
    try simp only [Act.put, List.getElem_toArray, List.getElem_cons_succ, List.getElem_cons_zero, List.setIfInBounds_toArray, List.set_cons_zero, List.set_cons_succ]
    (refine wpAnyH_take (i := 3) (v := ?_) rfl (by kernel_rfl) (by kernel_rfl) (by kernel_rfl) (fun _ _ _ h => h) (Or.inl ⟨by rfl, ?_⟩) (by assumption) ?_; rotate_left 1; (focus (intro wz hSz; (try dsimp only at hSz); go_simp; (try with_reducible rfl))); (try simp only [Act.put, List.setIfInBounds_toArray, List.set_cons_zero, List.set_cons_succ]))
    try simp only [Act.put, List.getElem_toArray, List.getElem_cons_succ, List.getElem_cons_zero, List.setIfInBounds_toArray, List.set_cons_zero, List.set_cons_succ]
    (refine wpAnyH_take (i := 5) (v := ?_) rfl (by kernel_rfl) (by kernel_rfl) (by kernel_rfl) (fun _ _ _ h => h) (Or.inl ⟨by rfl, ?_⟩) (by assumption) ?_; rotate_left 1; (focus (intro wz hSz; (try dsimp only at hSz); go_simp; (try with_reducible rfl))); (try simp only [Act.put, List.setIfInBounds_toArray, List.set_cons_zero, List.set_cons_succ]))
    try simp only [Act.put, List.getElem_toArray, List.getElem_cons_succ, List.getElem_cons_zero, List.setIfInBounds_toArray, List.set_cons_zero, List.set_cons_succ]
    refine wpAnyH_ready (rs := [4, 6]) (by kernel_rfl) (by simp) ?_
    refine AllReadyH.cons rfl (fun K1 hK1 => ?_) (AllReadyH.cons rfl (fun K1 hK1 => ?_) AllReadyH.nil)
    · go_simp
      refine hK1.out _ _ trivial (fun _ => ?_)
      try simp only [Act.put, List.getElem_toArray, List.getElem_cons_succ, List.getElem_cons_zero, List.setIfInBounds_toArray, List.set_cons_zero, List.set_cons_succ]
      refine wpAnyH_ready (rs := [6]) (by kernel_rfl) (by simp) ?_
      refine AllReadyH.cons rfl (fun K2 hK2 => ?_) AllReadyH.nil
      refine step_load_at (by rfl) 89 _ (by rfl) p 0 (by rfl) (sndL x kind W bits u A c ws 0).cs _ N3.all Tryz.underlying89 rfl (ltr_size _) ?_
      refine hK2.out _ _ trivial (fun _ => ?_)
      try simp only [Act.put, List.getElem_toArray, List.getElem_cons_succ, List.getElem_cons_zero, List.setIfInBounds_toArray, List.set_cons_zero, List.set_cons_succ]
      refine wpAnyH_ready (rs := [7]) (by kernel_rfl) (by simp) ?_
      refine AllReadyH.cons rfl (fun K3 hK3 => ?_) AllReadyH.nil
      go_simp
      refine cS.mono ?_
      rintro e y1 ⟨vs, rfl, ows, hy1⟩
      have x36y : y1.cell? ⟨b, 36, none⟩ = some (.pointer (some ⟨x.pool, 0, none⟩)) := bel_cell (w := w3.drew) hy1 x36d
      refine hK3.out _ _ trivial (fun _ => ?_)
      try simp only [Act.put, List.getElem_toArray, List.getElem_cons_succ, List.getElem_cons_zero, List.setIfInBounds_toArray, List.set_cons_zero, List.set_cons_succ]
      have hY : Below w3.heap.size w3 y1 := (Below.refl w3.heap.size w3).drew.trans hy1
      have poolY := pool3.on hY
      obtain ⟨Ms, ms, hvs, l1, m1, n1, ars⟩ := ows.form encB_len
      subst hvs
      have cL := Seal_any x.pool nb mb W bits u (nxI W bits u x.side : Nat) Ms ms (ltrL (sndL x kind W bits u A c ws 0)) y1 poolY ars l1 m1
      have NY := N3.on hY
      refine wpAnyH_ready (rs := [8]) (by kernel_rfl) (by simp) ?_
      refine AllReadyH.cons rfl (fun K9 hK9 => ?_) AllReadyH.nil
      rw [show ltrL (sndL x kind W bits u A c ws 0) = ltrL (sndL x kind W bits u none 0 ws 0) from rfl, HE2.out, HT.out, HT3.out] at cL
      go_simp
      refine cL.mono ?_
      rintro e y2 ⟨rfl, hS⟩
      have hOut : Out2 w3 y2 p mb ∧ LtrAt y2 p (sndL x kind W bits u A c ws 0) ∧ ((E2 ≠ 0 ∧ PoolAt y2 x.pool nb mb W bits u) ∨ (E2 = 0 ∧ PoolAt y2 x.pool nb mb W bits (nxI W bits u x.side :: u))) := by
        rcases hS with ⟨h1, h2⟩ | ⟨h1, h2, h3⟩
        · exact ⟨Out2.of p mb (hY.trans (h2.mono hY.size)), NY.on h2, .inl ⟨h1, poolY.on h2⟩⟩
        · exact ⟨(Out2.of p mb hY).trans (Out2.grown h3 (.inr (.inl rfl))), (h3.block p (Nat.lt_of_lt_of_le ltp hY.size) (by simp; omega)).trans NY, .inr ⟨h1, by simpa using h2⟩⟩
      clear hS cL NY poolY ars
      obtain ⟨ho, N2, hP⟩ := hOut
      refine hK9.out _ _ trivial (fun _ => ?_)
      try simp only [Act.put, List.getElem_toArray, List.getElem_cons_succ, List.getElem_cons_zero, List.setIfInBounds_toArray, List.set_cons_zero, List.set_cons_succ]
      (refine wpAnyH_take (i := 9) (v := ?_) rfl (by kernel_rfl) (by kernel_rfl) (by kernel_rfl) (fun _ _ _ h => h) (Or.inl ⟨by rfl, ?_⟩) (by assumption) ?_; rotate_left 1; (focus (intro wz hSz; (try dsimp only at hSz); go_simp; (try with_reducible rfl))); (try simp only [Act.put, List.setIfInBounds_toArray, List.set_cons_zero, List.set_cons_succ]))
      try simp only [Act.put, List.getElem_toArray, List.getElem_cons_succ, List.getElem_cons_zero, List.setIfInBounds_toArray, List.set_cons_zero, List.set_cons_succ]
      (refine wpAnyH_take (i := 10) (v := ?_) rfl (by kernel_rfl) (by kernel_rfl) (by kernel_rfl) (fun _ _ _ h => h) (Or.inl ⟨by rfl, ?_⟩) (by assumption) ?_; rotate_left 1; (focus (intro wz hSz; (try dsimp only at hSz); go_simp; (try with_reducible rfl))); (try simp only [Act.put, List.setIfInBounds_toArray, List.set_cons_zero, List.set_cons_succ]))
      try simp only [Act.put, List.getElem_toArray, List.getElem_cons_succ, List.getElem_cons_zero, List.setIfInBounds_toArray, List.set_cons_zero, List.set_cons_succ]
      (refine wpAnyH_take (i := 11) (v := ?_) rfl (by kernel_rfl) (by kernel_rfl) (by kernel_rfl) (fun _ _ _ h => h) (Or.inl ⟨by rfl, ?_⟩) (by assumption) ?_; rotate_left 1; (focus (intro wz hSz; (try dsimp only at hSz); go_simp; (try with_reducible rfl))); (try simp only [Act.put, List.setIfInBounds_toArray, List.set_cons_zero, List.set_cons_succ]))
      try simp only [Act.put, List.getElem_toArray, List.getElem_cons_succ, List.getElem_cons_zero, List.setIfInBounds_toArray, List.set_cons_zero, List.set_cons_succ]
      (refine wpAnyH_take (i := 12) (v := ?_) rfl (by kernel_rfl) (by kernel_rfl) (by kernel_rfl) (fun _ _ _ h => h) (Or.inl ⟨by rfl, ?_⟩) (by assumption) ?_; rotate_left 1; (focus (intro wz hSz; (try dsimp only at hSz); go_simp; (try with_reducible rfl))); (try simp only [Act.put, List.setIfInBounds_toArray, List.set_cons_zero, List.set_cons_succ]))
      try simp only [Act.put, List.getElem_toArray, List.getElem_cons_succ, List.getElem_cons_zero, List.setIfInBounds_toArray, List.set_cons_zero, List.set_cons_succ]
      have y4 : y2.cell? ⟨p, 4, none⟩ = some (.int .u64 0) := N2.c 4
      have z4 := N2.fr 4
      refine wpAnyH_ready (rs := [13]) (by kernel_rfl) (by simp) ?_
      refine AllReadyH.cons rfl (fun K10 hK10 => ?_) AllReadyH.nil
      go_simp
      refine hK10.out _ _ trivial (fun _ => ?_)
      try simp only [Act.put, List.getElem_toArray, List.getElem_cons_succ, List.getElem_cons_zero, List.setIfInBounds_toArray, List.set_cons_zero, List.set_cons_succ]
      (refine wpAnyH_take (i := 14) (v := ?_) rfl (by kernel_rfl) (by kernel_rfl) (by kernel_rfl) (fun _ _ _ h => h) (Or.inl ⟨by rfl, ?_⟩) (by assumption) ?_; rotate_left 1; (focus (intro wz hSz; (try dsimp only at hSz); go_simp; (try with_reducible rfl))); (try simp only [Act.put, List.setIfInBounds_toArray, List.set_cons_zero, List.set_cons_succ]))
      try simp only [Act.put, List.getElem_toArray, List.getElem_cons_succ, List.getElem_cons_zero, List.setIfInBounds_toArray, List.set_cons_zero, List.set_cons_succ]
      refine wpAnyH_done (by kernel_rfl) ?_ _
      go_wp2_with fail
      go_meet
      case rel => exact mid y2 ho N2 hP
    · refine step_load_at (by rfl) 89 _ (by rfl) p 0 (by rfl) (sndL x kind W bits u A c ws 0).cs _ N3.all Tryz.underlying89 rfl (ltr_size _) ?_
      refine hK1.out _ _ trivial (fun _ => ?_)
      try simp only [Act.put, List.getElem_toArray, List.getElem_cons_succ, List.getElem_cons_zero, List.setIfInBounds_toArray, List.set_cons_zero, List.set_cons_succ]
      refine wpAnyH_ready (rs := [4, 7]) (by kernel_rfl) (by simp) ?_
      refine AllReadyH.cons rfl (fun K2 hK2 => ?_) (AllReadyH.cons rfl (fun K2 hK2 => ?_) AllReadyH.nil)
      · go_simp
        refine hK2.out _ _ trivial (fun _ => ?_)
        try simp only [Act.put, List.getElem_toArray, List.getElem_cons_succ, List.getElem_cons_zero, List.setIfInBounds_toArray, List.set_cons_zero, List.set_cons_succ]
        refine wpAnyH_ready (rs := [7]) (by kernel_rfl) (by simp) ?_
        refine AllReadyH.cons rfl (fun K3 hK3 => ?_) AllReadyH.nil
        go_simp
        refine cS.mono ?_
        rintro e y1 ⟨vs, rfl, ows, hy1⟩
        have x36y : y1.cell? ⟨b, 36, none⟩ = some (.pointer (some ⟨x.pool, 0, none⟩)) := bel_cell (w := w3.drew) hy1 x36d
        refine hK3.out _ _ trivial (fun _ => ?_)
        try simp only [Act.put, List.getElem_toArray, List.getElem_cons_succ, List.getElem_cons_zero, List.setIfInBounds_toArray, List.set_cons_zero, List.set_cons_succ]
        have hY : Below w3.heap.size w3 y1 := (Below.refl w3.heap.size w3).drew.trans hy1
        have poolY := pool3.on hY
        obtain ⟨Ms, ms, hvs, l1, m1, n1, ars⟩ := ows.form encB_len
        subst hvs
        have cL := Seal_any x.pool nb mb W bits u (nxI W bits u x.side : Nat) Ms ms (ltrL (sndL x kind W bits u A c ws 0)) y1 poolY ars l1 m1
        have NY := N3.on hY
        refine wpAnyH_ready (rs := [8]) (by kernel_rfl) (by simp) ?_
        refine AllReadyH.cons rfl (fun K9 hK9 => ?_) AllReadyH.nil
        rw [show ltrL (sndL x kind W bits u A c ws 0) = ltrL (sndL x kind W bits u none 0 ws 0) from rfl, HE2.out, HT.out, HT3.out] at cL
        go_simp
        refine cL.mono ?_
        rintro e y2 ⟨rfl, hS⟩
        have hOut : Out2 w3 y2 p mb ∧ LtrAt y2 p (sndL x kind W bits u A c ws 0) ∧ ((E2 ≠ 0 ∧ PoolAt y2 x.pool nb mb W bits u) ∨ (E2 = 0 ∧ PoolAt y2 x.pool nb mb W bits (nxI W bits u x.side :: u))) := by
          rcases hS with ⟨h1, h2⟩ | ⟨h1, h2, h3⟩
          · exact ⟨Out2.of p mb (hY.trans (h2.mono hY.size)), NY.on h2, .inl ⟨h1, poolY.on h2⟩⟩
          · exact ⟨(Out2.of p mb hY).trans (Out2.grown h3 (.inr (.inl rfl))), (h3.block p (Nat.lt_of_lt_of_le ltp hY.size) (by simp; omega)).trans NY, .inr ⟨h1, by simpa using h2⟩⟩
        clear hS cL NY poolY ars
        obtain ⟨ho, N2, hP⟩ := hOut
        refine hK9.out _ _ trivial (fun _ => ?_)
        try simp only [Act.put, List.getElem_toArray, List.getElem_cons_succ, List.getElem_cons_zero, List.setIfInBounds_toArray, List.set_cons_zero, List.set_cons_succ]
        (refine wpAnyH_take (i := 9) (v := ?_) rfl (by kernel_rfl) (by kernel_rfl) (by kernel_rfl) (fun _ _ _ h => h) (Or.inl ⟨by rfl, ?_⟩) (by assumption) ?_; rotate_left 1; (focus (intro wz hSz; (try dsimp only at hSz); go_simp; (try with_reducible rfl))); (try simp only [Act.put, List.setIfInBounds_toArray, List.set_cons_zero, List.set_cons_succ]))
        try simp only [Act.put, List.getElem_toArray, List.getElem_cons_succ, List.getElem_cons_zero, List.setIfInBounds_toArray, List.set_cons_zero, List.set_cons_succ]
        (refine wpAnyH_take (i := 10) (v := ?_) rfl (by kernel_rfl) (by kernel_rfl) (by kernel_rfl) (fun _ _ _ h => h) (Or.inl ⟨by rfl, ?_⟩) (by assumption) ?_; rotate_left 1; (focus (intro wz hSz; (try dsimp only at hSz); go_simp; (try with_reducible rfl))); (try simp only [Act.put, List.setIfInBounds_toArray, List.set_cons_zero, List.set_cons_succ]))
        try simp only [Act.put, List.getElem_toArray, List.getElem_cons_succ, List.getElem_cons_zero, List.setIfInBounds_toArray, List.set_cons_zero, List.set_cons_succ]
        (refine wpAnyH_take (i := 11) (v := ?_) rfl (by kernel_rfl) (by kernel_rfl) (by kernel_rfl) (fun _ _ _ h => h) (Or.inl ⟨by rfl, ?_⟩) (by assumption) ?_; rotate_left 1; (focus (intro wz hSz; (try dsimp only at hSz); go_simp; (try with_reducible rfl))); (try simp only [Act.put, List.setIfInBounds_toArray, List.set_cons_zero, List.set_cons_succ]))
        try simp only [Act.put, List.getElem_toArray, List.getElem_cons_succ, List.getElem_cons_zero, List.setIfInBounds_toArray, List.set_cons_zero, List.set_cons_succ]
        (refine wpAnyH_take (i := 12) (v := ?_) rfl (by kernel_rfl) (by kernel_rfl) (by kernel_rfl) (fun _ _ _ h => h) (Or.inl ⟨by rfl, ?_⟩) (by assumption) ?_; rotate_left 1; (focus (intro wz hSz; (try dsimp only at hSz); go_simp; (try with_reducible rfl))); (try simp only [Act.put, List.setIfInBounds_toArray, List.set_cons_zero, List.set_cons_succ]))
        try simp only [Act.put, List.getElem_toArray, List.getElem_cons_succ, List.getElem_cons_zero, List.setIfInBounds_toArray, List.set_cons_zero, List.set_cons_succ]
        have y4 : y2.cell? ⟨p, 4, none⟩ = some (.int .u64 0) := N2.c 4
        have z4 := N2.fr 4
        refine wpAnyH_ready (rs := [13]) (by kernel_rfl) (by simp) ?_
        refine AllReadyH.cons rfl (fun K10 hK10 => ?_) AllReadyH.nil
        go_simp
        refine hK10.out _ _ trivial (fun _ => ?_)
        try simp only [Act.put, List.getElem_toArray, List.getElem_cons_succ, List.getElem_cons_zero, List.setIfInBounds_toArray, List.set_cons_zero, List.set_cons_succ]
        (refine wpAnyH_take (i := 14) (v := ?_) rfl (by kernel_rfl) (by kernel_rfl) (by kernel_rfl) (fun _ _ _ h => h) (Or.inl ⟨by rfl, ?_⟩) (by assumption) ?_; rotate_left 1; (focus (intro wz hSz; (try dsimp only at hSz); go_simp; (try with_reducible rfl))); (try simp only [Act.put, List.setIfInBounds_toArray, List.set_cons_zero, List.set_cons_succ]))
        try simp only [Act.put, List.getElem_toArray, List.getElem_cons_succ, List.getElem_cons_zero, List.setIfInBounds_toArray, List.set_cons_zero, List.set_cons_succ]
        refine wpAnyH_done (by kernel_rfl) ?_ _
        go_wp2_with fail
        go_meet
        case rel => exact mid y2 ho N2 hP
      · skip
        go_simp
        refine cS.mono ?_
        rintro e y1 ⟨vs, rfl, ows, hy1⟩
        have x36y : y1.cell? ⟨b, 36, none⟩ = some (.pointer (some ⟨x.pool, 0, none⟩)) := bel_cell (w := w3.drew) hy1 x36d
        refine hK2.out _ _ trivial (fun _ => ?_)
        try simp only [Act.put, List.getElem_toArray, List.getElem_cons_succ, List.getElem_cons_zero, List.setIfInBounds_toArray, List.set_cons_zero, List.set_cons_succ]
        refine wpAnyH_ready (rs := [4]) (by kernel_rfl) (by simp) ?_
        refine AllReadyH.cons rfl (fun K3 hK3 => ?_) AllReadyH.nil
        go_simp
        refine hK3.out _ _ trivial (fun _ => ?_)
        try simp only [Act.put, List.getElem_toArray, List.getElem_cons_succ, List.getElem_cons_zero, List.setIfInBounds_toArray, List.set_cons_zero, List.set_cons_succ]
        have hY : Below w3.heap.size w3 y1 := (Below.refl w3.heap.size w3).drew.trans hy1
        have poolY := pool3.on hY
        obtain ⟨Ms, ms, hvs, l1, m1, n1, ars⟩ := ows.form encB_len
        subst hvs
        have cL := Seal_any x.pool nb mb W bits u (nxI W bits u x.side : Nat) Ms ms (ltrL (sndL x kind W bits u A c ws 0)) y1 poolY ars l1 m1
        have NY := N3.on hY
        refine wpAnyH_ready (rs := [8]) (by kernel_rfl) (by simp) ?_
        refine AllReadyH.cons rfl (fun K9 hK9 => ?_) AllReadyH.nil
        rw [show ltrL (sndL x kind W bits u A c ws 0) = ltrL (sndL x kind W bits u none 0 ws 0) from rfl, HE2.out, HT.out, HT3.out] at cL
        go_simp
        refine cL.mono ?_
        rintro e y2 ⟨rfl, hS⟩
        have hOut : Out2 w3 y2 p mb ∧ LtrAt y2 p (sndL x kind W bits u A c ws 0) ∧ ((E2 ≠ 0 ∧ PoolAt y2 x.pool nb mb W bits u) ∨ (E2 = 0 ∧ PoolAt y2 x.pool nb mb W bits (nxI W bits u x.side :: u))) := by
          rcases hS with ⟨h1, h2⟩ | ⟨h1, h2, h3⟩
          · exact ⟨Out2.of p mb (hY.trans (h2.mono hY.size)), NY.on h2, .inl ⟨h1, poolY.on h2⟩⟩
          · exact ⟨(Out2.of p mb hY).trans (Out2.grown h3 (.inr (.inl rfl))), (h3.block p (Nat.lt_of_lt_of_le ltp hY.size) (by simp; omega)).trans NY, .inr ⟨h1, by simpa using h2⟩⟩
        clear hS cL NY poolY ars
        obtain ⟨ho, N2, hP⟩ := hOut
        refine hK9.out _ _ trivial (fun _ => ?_)
        try simp only [Act.put, List.getElem_toArray, List.getElem_cons_succ, List.getElem_cons_zero, List.setIfInBounds_toArray, List.set_cons_zero, List.set_cons_succ]
        (refine wpAnyH_take (i := 9) (v := ?_) rfl (by kernel_rfl) (by kernel_rfl) (by kernel_rfl) (fun _ _ _ h => h) (Or.inl ⟨by rfl, ?_⟩) (by assumption) ?_; rotate_left 1; (focus (intro wz hSz; (try dsimp only at hSz); go_simp; (try with_reducible rfl))); (try simp only [Act.put, List.setIfInBounds_toArray, List.set_cons_zero, List.set_cons_succ]))
        try simp only [Act.put, List.getElem_toArray, List.getElem_cons_succ, List.getElem_cons_zero, List.setIfInBounds_toArray, List.set_cons_zero, List.set_cons_succ]
        (refine wpAnyH_take (i := 10) (v := ?_) rfl (by kernel_rfl) (by kernel_rfl) (by kernel_rfl) (fun _ _ _ h => h) (Or.inl ⟨by rfl, ?_⟩) (by assumption) ?_; rotate_left 1; (focus (intro wz hSz; (try dsimp only at hSz); go_simp; (try with_reducible rfl))); (try simp only [Act.put, List.setIfInBounds_toArray, List.set_cons_zero, List.set_cons_succ]))
        try simp only [Act.put, List.getElem_toArray, List.getElem_cons_succ, List.getElem_cons_zero, List.setIfInBounds_toArray, List.set_cons_zero, List.set_cons_succ]
        (refine wpAnyH_take (i := 11) (v := ?_) rfl (by kernel_rfl) (by kernel_rfl) (by kernel_rfl) (fun _ _ _ h => h) (Or.inl ⟨by rfl, ?_⟩) (by assumption) ?_; rotate_left 1; (focus (intro wz hSz; (try dsimp only at hSz); go_simp; (try with_reducible rfl))); (try simp only [Act.put, List.setIfInBounds_toArray, List.set_cons_zero, List.set_cons_succ]))
        try simp only [Act.put, List.getElem_toArray, List.getElem_cons_succ, List.getElem_cons_zero, List.setIfInBounds_toArray, List.set_cons_zero, List.set_cons_succ]
        (refine wpAnyH_take (i := 12) (v := ?_) rfl (by kernel_rfl) (by kernel_rfl) (by kernel_rfl) (fun _ _ _ h => h) (Or.inl ⟨by rfl, ?_⟩) (by assumption) ?_; rotate_left 1; (focus (intro wz hSz; (try dsimp only at hSz); go_simp; (try with_reducible rfl))); (try simp only [Act.put, List.setIfInBounds_toArray, List.set_cons_zero, List.set_cons_succ]))
        try simp only [Act.put, List.getElem_toArray, List.getElem_cons_succ, List.getElem_cons_zero, List.setIfInBounds_toArray, List.set_cons_zero, List.set_cons_succ]
        have y4 : y2.cell? ⟨p, 4, none⟩ = some (.int .u64 0) := N2.c 4
        have z4 := N2.fr 4
        refine wpAnyH_ready (rs := [13]) (by kernel_rfl) (by simp) ?_
        refine AllReadyH.cons rfl (fun K10 hK10 => ?_) AllReadyH.nil
        go_simp
        refine hK10.out _ _ trivial (fun _ => ?_)
        try simp only [Act.put, List.getElem_toArray, List.getElem_cons_succ, List.getElem_cons_zero, List.setIfInBounds_toArray, List.set_cons_zero, List.set_cons_succ]
        (refine wpAnyH_take (i := 14) (v := ?_) rfl (by kernel_rfl) (by kernel_rfl) (by kernel_rfl) (fun _ _ _ h => h) (Or.inl ⟨by rfl, ?_⟩) (by assumption) ?_; rotate_left 1; (focus (intro wz hSz; (try dsimp only at hSz); go_simp; (try with_reducible rfl))); (try simp only [Act.put, List.setIfInBounds_toArray, List.set_cons_zero, List.set_cons_succ]))
        try simp only [Act.put, List.getElem_toArray, List.getElem_cons_succ, List.getElem_cons_zero, List.setIfInBounds_toArray, List.set_cons_zero, List.set_cons_succ]
        refine wpAnyH_done (by kernel_rfl) ?_ _
        go_wp2_with fail
        go_meet
        case rel => exact mid y2 ho N2 hP
  obtain ⟨hv, mo, mN, mP⟩ := hcut
  subst hv
  obtain ⟨w4, rfl⟩ : ∃ w4, w4 = wc := ⟨_, rfl⟩
  have bl1 : x.pool < w.heap.size := World.block_lt_of_cell? w _ pool.c0
  have ltb3 : b < w3.heap.size := by omega
  have mbb : mb ≠ b := off.m
  have hx4 : StaAt w4 b x := (mo.block b ltb3 (by omega) (Ne.symm mbb)).trans hx3
  have outW : Out2 w w4 b mb := ⟨mo.os.trans q3.os, mo.tape.trans q3.tape, mo.output.trans q3.output, Nat.le_trans q3.size mo.size, fun k hk h1 h2 => (mo.block k (Nat.lt_of_lt_of_le hk q3.size) (by omega) h2).trans (q3.block k hk)⟩
  obtain ⟨A0, c0, h20, _, _, _, _, hblk⟩ := pool.c2
  have c2y : w4.cell? ⟨x.pool, 2, none⟩ = some (.slice A0 bits.length c0) := (World.cell?_of_block (mo.block x.pool (by omega) (by omega) pool.bm)).trans (bel_cell q3 h20)
  have off4 : PoolOff w4 x.pool nb mb b bits := ⟨off.p, off.n, off.m, fun A c hc a ha => by
    rw [c2y] at hc
    cases hc
    exact off.a A0 c0 h20 a ha⟩
  by_cases e2 : E2 = 0
  case neg =>
    have g1 : (E2 != 0) = true := by simpa using e2
    have g3 := Lib.hid (show sndE x kind W bits u ws ≠ 0 by rw [Hs2.out]; exact e2)
    have p4 : PoolAt w4 x.pool nb mb W bits u := by
      rcases mP with ⟨_, h⟩ | ⟨h, _⟩
      · exact h
      · exact absurd h e2
    clear e2 mid mN mP
    have y39 : w4.cell? ⟨b, 39, none⟩ = some (.int .i64 x.k.phase) := hx4.c 39
    have y40 : w4.cell? ⟨b, 40, none⟩ = some (.int .i64 x.k.reason) := hx4.c 40
    have z39 := hx4.fr 39
    have z40 := hx4.fr 40
    have S1 : StaAt (w4.setCell ⟨b, 39, none⟩ (.int .i64 3)) b { x with k := { x.k with phase := 3 } } := hx4.set 39 _ rfl
    have S2 : StaAt ((w4.setCell ⟨b, 39, none⟩ (.int .i64 3)).setCell ⟨b, 40, none⟩ (.int .i64 14)) b { x with k := { x.k with phase := 3, reason := 14 } } := S1.set 40 _ rfl
    have gg := grown_trans (grown_setP w4 b 39 (.int .i64 3)) (grown_setP _ b 40 (.int .i64 14))
    have pe := p4.kept gg (by simpa using off4.p) (by simpa using off4.n) (by simpa using off4.m) (fun A c h a ha => by simpa using off4.a A c h a ha)
    have oo := outW.trans (Out2.grown (m := mb) gg (.inl rfl))
    clear hx4 p4 S1 gg
    go_wp2_with fail
    go_ret
    exact ⟨oo, .inl ⟨g3.out, rfl, S2, _, pe⟩⟩
  subst e2
  have p4 : PoolAt w4 x.pool nb mb W bits (nxI W bits u x.side :: u) := by
    rcases mP with ⟨h, _⟩ | ⟨_, h⟩
    · exact absurd rfl h
    · exact h
  have hT2 : T2 = T := HT2.out.symm
  subst hT2
  have y44 : w4.cell? ⟨b, 44, none⟩ = some x.k.sent := hx4.c 44
  have z44 := hx4.fr 44
  clear mid mP
  go_upto_region 9 with fail
  have hx5 : StaAt (w4.setCell ⟨b, 44, none⟩ (.pointer (some ⟨p, 0, none⟩))) b { x with k := { x.k with sent := .pointer (some ⟨p, 0, none⟩) } } := hx4.set 44 _ rfl
  have g5 := grown_setP w4 b 44 (.pointer (some ⟨p, 0, none⟩))
  have p5 := p4.kept g5 (by simpa using off4.p) (by simpa using off4.n) (by simpa using off4.m) (fun A c h a ha => by simpa using off4.a A c h a ha)
  have N5 : LtrAt (w4.setCell ⟨b, 44, none⟩ (.pointer (some ⟨p, 0, none⟩))) p (sndL x kind W bits u A c ws T2) := (heap_setCell_other w4 ⟨b, 44, none⟩ p _ (by simp; omega)).trans mN
  have out5 := outW.trans (Out2.grown (m := mb) g5 (.inl rfl))
  have in5 : (sndL x kind W bits u A c ws T2).In (w4.setCell ⟨b, 44, none⟩ (.pointer (some ⟨p, 0, none⟩))) := ⟨arr_out2 hA out5 hAo, hl, hc, hn⟩
  have hwl := (ltr_head hh).2.2.2
  have cP := post_any p (sndL x kind W bits u A c ws T2) _ N5 in5 (Nat.le_trans hwl (by decide))
  have y5 : (w4.setCell ⟨b, 44, none⟩ (.pointer (some ⟨p, 0, none⟩))).cell? ⟨b, 44, none⟩ = some (.pointer (some ⟨p, 0, none⟩)) := hx5.c 44
  obtain ⟨w5, hw5⟩ : ∃ w5, w4.setCell ⟨b, 44, none⟩ (.pointer (some ⟨p, 0, none⟩)) = w5 := ⟨_, rfl⟩
  rw [hw5] at hx5 p5 N5 out5 cP y5 ⊢
  clear hw5 g5 hx4 p4 mN in5 y44 z44
  go_wp2_with fail
  refine cP.mono ?_
  rintro e w6 ⟨d, A6, c6, rfl, M6, in6, hb6⟩
  go_wp2_with fail
  go_ret
  refine ⟨out5.trans (Out2.of b mb hb6), .inr ⟨Hs2.out, p, d, A6, c6, rfl, hx5.on hb6, p5.on hb6, ?_, ?_, ⟨in6.a, in6.len, in6.cap, in6.nil⟩⟩⟩
  · rw [HT.out]; exact N5.on hb6
  · rw [HT.out]; exact M6

end Go.Proofs.YtfolgmcoggejbaaGreat
