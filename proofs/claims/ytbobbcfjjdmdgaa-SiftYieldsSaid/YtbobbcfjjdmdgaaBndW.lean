/- Contracts of sameNat and sameFrac, and the walk of the law SiftBounds. For any arrangement, gains and number. -/
import Derived.Test.YtbobbcfjjdmdgaaSngD
import Derived.Test.YtbobbcfjjdmdgaaKnown
namespace Go.Proofs.Ytbobbcfjjdmdgaa
open Go.RowKit
set_option linter.unusedVariables false
set_option linter.unusedSimpArgs false

set_option maxHeartbeats 1000000 in
theorem sameNat_same (A B : Option Addr) (c d : Nat) (l : List Nat) (w : World) (hA : Nt w A c l) (hB : Nt w B d l) (hl : l.length ≤ 1000000) :
    Calls Try.prog 68 #[.slice A l.length c, .slice B l.length d] w fun e w' => e = .returned (.bool true) ∧ Below w.heap.size w w' := by
  have aA := hA.arr
  have aB := hB.arr
  clear hA hB
  go_enter Try.func68, Try.ntmps68
  go_wp2
  go_loopw [5] (fun i wr => ∃ k : Nat, k ≤ l.length ∧ i = .int .i64 k ∧ Below w.heap.size w wr) (fun i _ => l.length - (intOf i).toNat)
  case atStart => exact ⟨0, Nat.zero_le _, rfl, Below.refl _ _⟩
  case round =>
    obtain ⟨k, hk, rfl, hb⟩ := hrel
    by_cases hlt : k < l.length
    · obtain ⟨b1, o1, x, rfl, hb1, hx, c1⟩ := aA.u32 hlt hb
      obtain ⟨b2, o2, y, rfl, hb2, hy, c2⟩ := aB.u32 hlt hb
      obtain rfl : x = y := by have := hx.out.symm.trans hy.out; simpa using this
      have d0 := later_cell c1; have d1 := later_cell c2
      go_wp2
      refine wp_region_later (by kernel_rfl) (by kernel_rfl) ?_
      repeat (go_big_quiet_step (fail))
      refine wpQuiet_nil ?_
      rintro w1 ⟨⟨_, hb1⟩, rfl⟩
      go_wp2
      go_roundw
      case rel => exact ⟨k + 1, by omega, by go_num, below_trans hb hb1⟩
      case measure => simp [intOf]; omega
    · go_wp2
      go_ret
      exact ⟨rfl, hb⟩

set_option maxHeartbeats 1000000 in
theorem sameFrac_same (A B C D : Option Addr) (a b c d N M : Nat) (w : World) (h1 : Nt w A a (limbs N)) (h2 : Nt w B b (limbs M)) (h3 : Nt w C c (limbs N)) (h4 : Nt w D d (limbs M)) (hN : N < B32 ^ 4) (hM : M < B32 ^ 4) :
    Calls Try.prog 19 #[.agg #[.slice A (limbs N).length a, .slice B (limbs M).length b], .agg #[.slice C (limbs N).length c, .slice D (limbs M).length d]] w fun e w' => e = .returned (.bool true) ∧ Below w.heap.size w w' := by
  have l1 := limbs_4 hN
  have l2 := limbs_4 hM
  have hb0 := below_alloc (below_alloc (Below.refl w.heap.size w) (.cells #[.slice A (limbs N).length a, .slice B (limbs M).length b] 39)) (.cells #[.slice C (limbs N).length c, .slice D (limbs M).length d] 39)
  have c1 := sameNat_same A C a c (limbs N) _ (h1.on hb0) (h3.on hb0) (by omega)
  have c2 := fun w' (hb : Below w.heap.size w w') => sameNat_same B D b d (limbs M) w' (h2.on hb) (h4.on hb) (by omega)
  clear hN hM h1 h2 h3 h4
  go_enter Try.func19, Try.ntmps19
  go_wp2_with fail
  refine c1.mono ?_
  rintro e w1 ⟨rfl, hb1⟩
  have k0 := bel_cell hb1 (show (((w.alloc (.cells #[.slice A (limbs N).length a, .slice B (limbs M).length b] 39)).alloc (.cells #[.slice C (limbs N).length c, .slice D (limbs M).length d] 39))).cell? ⟨w.heap.size, 1, none⟩ = some (.slice B (limbs M).length b) by go_simp)
  have k1 := bel_cell hb1 (show (((w.alloc (.cells #[.slice A (limbs N).length a, .slice B (limbs M).length b] 39)).alloc (.cells #[.slice C (limbs N).length c, .slice D (limbs M).length d] 39))).cell? ⟨w.heap.size + 1, 1, none⟩ = some (.slice D (limbs M).length d) by go_simp)
  have q1 := below_trans hb0 hb1
  go_wp2_with fail
  refine (c2 w1 q1).mono ?_
  rintro e w2 ⟨rfl, hb2⟩
  have q2 := below_trans q1 hb2
  go_wp2_with fail
  go_ret
  exact ⟨rfl, q2⟩

theorem load_row {P : Program} {S : World → Prop} {o : Oper} {a : Act} (ty : TypeId) (x : Operand) (ho : o.op = .load ty x) (g : Nat) (hx : a.eval x = .pointer (some ⟨g, 0, none⟩)) (t : TypeId) (cs : Array Value) (fr : Nat × Nat) (d : TypeDesc) (hg : ∀ w, S w → w.heap[g]? = some (.cells cs t fr))
    (hu : P.underlying ty = some d) (hd : (match d with | .struct _ | .array _ _ => true | _ => false) = true) (hi : (P.info? ty).map (·.size) = some cs.size) :
    ∀ w, S w → (execOp a.eval o).run P w = .ok (.value (.agg cs)) w := by
  intro w hS
  unfold execOp
  simp only [ho, hx, Instr.loadAt, Instr.sureAddr, Sem.run_bind, Sem.run_pure, Result.andThen_ok, run_loadVar_row w g t ty cs fr d (hg w hS) hu hd hi]
theorem brx_small {E num den : Int} (h : E = 0 → den.toNat < B32 ^ 4) : brN E num den < B32 ^ 4 ∧ brD E num den < B32 ^ 4 := by
  unfold brN brD
  by_cases hE : E = 0
  · rw [if_pos hE, if_pos hE]
    have hb := h hE
    have h1 := rd_le (brtN num den.toNat) den.toNat
    exact ⟨Nat.lt_of_le_of_lt (Nat.le_trans h1.1 (brt_le _ _)) hb, Nat.lt_of_le_of_lt h1.2 hb⟩
  · rw [if_neg hE, if_neg hE]
    exact ⟨by decide, by decide⟩
theorem fden_small {o : Opt} {g : Gn} (h : gainsE o g = 0) : (fDen o g).toNat < B32 ^ 4 := by
  obtain ⟨_, oE, pos, _⟩ := gains_opt h
  obtain ⟨a0, h0, x0, a1, h1, x1, a2, h2, x2, rfl, ⟨m1, m2, m3, m4⟩, ⟨m5, m6, m7, m8⟩, m9, m10, m11, m12⟩ := gains_nat h
  obtain ⟨⟨p0, p1, p2⟩, p3, p4, p5⟩ := row_bounds oE
  obtain ⟨d, hd⟩ : ∃ d : Nat, o.w1 = (d : Int) := ⟨o.w1.toNat, by omega⟩
  rw [fDen_mk o a0 h0 x0 a1 h1 x1 a2 h2 x2 d hd]
  have b1 := prod3_le m2 m6 (show d ≤ 4096 by omega)
  exact Nat.lt_of_le_of_lt b1 (by decide)

/-- A fraction in a box. -/
def Gq (w : World) (q : Nat) (A B : Option Addr) (a b N D : Nat) : Prop := (w.cell? ⟨q, 0, none⟩ = some (.slice A (limbs N).length a) ∧ w.cell? ⟨q, 1, none⟩ = some (.slice B (limbs D).length b)) ∧ Nt w A a (limbs N) ∧ Nt w B b (limbs D)
theorem Gq.on {w w' : World} {q : Nat} {A B : Option Addr} {a b N D : Nat} (h : Gq w q A B a b N D) (hb : Below w.heap.size w w') : Gq w' q A B a b N D := ⟨⟨bel_cell hb h.1.1, bel_cell hb h.1.2⟩, h.2.1.on hb, h.2.2.on hb⟩
theorem gq_new (w : World) {A B : Option Addr} {a b N D : Nat} (h1 : Nt w A a (limbs N)) (h2 : Nt w B b (limbs D)) (T : TypeId) : Gq (w.alloc (.cells #[.slice A (limbs N).length a, .slice B (limbs D).length b] T)) w.heap.size A B a b N D :=
  ⟨⟨new_cell rfl, new_cell rfl⟩, h1.on (below_alloc (Below.refl _ _) _), h2.on (below_alloc (Below.refl _ _) _)⟩

set_option maxRecDepth 100000 in
set_option maxHeartbeats 8000000 in
theorem bounds_walk (o : Opt) (g : Gn) (n : Int) (w : World) : Calls Try.prog 4 #[o.val, g.val, .int .i64 n] w fun e w' => e = .returned (.bool true) ∧ Below w.heap.size w w' := by
  have c1 := fun w' => Yield_any o g w'
  have c2 := fun w' => rYield_any o g w'
  have c3 := fun w' => Faults_any o g w'
  have c4 := fun w' => rFaults_any o g w'
  have c5 := fun w' => Singles_any o g n w'
  have c6 := fun w' => rSingles_any o g n w'
  have c7 := fun w' => oSuits_any o w'
  have c8 := fun w' => rSuits_any o w'
  have c9 := fun w' => known_any w'
  have s1 := brx_small (E := gainsE o g) (num := yNum o g) (den := yDen o g) (fun h => (yden_small h).2)
  have s2 := brx_small (E := gainsE o g) (num := fNum o g) (den := fDen o g) fden_small
  obtain ⟨N, hN⟩ : ∃ N, brN (gainsE o g) (yNum o g) (yDen o g) = N := ⟨_, rfl⟩
  obtain ⟨D, hD⟩ : ∃ D, brD (gainsE o g) (yNum o g) (yDen o g) = D := ⟨_, rfl⟩
  obtain ⟨M, hM⟩ : ∃ M, brN (gainsE o g) (fNum o g) (fDen o g) = M := ⟨_, rfl⟩
  obtain ⟨F, hF⟩ : ∃ F, brD (gainsE o g) (fNum o g) (fDen o g) = F := ⟨_, rfl⟩
  obtain ⟨E, hE⟩ : ∃ E, gainsE o g = E := ⟨_, rfl⟩
  obtain ⟨K, hK⟩ : ∃ K, sngK o g n = K := ⟨_, rfl⟩
  obtain ⟨X, hX⟩ : ∃ X, sngE o g n = X := ⟨_, rfl⟩
  obtain ⟨Z, hZ⟩ : ∃ Z, suitE o = Z := ⟨_, rfl⟩
  simp only [hN, hD] at c1 c2 s1
  simp only [hM, hF] at c3 c4 s2
  simp only [hE] at c1 c2 c3 c4
  simp only [hK, hX] at c5 c6
  simp only [hZ] at c7 c8
  unfold Opt.val Opt.cs Gn.val FrP at c1 c2 c3 c4
  unfold Opt.val Opt.cs Gn.val at c5 c6
  unfold Opt.val Opt.cs at c7 c8
  have S1 := Lib.hid s1; have S2 := Lib.hid s2
  clear hN hD hM hF hE hK hX hZ s1 s2
  obtain ⟨at0, gt0, hb0⟩ := boxes2 o g w
  unfold Opt.val Opt.cs Gn.val
  have At0 := Lib.hid at0; have Gt0 := Lib.hid gt0
  clear at0 gt0
  go_enter Try.func4, Try.ntmps4
  go_upto_region 1 with fail
  obtain ⟨W, hW⟩ : ∃ W, ((w.alloc (.cells #[.int .i64 o.k, .int .i64 o.c0, .int .i64 o.c1, .int .i64 o.c2, .int .i64 o.v0, .int .i64 o.v1, .int .i64 o.v2, .int .i64 o.v3, .int .i64 o.w0, .int .i64 o.w1, .int .i64 o.w2, .int .i64 o.w3, .int .i64 o.s0, .int .i64 o.s1, .int .i64 o.s2, .int .i64 o.s3, .int .i64 o.eta, .int .i64 o.dark] 26)).alloc (.cells #[.int .i64 g.a0, .int .i64 g.h0, .int .i64 g.x0, .int .i64 g.a1, .int .i64 g.h1, .int .i64 g.x1, .int .i64 g.a2, .int .i64 g.h2, .int .i64 g.x2] 35)) = W := ⟨_, rfl⟩
  rw [hW] at hb0 At0 Gt0 ⊢
  clear hW
  go_wp2_with (first | (refine wpList_load_row rfl 26 _ rfl w.heap.size rfl 26 _ (0, 0) _ At0.out Try.underlying26 rfl (by kernel_rfl) ?_) | (refine wpList_load_row rfl 35 _ rfl (w.heap.size + 1) rfl 35 _ (0, 0) _ Gt0.out Try.underlying35 rfl (by kernel_rfl) ?_))
  refine (c1 _).mono ?_
  rintro e v1 ⟨z1, z2, rfl, b1, b2, hx⟩
  obtain ⟨A1, a1, rfl, n1⟩ := b1.nt
  obtain ⟨B1', d1, rfl, m1⟩ := b2.nt
  have gq := gq_new v1 n1 m1 39
  have hz := below_alloc hx (.cells #[.slice A1 (limbs N).length a1, .slice B1' (limbs D).length d1] 39)
  clear n1 m1 b1 b2 hx
  go_upto_region 2 with fail
  obtain ⟨u1, hu⟩ : ∃ u1, v1.alloc (.cells #[.slice A1 (limbs N).length a1, .slice B1' (limbs D).length d1] 39) = u1 := ⟨_, rfl⟩
  rw [hu] at gq hz ⊢
  have hb1 := below_trans hb0 hz
  have At1 := Lib.hid (At0.out.on hz); have Gt1 := Lib.hid (Gt0.out.on hz)
  have G1 := Lib.hid gq
  clear hu gq hz At0 Gt0 hb0
  go_wp2_with (first | (refine wpList_load_row rfl 26 _ rfl w.heap.size rfl 26 _ (0, 0) _ At1.out Try.underlying26 rfl (by kernel_rfl) ?_) | (refine wpList_load_row rfl 35 _ rfl (w.heap.size + 1) rfl 35 _ (0, 0) _ Gt1.out Try.underlying35 rfl (by kernel_rfl) ?_))
  refine (c2 _).mono ?_
  rintro e v2 ⟨z1, z2, rfl, b1, b2, hx⟩
  obtain ⟨A2, a2, rfl, n1⟩ := b1.nt
  obtain ⟨B2', d2, rfl, m1⟩ := b2.nt
  have gq := gq_new v2 n1 m1 39
  have hz := below_alloc hx (.cells #[.slice A2 (limbs N).length a2, .slice B2' (limbs D).length d2] 39)
  clear n1 m1 b1 b2 hx
  go_upto_region 3 with fail
  obtain ⟨u2, hu⟩ : ∃ u2, v2.alloc (.cells #[.slice A2 (limbs N).length a2, .slice B2' (limbs D).length d2] 39) = u2 := ⟨_, rfl⟩
  rw [hu] at gq hz ⊢
  have hb2 := below_trans hb1 hz
  have At2 := Lib.hid (At1.out.on hz); have Gt2 := Lib.hid (Gt1.out.on hz)
  have G2 := Lib.hid gq
  have G1 := Lib.hid (G1.out.on hz)
  clear hu gq hz At1 Gt1 hb1
  go_wp2_with (first | (refine wpList_load_row rfl 26 _ rfl w.heap.size rfl 26 _ (0, 0) _ At2.out Try.underlying26 rfl (by kernel_rfl) ?_) | (refine wpList_load_row rfl 35 _ rfl (w.heap.size + 1) rfl 35 _ (0, 0) _ Gt2.out Try.underlying35 rfl (by kernel_rfl) ?_))
  refine (c3 _).mono ?_
  rintro e v3 ⟨z1, z2, rfl, b1, b2, hx⟩
  obtain ⟨A3, a3, rfl, n1⟩ := b1.nt
  obtain ⟨B3', d3, rfl, m1⟩ := b2.nt
  have gq := gq_new v3 n1 m1 39
  have hz := below_alloc hx (.cells #[.slice A3 (limbs M).length a3, .slice B3' (limbs F).length d3] 39)
  clear n1 m1 b1 b2 hx
  go_upto_region 4 with fail
  obtain ⟨u3, hu⟩ : ∃ u3, v3.alloc (.cells #[.slice A3 (limbs M).length a3, .slice B3' (limbs F).length d3] 39) = u3 := ⟨_, rfl⟩
  rw [hu] at gq hz ⊢
  have hb3 := below_trans hb2 hz
  have At3 := Lib.hid (At2.out.on hz); have Gt3 := Lib.hid (Gt2.out.on hz)
  have G3 := Lib.hid gq
  have G1 := Lib.hid (G1.out.on hz)
  have G2 := Lib.hid (G2.out.on hz)
  clear hu gq hz At2 Gt2 hb2
  go_wp2_with (first | (refine wpList_load_row rfl 26 _ rfl w.heap.size rfl 26 _ (0, 0) _ At3.out Try.underlying26 rfl (by kernel_rfl) ?_) | (refine wpList_load_row rfl 35 _ rfl (w.heap.size + 1) rfl 35 _ (0, 0) _ Gt3.out Try.underlying35 rfl (by kernel_rfl) ?_))
  refine (c4 _).mono ?_
  rintro e v4 ⟨z1, z2, rfl, b1, b2, hx⟩
  obtain ⟨A4, a4, rfl, n1⟩ := b1.nt
  obtain ⟨B4', d4, rfl, m1⟩ := b2.nt
  have gq := gq_new v4 n1 m1 39
  have hz := below_alloc hx (.cells #[.slice A4 (limbs M).length a4, .slice B4' (limbs F).length d4] 39)
  clear n1 m1 b1 b2 hx
  go_upto_region 5 with fail
  obtain ⟨u4, hu⟩ : ∃ u4, v4.alloc (.cells #[.slice A4 (limbs M).length a4, .slice B4' (limbs F).length d4] 39) = u4 := ⟨_, rfl⟩
  rw [hu] at gq hz ⊢
  have hb4 := below_trans hb3 hz
  have At4 := Lib.hid (At3.out.on hz); have Gt4 := Lib.hid (Gt3.out.on hz)
  have G4 := Lib.hid gq
  have G1 := Lib.hid (G1.out.on hz)
  have G2 := Lib.hid (G2.out.on hz)
  have G3 := Lib.hid (G3.out.on hz)
  clear hu gq hz At3 Gt3 hb3
  go_wp2_with (first | (refine wpList_load_row rfl 26 _ rfl w.heap.size rfl 26 _ (0, 0) _ At4.out Try.underlying26 rfl (by kernel_rfl) ?_) | (refine wpList_load_row rfl 35 _ rfl (w.heap.size + 1) rfl 35 _ (0, 0) _ Gt4.out Try.underlying35 rfl (by kernel_rfl) ?_))
  refine (c5 _).mono ?_
  rintro e u5 ⟨rfl, hz⟩
  have hb5 := below_trans hb4 hz
  have At5 := Lib.hid (At4.out.on hz); have Gt5 := Lib.hid (Gt4.out.on hz)
  have G1 := Lib.hid (G1.out.on hz)
  have G2 := Lib.hid (G2.out.on hz)
  have G3 := Lib.hid (G3.out.on hz)
  have G4 := Lib.hid (G4.out.on hz)
  clear hz At4 Gt4 hb4
  go_upto_region 6 with fail
  go_cut [17, 18] (fun va vb wx => va = .int .i64 (K : Int) ∧ vb = .int .i64 X ∧ Below u5.heap.size u5 wx)
  case first =>
    go_wp2_with (first | (refine wpList_load_row rfl 26 _ rfl w.heap.size rfl 26 _ (0, 0) _ At5.out Try.underlying26 rfl (by kernel_rfl) ?_) | (refine wpList_load_row rfl 35 _ rfl (w.heap.size + 1) rfl 35 _ (0, 0) _ Gt5.out Try.underlying35 rfl (by kernel_rfl) ?_))
    refine (c6 _).mono ?_
    rintro e u6 ⟨rfl, hz⟩
    go_wp2_with fail
    go_meet
    case rel => exact ⟨rfl, rfl, hz⟩
  obtain ⟨rfl, rfl, hz⟩ := hcut
  obtain ⟨u6, hu6⟩ : ∃ u6, wc = u6 := ⟨_, rfl⟩
  rw [hu6] at hz ⊢
  have hb6 := below_trans hb5 hz
  have At6 := Lib.hid (At5.out.on hz); have Gt6 := Lib.hid (Gt5.out.on hz)
  have G1 := Lib.hid (G1.out.on hz)
  have G2 := Lib.hid (G2.out.on hz)
  have G3 := Lib.hid (G3.out.on hz)
  have G4 := Lib.hid (G4.out.on hz)
  clear hz hu6 At5 Gt5 hb5
  go_upto_region 7 with fail
  have L0 := fun w' (hb : Below u6.heap.size u6 w') => (G1.out.on hb).1.1
  have L1 := fun w' (hb : Below u6.heap.size u6 w') => (G1.out.on hb).1.2
  have L2 := fun w' (hb : Below u6.heap.size u6 w') => (G2.out.on hb).1.1
  have L3 := fun w' (hb : Below u6.heap.size u6 w') => (G2.out.on hb).1.2
  have L4 := fun w' (hb : Below u6.heap.size u6 w') => (G3.out.on hb).1.1
  have L5 := fun w' (hb : Below u6.heap.size u6 w') => (G3.out.on hb).1.2
  have L6 := fun w' (hb : Below u6.heap.size u6 w') => (G4.out.on hb).1.1
  have L7 := fun w' (hb : Below u6.heap.size u6 w') => (G4.out.on hb).1.2
  refine wp_region_held_drew (S := fun w' => Below u6.heap.size u6 w') (by kernel_rfl) (Below.refl _ _).drew (fun hHeld => ?_)
  have B0 : Below u6.heap.size u6 u6.drew := (Below.refl _ _).drew
  refine wpAnyH_take (i := 0) (v := _) rfl (by kernel_rfl) (by kernel_rfl) (by kernel_rfl) (fun _ _ _ h => h) (Or.inl ⟨by rfl, load_row 26 _ rfl w.heap.size rfl 26 _ (0, 0) _ (fun w' hb => At6.out.on hb) Try.underlying26 rfl (by kernel_rfl)⟩) (by assumption) ?_
  (try simp only [Act.put, List.getElem_toArray, List.getElem_cons_succ, List.getElem_cons_zero, List.setIfInBounds_toArray, List.set_cons_zero, List.set_cons_succ])
  refine wpAnyH_take (i := 2) (v := _) rfl (by kernel_rfl) (by kernel_rfl) (by kernel_rfl) (fun _ _ _ h => h) (Or.inl ⟨by rfl, load_row 26 _ rfl w.heap.size rfl 26 _ (0, 0) _ (fun w' hb => At6.out.on hb) Try.underlying26 rfl (by kernel_rfl)⟩) (by assumption) ?_
  (try simp only [Act.put, List.getElem_toArray, List.getElem_cons_succ, List.getElem_cons_zero, List.setIfInBounds_toArray, List.set_cons_zero, List.set_cons_succ])
  refine wpAnyH_ready (rs := [1]) (by kernel_rfl) (by simp) ?_
  refine AllReadyH.cons rfl (fun K1 hK1 => ?_) AllReadyH.nil
  go_simp
  refine (c7 _).mono ?_
  rintro e y1 ⟨rfl, hx1⟩
  have B1 := below_trans B0 hx1
  go_wp2_with fail
  refine hK1.out _ _ B1 (fun hHeldN => ?_)
  clear hK1 K1
  (try simp only [Act.put, List.getElem_toArray, List.getElem_cons_succ, List.getElem_cons_zero, List.setIfInBounds_toArray, List.set_cons_zero, List.set_cons_succ])
  refine wpAnyH_ready (rs := [3]) (by kernel_rfl) (by simp) ?_
  refine AllReadyH.cons rfl (fun K1 hK1 => ?_) AllReadyH.nil
  go_simp
  refine (c8 _).mono ?_
  rintro e y2 ⟨rfl, hx3⟩
  have B2 := below_trans B1 hx3
  go_wp2_with fail
  refine hK1.out _ _ B2 (fun hHeldN => ?_)
  clear hK1 K1
  (try simp only [Act.put, List.getElem_toArray, List.getElem_cons_succ, List.getElem_cons_zero, List.setIfInBounds_toArray, List.set_cons_zero, List.set_cons_succ])
  (refine wpAnyH_take (i := 4) (v := ?_) rfl (by kernel_rfl) (by kernel_rfl) (by kernel_rfl) (fun _ _ _ h => h) (Or.inl ⟨by rfl, ?_⟩) (by assumption) ?_; rotate_left 1; (focus (intro wz hSz; (try dsimp only at hSz); go_simp; (try with_reducible rfl))); (try simp only [Act.put, List.setIfInBounds_toArray, List.set_cons_zero, List.set_cons_succ]))
  (try simp only [Act.put, List.getElem_toArray, List.getElem_cons_succ, List.getElem_cons_zero, List.setIfInBounds_toArray, List.set_cons_zero, List.set_cons_succ])
  (refine wpAnyH_take (i := 5) (v := ?_) rfl (by kernel_rfl) (by kernel_rfl) (by kernel_rfl) (fun _ _ _ h => h) (Or.inl ⟨by rfl, ?_⟩) (by assumption) ?_; rotate_left 1; (focus (intro wz hSz; (try dsimp only at hSz); go_simp; (try with_reducible rfl))); (try simp only [Act.put, List.setIfInBounds_toArray, List.set_cons_zero, List.set_cons_succ]))
  (try simp only [Act.put, List.getElem_toArray, List.getElem_cons_succ, List.getElem_cons_zero, List.setIfInBounds_toArray, List.set_cons_zero, List.set_cons_succ])
  (refine wpAnyH_take (i := 6) (v := ?_) rfl (by kernel_rfl) (by kernel_rfl) (by kernel_rfl) (fun _ _ _ h => h) (Or.inl ⟨by rfl, ?_⟩) (by assumption) ?_; rotate_left 1; (focus (intro wz hSz; (try dsimp only at hSz); go_simp; (try with_reducible rfl))); (try simp only [Act.put, List.setIfInBounds_toArray, List.set_cons_zero, List.set_cons_succ]))
  (try simp only [Act.put, List.getElem_toArray, List.getElem_cons_succ, List.getElem_cons_zero, List.setIfInBounds_toArray, List.set_cons_zero, List.set_cons_succ])
  (refine wpAnyH_take (i := 7) (v := ?_) rfl (by kernel_rfl) (by kernel_rfl) (by kernel_rfl) (fun _ _ _ h => h) (Or.inl ⟨by rfl, ?_⟩) (by assumption) ?_; rotate_left 1; (focus (intro wz hSz; (try dsimp only at hSz); go_simp; (try with_reducible rfl))); (try simp only [Act.put, List.setIfInBounds_toArray, List.set_cons_zero, List.set_cons_succ]))
  (try simp only [Act.put, List.getElem_toArray, List.getElem_cons_succ, List.getElem_cons_zero, List.setIfInBounds_toArray, List.set_cons_zero, List.set_cons_succ])
  (refine wpAnyH_take (i := 8) (v := ?_) rfl (by kernel_rfl) (by kernel_rfl) (by kernel_rfl) (fun _ _ _ h => h) (Or.inl ⟨by rfl, ?_⟩) (by assumption) ?_; rotate_left 1; (focus (intro wz hSz; (try dsimp only at hSz); go_simp; (try with_reducible rfl))); (try simp only [Act.put, List.setIfInBounds_toArray, List.set_cons_zero, List.set_cons_succ]))
  (try simp only [Act.put, List.getElem_toArray, List.getElem_cons_succ, List.getElem_cons_zero, List.setIfInBounds_toArray, List.set_cons_zero, List.set_cons_succ])
  (refine wpAnyH_take (i := 9) (v := ?_) rfl (by kernel_rfl) (by kernel_rfl) (by kernel_rfl) (fun _ _ _ h => h) (Or.inl ⟨by rfl, ?_⟩) (by assumption) ?_; rotate_left 1; (focus (intro wz hSz; (try dsimp only at hSz); go_simp; (try with_reducible rfl))); (try simp only [Act.put, List.setIfInBounds_toArray, List.set_cons_zero, List.set_cons_succ]))
  (try simp only [Act.put, List.getElem_toArray, List.getElem_cons_succ, List.getElem_cons_zero, List.setIfInBounds_toArray, List.set_cons_zero, List.set_cons_succ])
  (refine wpAnyH_take (i := 10) (v := ?_) rfl (by kernel_rfl) (by kernel_rfl) (by kernel_rfl) (fun _ _ _ h => h) (Or.inl ⟨by rfl, ?_⟩) (by assumption) ?_; rotate_left 1; (focus (intro wz hSz; (try dsimp only at hSz); go_simp; (try with_reducible rfl))); (try simp only [Act.put, List.setIfInBounds_toArray, List.set_cons_zero, List.set_cons_succ]))
  (try simp only [Act.put, List.getElem_toArray, List.getElem_cons_succ, List.getElem_cons_zero, List.setIfInBounds_toArray, List.set_cons_zero, List.set_cons_succ])
  (refine wpAnyH_take (i := 11) (v := ?_) rfl (by kernel_rfl) (by kernel_rfl) (by kernel_rfl) (fun _ _ _ h => h) (Or.inl ⟨by rfl, ?_⟩) (by assumption) ?_; rotate_left 1; (focus (intro wz hSz; (try dsimp only at hSz); go_simp; (try with_reducible rfl))); (try simp only [Act.put, List.setIfInBounds_toArray, List.set_cons_zero, List.set_cons_succ]))
  (try simp only [Act.put, List.getElem_toArray, List.getElem_cons_succ, List.getElem_cons_zero, List.setIfInBounds_toArray, List.set_cons_zero, List.set_cons_succ])
  (refine wpAnyH_take (i := 12) (v := ?_) rfl (by kernel_rfl) (by kernel_rfl) (by kernel_rfl) (fun _ _ _ h => h) (Or.inl ⟨by rfl, ?_⟩) (by assumption) ?_; rotate_left 1; (focus (intro wz hSz; (try dsimp only at hSz); go_simp; (try with_reducible rfl))); (try simp only [Act.put, List.setIfInBounds_toArray, List.set_cons_zero, List.set_cons_succ]))
  (try simp only [Act.put, List.getElem_toArray, List.getElem_cons_succ, List.getElem_cons_zero, List.setIfInBounds_toArray, List.set_cons_zero, List.set_cons_succ])
  (refine wpAnyH_take (i := 13) (v := ?_) rfl (by kernel_rfl) (by kernel_rfl) (by kernel_rfl) (fun _ _ _ h => h) (Or.inl ⟨by rfl, ?_⟩) (by assumption) ?_; rotate_left 1; (focus (intro wz hSz; (try dsimp only at hSz); go_simp; (try with_reducible rfl))); (try simp only [Act.put, List.setIfInBounds_toArray, List.set_cons_zero, List.set_cons_succ]))
  (try simp only [Act.put, List.getElem_toArray, List.getElem_cons_succ, List.getElem_cons_zero, List.setIfInBounds_toArray, List.set_cons_zero, List.set_cons_succ])
  (refine wpAnyH_take (i := 14) (v := ?_) rfl (by kernel_rfl) (by kernel_rfl) (by kernel_rfl) (fun _ _ _ h => h) (Or.inl ⟨by rfl, ?_⟩) (by assumption) ?_; rotate_left 1; (focus (intro wz hSz; (try dsimp only at hSz); go_simp; (try with_reducible rfl))); (try simp only [Act.put, List.setIfInBounds_toArray, List.set_cons_zero, List.set_cons_succ]))
  (try simp only [Act.put, List.getElem_toArray, List.getElem_cons_succ, List.getElem_cons_zero, List.setIfInBounds_toArray, List.set_cons_zero, List.set_cons_succ])
  (refine wpAnyH_take (i := 15) (v := ?_) rfl (by kernel_rfl) (by kernel_rfl) (by kernel_rfl) (fun _ _ _ h => h) (Or.inl ⟨by rfl, ?_⟩) (by assumption) ?_; rotate_left 1; (focus (intro wz hSz; (try dsimp only at hSz); go_simp; (try with_reducible rfl))); (try simp only [Act.put, List.setIfInBounds_toArray, List.set_cons_zero, List.set_cons_succ]))
  (try simp only [Act.put, List.getElem_toArray, List.getElem_cons_succ, List.getElem_cons_zero, List.setIfInBounds_toArray, List.set_cons_zero, List.set_cons_succ])
  (refine wpAnyH_take (i := 16) (v := ?_) rfl (by kernel_rfl) (by kernel_rfl) (by kernel_rfl) (fun _ _ _ h => h) (Or.inl ⟨by rfl, ?_⟩) (by assumption) ?_; rotate_left 1; (focus (intro wz hSz; (try dsimp only at hSz); go_simp; (try with_reducible rfl))); (try simp only [Act.put, List.setIfInBounds_toArray, List.set_cons_zero, List.set_cons_succ]))
  (try simp only [Act.put, List.getElem_toArray, List.getElem_cons_succ, List.getElem_cons_zero, List.setIfInBounds_toArray, List.set_cons_zero, List.set_cons_succ])
  (refine wpAnyH_take (i := 17) (v := ?_) rfl (by kernel_rfl) (by kernel_rfl) (by kernel_rfl) (fun _ _ _ h => h) (Or.inl ⟨by rfl, ?_⟩) (by assumption) ?_; rotate_left 1; (focus (intro wz hSz; (try dsimp only at hSz); go_simp; (try with_reducible rfl))); (try simp only [Act.put, List.setIfInBounds_toArray, List.set_cons_zero, List.set_cons_succ]))
  (try simp only [Act.put, List.getElem_toArray, List.getElem_cons_succ, List.getElem_cons_zero, List.setIfInBounds_toArray, List.set_cons_zero, List.set_cons_succ])
  (refine wpAnyH_take (i := 18) (v := ?_) rfl (by kernel_rfl) (by kernel_rfl) (by kernel_rfl) (fun _ _ _ h => h) (Or.inl ⟨by rfl, ?_⟩) (by assumption) ?_; rotate_left 1; (focus (intro wz hSz; (try dsimp only at hSz); go_simp; (try with_reducible rfl))); (try simp only [Act.put, List.setIfInBounds_toArray, List.set_cons_zero, List.set_cons_succ]))
  (try simp only [Act.put, List.getElem_toArray, List.getElem_cons_succ, List.getElem_cons_zero, List.setIfInBounds_toArray, List.set_cons_zero, List.set_cons_succ])
  (refine wpAnyH_take (i := 19) (v := ?_) rfl (by kernel_rfl) (by kernel_rfl) (by kernel_rfl) (fun _ _ _ h => h) (Or.inl ⟨by rfl, ?_⟩) (by assumption) ?_; rotate_left 1; (focus (intro wz hSz; (try dsimp only at hSz); go_simp; (try with_reducible rfl))); (try simp only [Act.put, List.setIfInBounds_toArray, List.set_cons_zero, List.set_cons_succ]))
  (try simp only [Act.put, List.getElem_toArray, List.getElem_cons_succ, List.getElem_cons_zero, List.setIfInBounds_toArray, List.set_cons_zero, List.set_cons_succ])
  (refine wpAnyH_take (i := 20) (v := ?_) rfl (by kernel_rfl) (by kernel_rfl) (by kernel_rfl) (fun _ _ _ h => h) (Or.inl ⟨by rfl, ?_⟩) (by assumption) ?_; rotate_left 1; (focus (intro wz hSz; (try dsimp only at hSz); go_simp; (try with_reducible rfl))); (try simp only [Act.put, List.setIfInBounds_toArray, List.set_cons_zero, List.set_cons_succ]))
  (try simp only [Act.put, List.getElem_toArray, List.getElem_cons_succ, List.getElem_cons_zero, List.setIfInBounds_toArray, List.set_cons_zero, List.set_cons_succ])
  (refine wpAnyH_take (i := 21) (v := ?_) rfl (by kernel_rfl) (by kernel_rfl) (by kernel_rfl) (fun _ _ _ h => h) (Or.inl ⟨by rfl, ?_⟩) (by assumption) ?_; rotate_left 1; (focus (intro wz hSz; (try dsimp only at hSz); go_simp; (try with_reducible rfl))); (try simp only [Act.put, List.setIfInBounds_toArray, List.set_cons_zero, List.set_cons_succ]))
  (try simp only [Act.put, List.getElem_toArray, List.getElem_cons_succ, List.getElem_cons_zero, List.setIfInBounds_toArray, List.set_cons_zero, List.set_cons_succ])
  (refine wpAnyH_take (i := 22) (v := ?_) rfl (by kernel_rfl) (by kernel_rfl) (by kernel_rfl) (fun _ _ _ h => h) (Or.inl ⟨by rfl, ?_⟩) (by assumption) ?_; rotate_left 1; (focus (intro wz hSz; (try dsimp only at hSz); go_simp; (try with_reducible rfl))); (try simp only [Act.put, List.setIfInBounds_toArray, List.set_cons_zero, List.set_cons_succ]))
  (try simp only [Act.put, List.getElem_toArray, List.getElem_cons_succ, List.getElem_cons_zero, List.setIfInBounds_toArray, List.set_cons_zero, List.set_cons_succ])
  (refine wpAnyH_take (i := 23) (v := ?_) rfl (by kernel_rfl) (by kernel_rfl) (by kernel_rfl) (fun _ _ _ h => h) (Or.inl ⟨by rfl, ?_⟩) (by assumption) ?_; rotate_left 1; (focus (intro wz hSz; (try dsimp only at hSz); go_simp; (try with_reducible rfl))); (try simp only [Act.put, List.setIfInBounds_toArray, List.set_cons_zero, List.set_cons_succ]))
  (try simp only [Act.put, List.getElem_toArray, List.getElem_cons_succ, List.getElem_cons_zero, List.setIfInBounds_toArray, List.set_cons_zero, List.set_cons_succ])
  (refine wpAnyH_take (i := 24) (v := ?_) rfl (by kernel_rfl) (by kernel_rfl) (by kernel_rfl) (fun _ _ _ h => h) (Or.inl ⟨by rfl, ?_⟩) (by assumption) ?_; rotate_left 1; (focus (intro wz hSz; (try dsimp only at hSz); go_simp; (try with_reducible rfl))); (try simp only [Act.put, List.setIfInBounds_toArray, List.set_cons_zero, List.set_cons_succ]))
  (try simp only [Act.put, List.getElem_toArray, List.getElem_cons_succ, List.getElem_cons_zero, List.setIfInBounds_toArray, List.set_cons_zero, List.set_cons_succ])
  (refine wpAnyH_take (i := 25) (v := ?_) rfl (by kernel_rfl) (by kernel_rfl) (by kernel_rfl) (fun _ _ _ h => h) (Or.inl ⟨by rfl, ?_⟩) (by assumption) ?_; rotate_left 1; (focus (intro wz hSz; (try dsimp only at hSz); go_simp; (try with_reducible rfl))); (try simp only [Act.put, List.setIfInBounds_toArray, List.set_cons_zero, List.set_cons_succ]))
  (try simp only [Act.put, List.getElem_toArray, List.getElem_cons_succ, List.getElem_cons_zero, List.setIfInBounds_toArray, List.set_cons_zero, List.set_cons_succ])
  (refine wpAnyH_take (i := 26) (v := ?_) rfl (by kernel_rfl) (by kernel_rfl) (by kernel_rfl) (fun _ _ _ h => h) (Or.inl ⟨by rfl, ?_⟩) (by assumption) ?_; rotate_left 1; (focus (intro wz hSz; (try dsimp only at hSz); go_simp; (try with_reducible rfl))); (try simp only [Act.put, List.setIfInBounds_toArray, List.set_cons_zero, List.set_cons_succ]))
  (try simp only [Act.put, List.getElem_toArray, List.getElem_cons_succ, List.getElem_cons_zero, List.setIfInBounds_toArray, List.set_cons_zero, List.set_cons_succ])
  (refine wpAnyH_take (i := 27) (v := ?_) rfl (by kernel_rfl) (by kernel_rfl) (by kernel_rfl) (fun _ _ _ h => h) (Or.inl ⟨by rfl, ?_⟩) (by assumption) ?_; rotate_left 1; (focus (intro wz hSz; (try dsimp only at hSz); go_simp; (try with_reducible rfl))); (try simp only [Act.put, List.setIfInBounds_toArray, List.set_cons_zero, List.set_cons_succ]))
  (try simp only [Act.put, List.getElem_toArray, List.getElem_cons_succ, List.getElem_cons_zero, List.setIfInBounds_toArray, List.set_cons_zero, List.set_cons_succ])
  refine wpAnyH_ready (rs := [28]) (by kernel_rfl) (by simp) ?_
  refine AllReadyH.cons rfl (fun K1 hK1 => ?_) AllReadyH.nil
  go_simp
  refine (sameFrac_same A1 B1' A2 B2' a1 d1 a2 d2 N D y2 ((G1.out.on B2).2.1) ((G1.out.on B2).2.2) ((G2.out.on B2).2.1) ((G2.out.on B2).2.2) S1.out.1 S1.out.2).mono ?_
  rintro e y3 ⟨rfl, hx28⟩
  have B3 := below_trans B2 hx28
  go_wp2_with fail
  refine hK1.out _ _ B3 (fun hHeldN => ?_)
  clear hK1 K1
  (try simp only [Act.put, List.getElem_toArray, List.getElem_cons_succ, List.getElem_cons_zero, List.setIfInBounds_toArray, List.set_cons_zero, List.set_cons_succ])
  (refine wpAnyH_take (i := 29) (v := ?_) rfl (by kernel_rfl) (by kernel_rfl) (by kernel_rfl) (fun _ _ _ h => h) (Or.inl ⟨by rfl, ?_⟩) (by assumption) ?_; rotate_left 1; (focus (intro wz hSz; (try dsimp only at hSz); go_simp; (try with_reducible rfl))); (try simp only [Act.put, List.setIfInBounds_toArray, List.set_cons_zero, List.set_cons_succ]))
  (try simp only [Act.put, List.getElem_toArray, List.getElem_cons_succ, List.getElem_cons_zero, List.setIfInBounds_toArray, List.set_cons_zero, List.set_cons_succ])
  (refine wpAnyH_take (i := 30) (v := ?_) rfl (by kernel_rfl) (by kernel_rfl) (by kernel_rfl) (fun _ _ _ h => h) (Or.inl ⟨by rfl, ?_⟩) (by assumption) ?_; rotate_left 1; (focus (intro wz hSz; (try dsimp only at hSz); go_simp; (try with_reducible rfl))); (try simp only [Act.put, List.setIfInBounds_toArray, List.set_cons_zero, List.set_cons_succ]))
  (try simp only [Act.put, List.getElem_toArray, List.getElem_cons_succ, List.getElem_cons_zero, List.setIfInBounds_toArray, List.set_cons_zero, List.set_cons_succ])
  (refine wpAnyH_take (i := 31) (v := ?_) rfl (by kernel_rfl) (by kernel_rfl) (by kernel_rfl) (fun _ _ _ h => h) (Or.inl ⟨by rfl, ?_⟩) (by assumption) ?_; rotate_left 1; (focus (intro wz hSz; (try dsimp only at hSz); go_simp; (try with_reducible rfl))); (try simp only [Act.put, List.setIfInBounds_toArray, List.set_cons_zero, List.set_cons_succ]))
  (try simp only [Act.put, List.getElem_toArray, List.getElem_cons_succ, List.getElem_cons_zero, List.setIfInBounds_toArray, List.set_cons_zero, List.set_cons_succ])
  (refine wpAnyH_take (i := 32) (v := ?_) rfl (by kernel_rfl) (by kernel_rfl) (by kernel_rfl) (fun _ _ _ h => h) (Or.inl ⟨by rfl, ?_⟩) (by assumption) ?_; rotate_left 1; (focus (intro wz hSz; (try dsimp only at hSz); go_simp; (try with_reducible rfl))); (try simp only [Act.put, List.setIfInBounds_toArray, List.set_cons_zero, List.set_cons_succ]))
  (try simp only [Act.put, List.getElem_toArray, List.getElem_cons_succ, List.getElem_cons_zero, List.setIfInBounds_toArray, List.set_cons_zero, List.set_cons_succ])
  refine wpAnyH_ready (rs := [33]) (by kernel_rfl) (by simp) ?_
  refine AllReadyH.cons rfl (fun K1 hK1 => ?_) AllReadyH.nil
  go_simp
  refine (sameFrac_same A3 B3' A4 B4' a3 d3 a4 d4 M F y3 ((G3.out.on B3).2.1) ((G3.out.on B3).2.2) ((G4.out.on B3).2.1) ((G4.out.on B3).2.2) S2.out.1 S2.out.2).mono ?_
  rintro e y4 ⟨rfl, hx33⟩
  have B4 := below_trans B3 hx33
  go_wp2_with fail
  refine hK1.out _ _ B4 (fun hHeldN => ?_)
  clear hK1 K1
  (try simp only [Act.put, List.getElem_toArray, List.getElem_cons_succ, List.getElem_cons_zero, List.setIfInBounds_toArray, List.set_cons_zero, List.set_cons_succ])
  (refine wpAnyH_take (i := 34) (v := ?_) rfl (by kernel_rfl) (by kernel_rfl) (by kernel_rfl) (fun _ _ _ h => h) (Or.inl ⟨by rfl, ?_⟩) (by assumption) ?_; rotate_left 1; (focus (intro wz hSz; (try dsimp only at hSz); go_simp; (try with_reducible rfl))); (try simp only [Act.put, List.setIfInBounds_toArray, List.set_cons_zero, List.set_cons_succ]))
  (try simp only [Act.put, List.getElem_toArray, List.getElem_cons_succ, List.getElem_cons_zero, List.setIfInBounds_toArray, List.set_cons_zero, List.set_cons_succ])
  (refine wpAnyH_take (i := 35) (v := ?_) rfl (by kernel_rfl) (by kernel_rfl) (by kernel_rfl) (fun _ _ _ h => h) (Or.inl ⟨by rfl, ?_⟩) (by assumption) ?_; rotate_left 1; (focus (intro wz hSz; (try dsimp only at hSz); go_simp; (try with_reducible rfl))); (try simp only [Act.put, List.setIfInBounds_toArray, List.set_cons_zero, List.set_cons_succ]))
  (try simp only [Act.put, List.getElem_toArray, List.getElem_cons_succ, List.getElem_cons_zero, List.setIfInBounds_toArray, List.set_cons_zero, List.set_cons_succ])
  refine wpAnyH_ready (rs := [36]) (by kernel_rfl) (by simp) ?_
  refine AllReadyH.cons rfl (fun K1 hK1 => ?_) AllReadyH.nil
  go_simp
  refine (c9 _).mono ?_
  rintro e y5 ⟨rfl, hx36⟩
  have B5 := below_trans B4 hx36
  go_wp2_with fail
  refine hK1.out _ _ B5 (fun hHeldN => ?_)
  clear hK1 K1
  (try simp only [Act.put, List.getElem_toArray, List.getElem_cons_succ, List.getElem_cons_zero, List.setIfInBounds_toArray, List.set_cons_zero, List.set_cons_succ])
  (refine wpAnyH_take (i := 37) (v := ?_) rfl (by kernel_rfl) (by kernel_rfl) (by kernel_rfl) (fun _ _ _ h => h) (Or.inl ⟨by rfl, ?_⟩) (by assumption) ?_; rotate_left 1; (focus (intro wz hSz; (try dsimp only at hSz); go_simp; (try with_reducible rfl))); (try simp only [Act.put, List.setIfInBounds_toArray, List.set_cons_zero, List.set_cons_succ]))
  (try simp only [Act.put, List.getElem_toArray, List.getElem_cons_succ, List.getElem_cons_zero, List.setIfInBounds_toArray, List.set_cons_zero, List.set_cons_succ])
  (refine wpAnyH_take (i := 38) (v := ?_) rfl (by kernel_rfl) (by kernel_rfl) (by kernel_rfl) (fun _ _ _ h => h) (Or.inl ⟨by rfl, ?_⟩) (by assumption) ?_; rotate_left 1; (focus (intro wz hSz; (try dsimp only at hSz); go_simp; (try with_reducible rfl))); (try simp only [Act.put, List.setIfInBounds_toArray, List.set_cons_zero, List.set_cons_succ]))
  (try simp only [Act.put, List.getElem_toArray, List.getElem_cons_succ, List.getElem_cons_zero, List.setIfInBounds_toArray, List.set_cons_zero, List.set_cons_succ])
  (try simp only [Act.put, List.getElem_toArray, List.getElem_cons_succ, List.getElem_cons_zero, List.setIfInBounds_toArray, List.set_cons_zero, List.set_cons_succ])
  refine wpAnyH_done (by kernel_rfl) ?_ _
  have q9 := below_trans hb6 B5
  go_wp2_with fail
  go_ret
  exact ⟨rfl, q9⟩

end Go.Proofs.Ytbobbcfjjdmdgaa
