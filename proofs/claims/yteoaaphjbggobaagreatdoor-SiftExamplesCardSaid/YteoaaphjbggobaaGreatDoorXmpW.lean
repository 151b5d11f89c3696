/- The walk of the closed statement SiftExamples. -/
import Derived.Test.YteoaaphjbggobaaGreatDoorXmpP
import Derived.Test.YteoaaphjbggobaaGreatDoorStxW
import Derived.Test.YteoaaphjbggobaaGreatDoorNtxAll
import Derived.Test.YteoaaphjbggobaaGreatDoorMatch
import Derived.Test.YteoaaphjbggobaaGreatDoorBndW
import Derived.Great.Walk
import Derived.Deep.WholeRow
namespace Go.Proofs.YteoaaphjbggobaaGreatDoor
open Go.RowKit Go.Deep
set_option linter.unusedVariables false
set_option linter.unusedSimpArgs false

theorem one_any (b : Int) (t : Bool) (w : World) : Calls Tryz.prog 4 #[.int .i64 b, .bool t] w fun e w' => e = .returned (.agg #[.int .i64 b, .bool t, .int .i64 2, .int .i64 1, .bool true]) ∧ Below w.heap.size w w' := by
  go_enter Tryz.func4, Tryz.ntmps4
  go_wp2
  refine bodyPost_ret (v := .agg #[.int .i64 b, .bool t, .int .i64 2, .int .i64 1, .bool true]) ?_ rfl ⟨rfl, below_alloc (Below.refl _ _) _⟩
  unfold results
  go_simp

theorem heap_last (w : World) (o : Obj) : (w.alloc o).heap[w.heap.size]? = some o := by
  show (w.heap.push o)[w.heap.size]? = some o
  simp
theorem wpList_buildAs {P : Program} {ops : Array Oper} {rest : List Oper} {o : Oper} {a : Act} {w : World} {Q : Exit → Act → World → Prop} (hgd : o.guard = none) (ty : TypeId) (parts : Array (Nat × Operand)) (ho : o.op = .build ty parts)
    (vals : Array (Nat × Value)) (hv : (parts.map fun p => (p.1, a.eval p.2)) = vals) (cs : Array Value) (hc : P.built ty vals.toList = some cs) (h : wpList P ops Q rest (a.put o.dst (.agg cs)) w) : wpList P ops Q (o :: rest) a w :=
  wpList_plain hgd fun K hK => by
    unfold Oper.wp execOp
    simp only [ho, Sem.run_bind]
    have e : (parts.map fun (i, x) => (i, a.eval x)) = vals := hv
    rw [e, run_build w ty vals cs hc]
    simp only [Sem.run_pure, Result.andThen_ok]
    exact hK _ _ h
theorem lb0 : limbs 0 = [] := by kernel_rfl
theorem lb1 : limbs 1 = [1] := by kernel_rfl
theorem lb5 : limbs 5 = [5] := by kernel_rfl
theorem sameFrac_of (A B C D : Option Addr) (a b c d : Nat) (l m : List Nat) (N M : Nat) (w : World) (hN : limbs N = l) (hM : limbs M = m) (h1 : Nt w A a l) (h2 : Nt w B b m) (h3 : Nt w C c l) (h4 : Nt w D d m) (b1 : N < B32 ^ 4) (b2 : M < B32 ^ 4) :
    Calls Tryz.prog 18 #[.agg #[.slice A l.length a, .slice B m.length b], .agg #[.slice C l.length c, .slice D m.length d]] w fun e w' => e = .returned (.bool true) ∧ Below w.heap.size w w' := by
  subst hN hM
  exact sameFrac_same A B C D a b c d N M w h1 h2 h3 h4 b1 b2
theorem nt_nil (w : World) : Nt w none 0 [] := ⟨Arr.nil, by simp, by simp [maxLen], Dig.nil, fun _ => rfl⟩
set_option maxRecDepth 100000 in
set_option maxHeartbeats 32000000 in
theorem examples_walk (v : World) (ht : Env v) : Calls Tryz.prog 3 #[] v fun e w' => e = .returned (.bool true) ∧ Below v.heap.size v w' := by
  obtain ⟨w0, rfl⟩ : ∃ w0, w0 = v := ⟨_, rfl⟩
  have q0 := Below.refl w0.heap.size w0
  go_enter Tryz.func3, Tryz.ntmps3
  go_wp2_with fail
  refine (one_any _ _ _).mono ?_
  rintro e u1 ⟨rfl, hu1⟩
  go_wp2_with fail
  refine (one_any _ _ _).mono ?_
  rintro e u2 ⟨rfl, hu2⟩
  have q2 := below_trans (below_trans q0 hu1) hu2
  clear hu1 hu2
  go_wp2_with fail
  have aH := (arr_lit (enc := Pls.enc) (sz := 5) u2 exP #[.int .i64 0, .bool true, .int .i64 2, .int .i64 1, .bool true, .int .i64 1, .bool false, .int .i64 2, .int .i64 1, .bool true] 23 rfl Pls.enc_len).on (below_alloc (below_alloc (Below.refl _ _) (.cells #[.int .i64 0, .int .i64 2, .int .i64 1, .int .i64 2] 27)) (.cells #[.int .i64 1, .int .i64 1, .int .i64 0, .int .i64 2, .int .i64 1, .int .i64 1] 27))
  have aC := (arr_lit (enc := Clk.enc) (sz := 2) (u2.alloc (.cells #[.int .i64 0, .bool true, .int .i64 2, .int .i64 1, .bool true, .int .i64 1, .bool false, .int .i64 2, .int .i64 1, .bool true] 23)) xmC #[.int .i64 0, .int .i64 2, .int .i64 1, .int .i64 2] 27 rfl Clk.enc_len).on (below_alloc (Below.refl _ _) (.cells #[.int .i64 1, .int .i64 1, .int .i64 0, .int .i64 2, .int .i64 1, .int .i64 1] 27))
  have aD := arr_lit (enc := Clk.enc) (sz := 2) ((u2.alloc (.cells #[.int .i64 0, .bool true, .int .i64 2, .int .i64 1, .bool true, .int .i64 1, .bool false, .int .i64 2, .int .i64 1, .bool true] 23)).alloc (.cells #[.int .i64 0, .int .i64 2, .int .i64 1, .int .i64 2] 27)) exC #[.int .i64 1, .int .i64 1, .int .i64 0, .int .i64 2, .int .i64 1, .int .i64 1] 27 rfl Clk.enc_len
  have qh := below_alloc (below_alloc (below_alloc q2 (.cells #[.int .i64 0, .bool true, .int .i64 2, .int .i64 1, .bool true, .int .i64 1, .bool false, .int .i64 2, .int .i64 1, .bool true] 23)) (.cells #[.int .i64 0, .int .i64 2, .int .i64 1, .int .i64 2] 27)) (.cells #[.int .i64 1, .int .i64 1, .int .i64 0, .int .i64 2, .int .i64 1, .int .i64 1] 27)
  rw [show (u2.alloc (.cells #[.int .i64 0, .bool true, .int .i64 2, .int .i64 1, .bool true, .int .i64 1, .bool false, .int .i64 2, .int .i64 1, .bool true] 23)).heap.size = u2.heap.size + 1 from by simp] at aC
  rw [show ((u2.alloc (.cells #[.int .i64 0, .bool true, .int .i64 2, .int .i64 1, .bool true, .int .i64 1, .bool false, .int .i64 2, .int .i64 1, .bool true] 23)).alloc (.cells #[.int .i64 0, .int .i64 2, .int .i64 1, .int .i64 2] 27)).heap.size = u2.heap.size + 1 + 1 from by simp] at aD
  obtain ⟨B, hB⟩ : ∃ B, u2.heap.size = B := ⟨_, rfl⟩
  obtain ⟨y0, hy0⟩ : ∃ y0, ((u2.alloc (.cells #[.int .i64 0, .bool true, .int .i64 2, .int .i64 1, .bool true, .int .i64 1, .bool false, .int .i64 2, .int .i64 1, .bool true] 23)).alloc (.cells #[.int .i64 0, .int .i64 2, .int .i64 1, .int .i64 2] 27)).alloc (.cells #[.int .i64 1, .int .i64 1, .int .i64 0, .int .i64 2, .int .i64 1, .int .i64 1] 27) = y0 := ⟨_, rfl⟩
  rw [hy0] at aH aC aD qh ⊢
  rw [hB] at aH aC aD ⊢
  clear hy0 hB
  obtain ⟨w1, rfl⟩ : ∃ w1, w1 = y0 := ⟨_, rfl⟩
  have q1 := qh
  clear qh
  have cE := Agreement_any (some ⟨B, 0, none⟩) 2 exP (some ⟨B + 1, 0, none⟩) 2 xmC 0 w1 aH aC (by decide) (by decide)
  rw [xm_agr.1] at cE
  go_wp2_with fail
  refine (cE).mono ?_
  rintro e w2 ⟨rfl, hb2⟩
  have q2 := below_trans q1 hb2
  replace aH := aH.on hb2
  replace aC := aC.on hb2
  replace aD := aD.on hb2
  clear cE
  have cE := Agreement_any (some ⟨B, 0, none⟩) 2 exP (some ⟨B + 1 + 1, 0, none⟩) 3 exC 0 w2 aH aD (by decide) (by decide)
  rw [xm_agr.2.1] at cE
  go_wp2_with fail
  refine (cE).mono ?_
  rintro e w3 ⟨rfl, hb3⟩
  have q3 := below_trans q2 hb3
  replace aH := aH.on hb3
  replace aC := aC.on hb3
  replace aD := aD.on hb3
  clear cE
  have cE := Agreement_any (some ⟨B, 0, none⟩) 2 exP (some ⟨B + 1 + 1, 0, none⟩) 3 exC 1 w3 aH aD (by decide) (by decide)
  rw [xm_agr.2.2] at cE
  go_wp2_with fail
  refine (cE).mono ?_
  rintro e w4 ⟨rfl, hb4⟩
  have q4 := below_trans q3 hb4
  replace aH := aH.on hb4
  replace aC := aC.on hb4
  replace aD := aD.on hb4
  clear cE
  have cE := Align_any (some ⟨B, 0, none⟩) 2 exP (some ⟨B + 1 + 1, 0, none⟩) 3 exC 2 w4 aH aD (by decide) (by decide)
  rw [xm_ali.1] at cE
  go_wp2_with fail
  refine (cE).mono ?_
  rintro e w5 ⟨rfl, hb5⟩
  have q5 := below_trans q4 hb5
  replace aH := aH.on hb5
  replace aC := aC.on hb5
  replace aD := aD.on hb5
  clear cE
  have cE := Align_any (some ⟨B, 0, none⟩) 2 exP (some ⟨B + 1 + 1, 0, none⟩) 3 exC 3 w5 aH aD (by decide) (by decide)
  rw [xm_ali.2] at cE
  go_wp2_with fail
  refine (cE).mono ?_
  rintro e w6 ⟨rfl, hb6⟩
  have q6 := below_trans q5 hb6
  replace aH := aH.on hb6
  replace aC := aC.on hb6
  replace aD := aD.on hb6
  clear cE
  clear aH aC
  have cE := Announce_any (some ⟨B + 1 + 1, 0, none⟩) 3 exC 0 2 9 w6 aD (by decide)
  rw [xm_annE, xm_annL] at cE
  go_wp2_with fail
  refine (cE).mono ?_
  rintro e w7 ⟨vl, rfl, ol, hb7⟩
  have q7 := below_trans q6 hb7
  replace aD := aD.on hb7
  obtain ⟨Al, kl, hvl, _, _, _, aL⟩ := ol.form Hrd.enc_len
  subst hvl
  clear cE ol aD
  have aX := arr_lit (enc := Hrd.enc) (sz := 2) w7 xmH #[.int .i64 0, .int .i64 0, .int .i64 17, .int .i64 1] 38 rfl Hrd.enc_len
  have qx := below_alloc q7 (.cells #[.int .i64 0, .int .i64 0, .int .i64 17, .int .i64 1] 38)
  replace aL := aL.on (below_alloc (Below.refl _ _) (.cells #[.int .i64 0, .int .i64 0, .int .i64 17, .int .i64 1] 38))
  have cE := TextH_any (some ⟨w7.heap.size, 0, none⟩) 2 xmH (w7.alloc (.cells #[.int .i64 0, .int .i64 0, .int .i64 17, .int .i64 1] 38)) aX (by decide) (ht.on qx).tab
  rw [xm_hd, if_pos rfl, xm_text] at cE
  go_wp2_with fail
  refine cE.mono ?_
  rintro e w8 ⟨rfl, hb8⟩
  have q8 := below_trans qx hb8
  replace aL := aL.on hb8
  clear cE aX qx
  have cE := ParseH_any xmS1 w8 (by decide) (ht.on q8)
  go_wp2_with fail
  refine (cE).mono ?_
  rintro e w9 ⟨vp, E, M, rfl, op, rp, lp, hb9⟩
  have q9 := below_trans q8 hb9
  replace aL := aL.on hb9
  obtain ⟨rfl, rfl⟩ := xm_p1 rp
  obtain ⟨Ap, kp, hvp, _, _, _, _⟩ := op.form Hrd.enc_len
  subst hvp
  clear cE op rp lp
  have cE := ParseH_any xmS2 w9 (by decide) (ht.on q9)
  go_wp2_with fail
  refine (cE).mono ?_
  rintro e w10 ⟨vp, E, M, rfl, op, rp, lp, hb10⟩
  have q10 := below_trans q9 hb10
  replace aL := aL.on hb10
  obtain ⟨rfl, rfl⟩ := xm_p2 rp
  obtain ⟨Ap, kp, hvp, _, _, _, _⟩ := op.form Hrd.enc_len
  subst hvp
  clear cE op rp lp
  have cE := ParseH_any xmS3 w10 (by decide) (ht.on q10)
  go_wp2_with fail
  refine (cE).mono ?_
  rintro e w11 ⟨vp, E, M, rfl, op, rp, lp, hb11⟩
  have q11 := below_trans q10 hb11
  replace aL := aL.on hb11
  obtain ⟨rfl, rfl⟩ := xm_p3 rp
  obtain ⟨Ap, kp, hvp, _, _, _, _⟩ := op.form Hrd.enc_len
  subst hvp
  clear cE op rp lp
  have aY := arr_lit (enc := Hrd.enc) (sz := 2) w11 [⟨2, 1⟩] #[.int .i64 2, .int .i64 1] 38 rfl Hrd.enc_len
  have qx := below_alloc q11 (.cells #[.int .i64 2, .int .i64 1] 38)
  replace aL := aL.on (below_alloc (Below.refl _ _) (.cells #[.int .i64 2, .int .i64 1] 38))
  have cE := sameHeard_same Al (some ⟨w11.heap.size, 0, none⟩) kl 1 [⟨2, 1⟩] (w11.alloc (.cells #[.int .i64 2, .int .i64 1] 38)) aL aY (by decide)
  go_wp2_with fail
  refine cE.mono ?_
  rintro e w12 ⟨rfl, hb12⟩
  have q12 := below_trans qx hb12
  clear cE aL aY qx
  have aZ := arr_lit (enc := encI) (sz := 1) w12 xmB #[.int .i64 3, .int .i64 5, .int .i64 8, .int .i64 9, .int .i64 12] 3 rfl encI_len
  have qx := below_alloc q12 (.cells #[.int .i64 3, .int .i64 5, .int .i64 8, .int .i64 9, .int .i64 12] 3)
  have cE := Blocks_any (some ⟨w12.heap.size, 0, none⟩) 5 5 xmB 2 (w12.alloc (.cells #[.int .i64 3, .int .i64 5, .int .i64 8, .int .i64 9, .int .i64 12] 3)) rfl aZ (by decide) (by decide) (fun h => by cases h)
  unfold BkR at cE
  rw [xm_bE, xm_bL] at cE
  go_wp2_with fail
  refine cE.mono ?_
  rintro e w13 ⟨vb, items, rfl, bk, hb13⟩
  have q13 := below_trans qx hb13
  clear cE aZ qx
  obtain ⟨i0, i1, rfl⟩ : ∃ i0 i1, items = [i0, i1] := by
    match items, bk.len with
    | [a, b], _ => exact ⟨a, b, rfl⟩
  obtain ⟨Ar, kr, hr, _, _, _, ar⟩ := Own.form (enc := encI) (bk.row 1 i1 [8, 9] rfl rfl).1 encI_len
  obtain ⟨Ab, kb, hvb, _, _, _, ab⟩ := bk.own.form (fun _ => rfl)
  subst hvb
  obtain ⟨b, off, rfl, hlt, hc⟩ := ab (by simp)
  have c1 : w13.cell? ⟨b, off + 1, none⟩ = some (.slice Ar 2 kr) := by
    have := hc 1 i1 rfl 0 _ rfl
    rw [hr] at this
    simpa using this
  clear hc hr bk
  have nt0 : Nt ((w13.alloc (.cells #[.int .u32 1] 49)).alloc (.cells #[.int .u32 6] 49)) (some ⟨w13.heap.size, 0, none⟩) 1 [1] := by have h := (nt_one w13 1 49 (by decide)).on (below_alloc (Below.refl _ _) (.cells #[.int .u32 6] 49)); simpa using h
  have nt1 : Nt ((w13.alloc (.cells #[.int .u32 1] 49)).alloc (.cells #[.int .u32 6] 49)) (some ⟨w13.heap.size + 1, 0, none⟩) 1 [6] := by have h := nt_one (w13.alloc (.cells #[.int .u32 1] 49)) 6 49 (by decide); simpa using h
  have qx := below_alloc (below_alloc (q13) (.cells #[.int .u32 1] 49)) (.cells #[.int .u32 6] 49)
  have cE := Rate_any 4 2 0 ⟨some ⟨w13.heap.size, 0, none⟩, 1, [1], some ⟨w13.heap.size + 1, 0, none⟩, 1, [6]⟩ ((w13.alloc (.cells #[.int .u32 1] 49)).alloc (.cells #[.int .u32 6] 49)) ⟨nt0, nt1⟩
  rw [(xm_rate _ _ _ _).1, (xm_rate _ _ _ _).2] at cE
  have lw := below_alloc (below_alloc (Below.refl w13.heap.size w13) (.cells #[.int .u32 1] 49)) (.cells #[.int .u32 6] 49)
  go_wp2_with fail
  refine cE.mono ?_
  rintro e w14 ⟨rfl, hb14⟩
  have q14 := below_trans qx hb14
  have lw := below_trans lw hb14
  replace c1 := bel_cell lw c1
  replace ar := ar.on lw
  clear cE nt0 nt1 qx lw
  have qe := below_alloc q14 (.cells #[.int .i64 4, .int .i64 2, .int .i64 0, .int .i64 1, .int .i64 1] 46)
  have ce := bel_cell (below_alloc (Below.refl w14.heap.size w14) (.cells #[.int .i64 4, .int .i64 2, .int .i64 0, .int .i64 1, .int .i64 1] 46)) c1
  have ae := ar.on (below_alloc (Below.refl w14.heap.size w14) (.cells #[.int .i64 4, .int .i64 2, .int .i64 0, .int .i64 1, .int .i64 1] 46))
  have d0 : (w14.alloc (.cells #[.int .i64 4, .int .i64 2, .int .i64 0, .int .i64 1, .int .i64 1] 46)).cell? ⟨w14.heap.size, 0, none⟩ = some (.int .i64 4) := new_cell rfl
  have d1 : (w14.alloc (.cells #[.int .i64 4, .int .i64 2, .int .i64 0, .int .i64 1, .int .i64 1] 46)).cell? ⟨w14.heap.size, 1, none⟩ = some (.int .i64 2) := new_cell rfl
  have d2 : (w14.alloc (.cells #[.int .i64 4, .int .i64 2, .int .i64 0, .int .i64 1, .int .i64 1] 46)).cell? ⟨w14.heap.size, 2, none⟩ = some (.int .i64 0) := new_cell rfl
  have d3 : (w14.alloc (.cells #[.int .i64 4, .int .i64 2, .int .i64 0, .int .i64 1, .int .i64 1] 46)).cell? ⟨w14.heap.size, 3, none⟩ = some (.int .i64 1) := new_cell rfl
  have d4 : (w14.alloc (.cells #[.int .i64 4, .int .i64 2, .int .i64 0, .int .i64 1, .int .i64 1] 46)).cell? ⟨w14.heap.size, 4, none⟩ = some (.int .i64 1) := new_cell rfl
  clear c1 ar
  go_upto_region 21 with fail
  obtain ⟨EB, hEB⟩ : ∃ EB, w14.heap.size = EB := ⟨_, rfl⟩
  obtain ⟨W, hW⟩ : ∃ W, w14.alloc (.cells #[.int .i64 4, .int .i64 2, .int .i64 0, .int .i64 1, .int .i64 1] 46) = W := ⟨_, rfl⟩
  rw [hW] at qe ce ae d0 d1 d2 d3 d4 ⊢
  rw [hEB] at d0 d1 d2 d3 d4 ⊢
  clear hW hEB
  obtain ⟨w15, rfl⟩ : ∃ w15, w15 = W := ⟨_, rfl⟩
  have q15 := qe
  clear qe
  have aN := arr_lit (enc := encI) (sz := 1) w15 [8, 9] #[.int .i64 8, .int .i64 9] 3 rfl encI_len
  have cE := Ints_same Ar (some ⟨w15.heap.size, 0, none⟩) kr 2 [8, 9] (w15.alloc (.cells #[.int .i64 8, .int .i64 9] 3)) (ae.on (below_alloc (Below.refl _ _) _)) aN (by decide)
  have qx := below_alloc q15 (.cells #[.int .i64 8, .int .i64 9] 3)
  have e0 := fun wx (h : Below w15.heap.size w15 wx) => bel_cell h d0
  have e1 := fun wx (h : Below w15.heap.size w15 wx) => bel_cell h d1
  have e2 := fun wx (h : Below w15.heap.size w15 wx) => bel_cell h d2
  have e3 := fun wx (h : Below w15.heap.size w15 wx) => bel_cell h d3
  have e4 := fun wx (h : Below w15.heap.size w15 wx) => bel_cell h d4
  have bx := below_alloc (Below.refl w15.heap.size w15) (.cells #[.int .i64 8, .int .i64 9] 3)
  go_wp2_with fail
  refine cE.mono ?_
  rintro e w16 ⟨rfl, hb16⟩
  have q16 := below_trans qx hb16
  replace bx := below_trans bx hb16
  replace d0 := e0 _ bx
  replace d1 := e1 _ bx
  replace d2 := e2 _ bx
  replace d3 := e3 _ bx
  replace d4 := e4 _ bx
  clear cE aN qx bx ce ae e0 e1 e2 e3 e4
  go_wp2_with fail
  have nt0 : Nt ((w16.alloc (.cells #[.int .u32 1] 49)).alloc (.cells #[.int .u32 10] 49)) (some ⟨w16.heap.size, 0, none⟩) 1 [1] := by have h := (nt_one w16 1 49 (by decide)).on (below_alloc (Below.refl _ _) (.cells #[.int .u32 10] 49)); simpa using h
  have nt1 : Nt ((w16.alloc (.cells #[.int .u32 1] 49)).alloc (.cells #[.int .u32 10] 49)) (some ⟨w16.heap.size + 1, 0, none⟩) 1 [10] := by have h := nt_one (w16.alloc (.cells #[.int .u32 1] 49)) 10 49 (by decide); simpa using h
  have qx := below_alloc (below_alloc (q16) (.cells #[.int .u32 1] 49)) (.cells #[.int .u32 10] 49)
  have qt := below_alloc qx (.cells #[.slice (some ⟨w16.heap.size, 0, none⟩) 1 1, .slice (some ⟨w16.heap.size + 1, 0, none⟩) 1 1] 53)
  have t0 : (((w16.alloc (.cells #[.int .u32 1] 49)).alloc (.cells #[.int .u32 10] 49)).alloc (.cells #[.slice (some ⟨w16.heap.size, 0, none⟩) 1 1, .slice (some ⟨w16.heap.size + 1, 0, none⟩) 1 1] 53)).cell? ⟨w16.heap.size + 1 + 1, 0, none⟩ = some (.slice (some ⟨w16.heap.size, 0, none⟩) 1 1) := by have := new_cell (w := ((w16.alloc (.cells #[.int .u32 1] 49)).alloc (.cells #[.int .u32 10] 49))) (cs := #[.slice (some ⟨w16.heap.size, 0, none⟩) 1 1, .slice (some ⟨w16.heap.size + 1, 0, none⟩) 1 1]) (T := 53) (j := 0) rfl; simpa using this
  have t1 : (((w16.alloc (.cells #[.int .u32 1] 49)).alloc (.cells #[.int .u32 10] 49)).alloc (.cells #[.slice (some ⟨w16.heap.size, 0, none⟩) 1 1, .slice (some ⟨w16.heap.size + 1, 0, none⟩) 1 1] 53)).cell? ⟨w16.heap.size + 1 + 1, 1, none⟩ = some (.slice (some ⟨w16.heap.size + 1, 0, none⟩) 1 1) := by have := new_cell (w := ((w16.alloc (.cells #[.int .u32 1] 49)).alloc (.cells #[.int .u32 10] 49))) (cs := #[.slice (some ⟨w16.heap.size, 0, none⟩) 1 1, .slice (some ⟨w16.heap.size + 1, 0, none⟩) 1 1]) (T := 53) (j := 1) rfl; simpa using this
  replace nt0 := nt0.on (below_alloc (Below.refl _ _) (.cells #[.slice (some ⟨w16.heap.size, 0, none⟩) 1 1, .slice (some ⟨w16.heap.size + 1, 0, none⟩) 1 1] 53))
  replace nt1 := nt1.on (below_alloc (Below.refl _ _) (.cells #[.slice (some ⟨w16.heap.size, 0, none⟩) 1 1, .slice (some ⟨w16.heap.size + 1, 0, none⟩) 1 1] 53))
  obtain ⟨FB, hFB⟩ : ∃ FB, w16.heap.size = FB := ⟨_, rfl⟩
  obtain ⟨W, hW⟩ : ∃ W, ((w16.alloc (.cells #[.int .u32 1] 49)).alloc (.cells #[.int .u32 10] 49)).alloc (.cells #[.slice (some ⟨w16.heap.size, 0, none⟩) 1 1, .slice (some ⟨w16.heap.size + 1, 0, none⟩) 1 1] 53) = W := ⟨_, rfl⟩
  rw [hW] at qt t0 t1 nt0 nt1 ⊢
  rw [hFB] at t0 t1 nt0 nt1 ⊢
  clear hW hFB d0 d1 d2 d3 d4 qx
  obtain ⟨w17, rfl⟩ : ∃ w17, w17 = W := ⟨_, rfl⟩
  have q17 := qt
  clear qt
  have cE := Judge_any 10 1 ⟨some ⟨FB, 0, none⟩, 1, [1], some ⟨FB + 1, 0, none⟩, 1, [10]⟩ w17 ⟨nt0, nt1⟩
  rw [(xm_judge (some ⟨FB, 0, none⟩) (some ⟨FB + 1, 0, none⟩) 1 1).1] at cE
  go_wp2_with fail
  refine (cE).mono ?_
  rintro e w18 ⟨rfl, hb18⟩
  have q18 := below_trans q17 hb18
  replace nt0 := nt0.on hb18
  replace nt1 := nt1.on hb18
  clear cE
  replace t0 := bel_cell hb18 t0
  replace t1 := bel_cell hb18 t1
  have cE := Judge_any 10 2 ⟨some ⟨FB, 0, none⟩, 1, [1], some ⟨FB + 1, 0, none⟩, 1, [10]⟩ w18 ⟨nt0, nt1⟩
  rw [(xm_judge (some ⟨FB, 0, none⟩) (some ⟨FB + 1, 0, none⟩) 1 1).2.1] at cE
  go_wp2_with fail
  refine (cE).mono ?_
  rintro e w19 ⟨rfl, hb19⟩
  have q19 := below_trans q18 hb19
  replace nt0 := nt0.on hb19
  replace nt1 := nt1.on hb19
  clear cE
  replace t0 := bel_cell hb19 t0
  replace t1 := bel_cell hb19 t1
  clear nt0 nt1 t0 t1
  go_wp2_with fail
  have nt0 : Nt (w19.alloc (.cells #[.int .u32 1] 49)) (some ⟨w19.heap.size, 0, none⟩) 1 [1] := by have h := nt_one w19 1 49 (by decide); simpa using h
  have qx := below_alloc (q19) (.cells #[.int .u32 1] 49)
  have cE := Judge_any 0 0 ⟨none, 0, [], some ⟨w19.heap.size, 0, none⟩, 1, [1]⟩ (w19.alloc (.cells #[.int .u32 1] 49)) ⟨nt_nil _, nt0⟩
  rw [(xm_judge none (some ⟨w19.heap.size, 0, none⟩) 0 1).2.2] at cE
  refine cE.mono ?_
  rintro e w20 ⟨rfl, hb20⟩
  have q20 := below_trans qx hb20
  clear cE nt0 qx
  go_upto_region 26 with fail
  refine wp_region_lit ?_
  refine wpList_buildAs rfl 56 _ rfl #[(0, .int .i64 64), (1, .int .i64 64), (2, .int .i64 128)] (by kernel_rfl) #[.int .i64 64, .int .i64 64, .int .i64 128] (by kernel_rfl) ?_
  refine wpList_buildAs rfl 57 _ rfl #[(0, .int .i64 256), (1, .int .i64 0), (2, .int .i64 0), (3, .int .i64 0)] (by kernel_rfl) #[.int .i64 256, .int .i64 0, .int .i64 0, .int .i64 0] (by kernel_rfl) ?_
  refine wpList_buildAs rfl 57 _ rfl #[(0, .int .i64 128), (1, .int .i64 96), (2, .int .i64 32), (3, .int .i64 0)] (by kernel_rfl) #[.int .i64 128, .int .i64 96, .int .i64 32, .int .i64 0] (by kernel_rfl) ?_
  refine wpList_buildAs rfl 57 _ rfl #[(0, .int .i64 64), (1, .int .i64 64), (2, .int .i64 64), (3, .int .i64 64)] (by kernel_rfl) #[.int .i64 64, .int .i64 64, .int .i64 64, .int .i64 64] (by kernel_rfl) ?_
  refine wpList_buildAs rfl 58 _ rfl #[(0, .agg #[.int .i64 256, .int .i64 0, .int .i64 0, .int .i64 0]), (1, .agg #[.int .i64 128, .int .i64 96, .int .i64 32, .int .i64 0]), (2, .agg #[.int .i64 64, .int .i64 64, .int .i64 64, .int .i64 64])] (by kernel_rfl) #[.int .i64 256, .int .i64 0, .int .i64 0, .int .i64 0, .int .i64 128, .int .i64 96, .int .i64 32, .int .i64 0, .int .i64 64, .int .i64 64, .int .i64 64, .int .i64 64] (by kernel_rfl) ?_
  refine wpList_buildAs rfl 60 _ rfl #[(0, .int .i64 1), (1, .agg #[.int .i64 64, .int .i64 64, .int .i64 128]), (2, .agg #[.int .i64 256, .int .i64 0, .int .i64 0, .int .i64 0, .int .i64 128, .int .i64 96, .int .i64 32, .int .i64 0, .int .i64 64, .int .i64 64, .int .i64 64, .int .i64 64]), (3, .int .i64 256)] (by kernel_rfl) #[.int .i64 1, .int .i64 64, .int .i64 64, .int .i64 128, .int .i64 256, .int .i64 0, .int .i64 0, .int .i64 0, .int .i64 128, .int .i64 96, .int .i64 32, .int .i64 0, .int .i64 64, .int .i64 64, .int .i64 64, .int .i64 64, .int .i64 256, .int .i64 0] (by kernel_rfl) ?_
  refine Great.wpList_allocTo rfl (some 26) rfl (.pointer (some ⟨w20.heap.size, 0, none⟩)) (.cells #[.int .i64 0, .int .i64 0, .int .i64 0, .int .i64 0, .int .i64 0, .int .i64 0, .int .i64 0, .int .i64 0, .int .i64 0, .int .i64 0, .int .i64 0, .int .i64 0, .int .i64 0, .int .i64 0, .int .i64 0, .int .i64 0, .int .i64 0, .int .i64 0] 60) (by kernel_rfl) ?_
  refine wpList_store_row rfl 60 _ _ rfl w20.heap.size #[.int .i64 1, .int .i64 64, .int .i64 64, .int .i64 128, .int .i64 256, .int .i64 0, .int .i64 0, .int .i64 0, .int .i64 128, .int .i64 96, .int .i64 32, .int .i64 0, .int .i64 64, .int .i64 64, .int .i64 64, .int .i64 64, .int .i64 256, .int .i64 0] (by kernel_rfl) (by kernel_rfl) 60 #[.int .i64 0, .int .i64 0, .int .i64 0, .int .i64 0, .int .i64 0, .int .i64 0, .int .i64 0, .int .i64 0, .int .i64 0, .int .i64 0, .int .i64 0, .int .i64 0, .int .i64 0, .int .i64 0, .int .i64 0, .int .i64 0, .int .i64 0, .int .i64 0] (heap_last _ _) (by kernel_rfl) rfl (by kernel_rfl) ?_
  rw [World.setRow_alloc_new]
  (try simp only [Act.put, List.getElem_toArray, List.getElem_cons_succ, List.getElem_cons_zero, List.setIfInBounds_toArray, List.set_cons_zero, List.set_cons_succ])
  have At1 : OptAt (w20.alloc (.cells xmO.cs 60)) w20.heap.size xmO := heap_last _ _
  have qo := below_alloc q20 (.cells xmO.cs 60)
  change wpList _ _ _ _ _ (w20.alloc (.cells xmO.cs 60))
  obtain ⟨X, hX⟩ : ∃ X, w20.heap.size = X := ⟨_, rfl⟩
  obtain ⟨W, hW⟩ : ∃ W, w20.alloc (.cells xmO.cs 60) = W := ⟨_, rfl⟩
  rw [hW] at At1 qo ⊢
  rw [hX] at At1 ⊢
  clear hW hX
  obtain ⟨w21, rfl⟩ : ∃ w21, w21 = W := ⟨_, rfl⟩
  have q21 := qo
  clear qo
  have HX := Lib.hid At1
  clear At1
  go_upto_region 27 with fail
  refine wp_region_lit ?_
  refine wpList_buildAs rfl 62 _ rfl #[(0, .int .i64 100)] (by kernel_rfl) #[.int .i64 100, .int .i64 0, .int .i64 0] (by kernel_rfl) ?_
  refine wpList_buildAs rfl 62 _ rfl #[(0, .int .i64 100), (1, .int .i64 25)] (by kernel_rfl) #[.int .i64 100, .int .i64 25, .int .i64 0] (by kernel_rfl) ?_
  refine wpList_buildAs rfl 62 _ rfl #[(0, .int .i64 100), (1, .int .i64 40)] (by kernel_rfl) #[.int .i64 100, .int .i64 40, .int .i64 0] (by kernel_rfl) ?_
  refine wpList_buildAs rfl 63 _ rfl #[(0, .agg #[.int .i64 100, .int .i64 0, .int .i64 0]), (1, .agg #[.int .i64 100, .int .i64 25, .int .i64 0]), (2, .agg #[.int .i64 100, .int .i64 40, .int .i64 0])] (by kernel_rfl) #[.int .i64 100, .int .i64 0, .int .i64 0, .int .i64 100, .int .i64 25, .int .i64 0, .int .i64 100, .int .i64 40, .int .i64 0] (by kernel_rfl) ?_
  refine Great.wpList_allocTo rfl (some 27) rfl (.pointer (some ⟨w21.heap.size, 0, none⟩)) (.cells #[.int .i64 0, .int .i64 0, .int .i64 0, .int .i64 0, .int .i64 0, .int .i64 0, .int .i64 0, .int .i64 0, .int .i64 0] 63) (by kernel_rfl) ?_
  refine wpList_store_row rfl 63 _ _ rfl w21.heap.size #[.int .i64 100, .int .i64 0, .int .i64 0, .int .i64 100, .int .i64 25, .int .i64 0, .int .i64 100, .int .i64 40, .int .i64 0] (by kernel_rfl) (by kernel_rfl) 63 #[.int .i64 0, .int .i64 0, .int .i64 0, .int .i64 0, .int .i64 0, .int .i64 0, .int .i64 0, .int .i64 0, .int .i64 0] (heap_last _ _) (by kernel_rfl) rfl (by kernel_rfl) ?_
  rw [World.setRow_alloc_new]
  (try simp only [Act.put, List.getElem_toArray, List.getElem_cons_succ, List.getElem_cons_zero, List.setIfInBounds_toArray, List.set_cons_zero, List.set_cons_succ])
  have At2 : GnAt (w21.alloc (.cells #[.int .i64 100, .int .i64 0, .int .i64 0, .int .i64 100, .int .i64 25, .int .i64 0, .int .i64 100, .int .i64 40, .int .i64 0] 63)) w21.heap.size xmG := heap_last _ _
  have qo := below_alloc q21 (.cells #[.int .i64 100, .int .i64 0, .int .i64 0, .int .i64 100, .int .i64 25, .int .i64 0, .int .i64 100, .int .i64 40, .int .i64 0] 63)
  have HX2 := Lib.hid (HX.out.on (below_alloc (Below.refl _ _) (.cells #[.int .i64 100, .int .i64 0, .int .i64 0, .int .i64 100, .int .i64 25, .int .i64 0, .int .i64 100, .int .i64 40, .int .i64 0] 63)))
  obtain ⟨Y, hY⟩ : ∃ Y, w21.heap.size = Y := ⟨_, rfl⟩
  obtain ⟨W, hW⟩ : ∃ W, w21.alloc (.cells #[.int .i64 100, .int .i64 0, .int .i64 0, .int .i64 100, .int .i64 25, .int .i64 0, .int .i64 100, .int .i64 40, .int .i64 0] 63) = W := ⟨_, rfl⟩
  rw [hW] at At2 qo HX2 ⊢
  rw [hY] at At2 ⊢
  clear hW hY HX
  obtain ⟨w22, rfl⟩ : ∃ w22, w22 = W := ⟨_, rfl⟩
  have q22 := qo
  clear qo
  have HO := HX2
  have HG := Lib.hid At2
  clear At2 HX2
  have cE := Yield_any xmO xmG w22
  unfold Opt.val Opt.cs Gn.val FrP at cE
  rw [xm_gE, xm_y.1, xm_y.2] at cE
  go_wp2_with (first | (refine wpList_load_row rfl 60 _ rfl X rfl 60 _ (0, 0) _ HO.out Tryz.underlying60 rfl (by kernel_rfl) ?_) | (refine wpList_load_row rfl 63 _ rfl Y rfl 63 _ (0, 0) _ HG.out Tryz.underlying63 rfl (by kernel_rfl) ?_))
  refine cE.mono ?_
  rintro e w23 ⟨v1, v2, rfl, b1, b2, hb23⟩
  have q23 := below_trans q22 hb23
  obtain ⟨Aa, ca, rfl, na⟩ := b1.nt
  obtain ⟨Ba, da, rfl, ma⟩ := b2.nt
  rw [lb1] at na ⊢
  rw [lb5] at ma ⊢
  clear cE b1 b2
  have bb := below_trans hb23 (below_alloc (Below.refl _ _) (.cells #[.slice Aa 1 ca, .slice Ba 1 da] 53))
  have HO := Lib.hid (HO.out.on bb)
  have HG := Lib.hid (HG.out.on bb)
  have qo := below_alloc q23 (.cells #[.slice Aa 1 ca, .slice Ba 1 da] 53)
  replace na := na.on (below_alloc (Below.refl _ _) (.cells #[.slice Aa 1 ca, .slice Ba 1 da] 53))
  replace ma := ma.on (below_alloc (Below.refl _ _) (.cells #[.slice Aa 1 ca, .slice Ba 1 da] 53))
  have y0a : (w23.alloc (.cells #[.slice Aa 1 ca, .slice Ba 1 da] 53)).cell? ⟨w23.heap.size, 0, none⟩ = some (.slice Aa 1 ca) := new_cell rfl
  have y1a : (w23.alloc (.cells #[.slice Aa 1 ca, .slice Ba 1 da] 53)).cell? ⟨w23.heap.size, 1, none⟩ = some (.slice Ba 1 da) := new_cell rfl
  go_upto_region 29 with fail
  obtain ⟨Za, hZ⟩ : ∃ Z, w23.heap.size = Z := ⟨_, rfl⟩
  obtain ⟨W, hW⟩ : ∃ W, w23.alloc (.cells #[.slice Aa 1 ca, .slice Ba 1 da] 53) = W := ⟨_, rfl⟩
  rw [hW] at HO HG qo y0a y1a ⊢
  rw [hW] at na
  rw [hW] at ma
  rw [hZ] at y0a y1a ⊢
  clear hW hZ bb
  obtain ⟨w24, rfl⟩ : ∃ w24, w24 = W := ⟨_, rfl⟩
  have q24 := qo
  clear qo
  have cE := Faults_any xmO xmG w24
  unfold Opt.val Opt.cs Gn.val FrP at cE
  rw [xm_gE, xm_z.1, xm_z.2] at cE
  go_wp2_with (first | (refine wpList_load_row rfl 60 _ rfl X rfl 60 _ (0, 0) _ HO.out Tryz.underlying60 rfl (by kernel_rfl) ?_) | (refine wpList_load_row rfl 63 _ rfl Y rfl 63 _ (0, 0) _ HG.out Tryz.underlying63 rfl (by kernel_rfl) ?_))
  refine cE.mono ?_
  rintro e w25 ⟨v1, v2, rfl, b1, b2, hb25⟩
  have q25 := below_trans q24 hb25
  obtain ⟨Ab, cb, rfl, nb⟩ := b1.nt
  obtain ⟨Bb, db, rfl, mb⟩ := b2.nt
  rw [lb0] at nb ⊢
  rw [lb1] at mb ⊢
  clear cE b1 b2
  have bb := below_trans hb25 (below_alloc (Below.refl _ _) (.cells #[.slice Ab 0 cb, .slice Bb 1 db] 53))
  have HO := Lib.hid (HO.out.on bb)
  have HG := Lib.hid (HG.out.on bb)
  have qo := below_alloc q25 (.cells #[.slice Ab 0 cb, .slice Bb 1 db] 53)
  replace nb := nb.on (below_alloc (Below.refl _ _) (.cells #[.slice Ab 0 cb, .slice Bb 1 db] 53))
  replace mb := mb.on (below_alloc (Below.refl _ _) (.cells #[.slice Ab 0 cb, .slice Bb 1 db] 53))
  replace na := na.on bb
  replace ma := ma.on bb
  replace y0a := bel_cell bb y0a
  replace y1a := bel_cell bb y1a
  have y0b : (w25.alloc (.cells #[.slice Ab 0 cb, .slice Bb 1 db] 53)).cell? ⟨w25.heap.size, 0, none⟩ = some (.slice Ab 0 cb) := new_cell rfl
  have y1b : (w25.alloc (.cells #[.slice Ab 0 cb, .slice Bb 1 db] 53)).cell? ⟨w25.heap.size, 1, none⟩ = some (.slice Bb 1 db) := new_cell rfl
  go_upto_region 30 with fail
  obtain ⟨Zb, hZ⟩ : ∃ Z, w25.heap.size = Z := ⟨_, rfl⟩
  obtain ⟨W, hW⟩ : ∃ W, w25.alloc (.cells #[.slice Ab 0 cb, .slice Bb 1 db] 53) = W := ⟨_, rfl⟩
  rw [hW] at HO HG qo y0b y1b ⊢
  rw [hW] at na
  rw [hW] at ma
  rw [hW] at y0a
  rw [hW] at y1a
  rw [hW] at nb
  rw [hW] at mb
  rw [hZ] at y0b y1b ⊢
  clear hW hZ bb
  obtain ⟨w26, rfl⟩ : ∃ w26, w26 = W := ⟨_, rfl⟩
  have q26 := qo
  clear qo
  have cE := Singles_any xmO xmG 100 w26
  unfold Opt.val Opt.cs Gn.val at cE
  rw [xm_k.1, xm_k.2] at cE
  go_wp2_with (first | (refine wpList_load_row rfl 60 _ rfl X rfl 60 _ (0, 0) _ HO.out Tryz.underlying60 rfl (by kernel_rfl) ?_) | (refine wpList_load_row rfl 63 _ rfl Y rfl 63 _ (0, 0) _ HG.out Tryz.underlying63 rfl (by kernel_rfl) ?_))
  refine cE.mono ?_
  rintro e w27 ⟨rfl, hb27⟩
  have q27 := below_trans q26 hb27
  replace na := na.on hb27
  replace ma := ma.on hb27
  replace y0a := bel_cell hb27 y0a
  replace y1a := bel_cell hb27 y1a
  replace nb := nb.on hb27
  replace mb := mb.on hb27
  replace y0b := bel_cell hb27 y0b
  replace y1b := bel_cell hb27 y1b
  clear cE HO HG
  have nt0 : Nt ((w27.alloc (.cells #[.int .u32 1] 49)).alloc (.cells #[.int .u32 5] 49)) (some ⟨w27.heap.size, 0, none⟩) 1 [1] := by have h := (nt_one w27 1 49 (by decide)).on (below_alloc (Below.refl _ _) (.cells #[.int .u32 5] 49)); simpa using h
  have nt1 : Nt ((w27.alloc (.cells #[.int .u32 1] 49)).alloc (.cells #[.int .u32 5] 49)) (some ⟨w27.heap.size + 1, 0, none⟩) 1 [5] := by have h := nt_one (w27.alloc (.cells #[.int .u32 1] 49)) 5 49 (by decide); simpa using h
  have qx := below_alloc (below_alloc (q27) (.cells #[.int .u32 1] 49)) (.cells #[.int .u32 5] 49)
  have bu := below_alloc (below_alloc (Below.refl w27.heap.size w27) (.cells #[.int .u32 1] 49)) (.cells #[.int .u32 5] 49)
  have cE := sameFrac_of Aa Ba (some ⟨w27.heap.size, 0, none⟩) (some ⟨w27.heap.size + 1, 0, none⟩) ca da 1 1 [1] [5] 1 5 ((w27.alloc (.cells #[.int .u32 1] 49)).alloc (.cells #[.int .u32 5] 49)) lb1 lb5 (na.on bu) (ma.on bu) nt0 nt1 (by decide) (by decide)
  go_wp2_with fail
  refine cE.mono ?_
  rintro e w28 ⟨rfl, hb28⟩
  have q28 := below_trans qx hb28
  have bb := below_trans bu hb28
  clear cE qx bu nt0 nt1
  clear na ma y0a y1a
  replace nb := nb.on bb
  replace mb := mb.on bb
  replace y0b := bel_cell bb y0b
  replace y1b := bel_cell bb y1b
  clear bb
  have nt0 : Nt (w28.alloc (.cells #[.int .u32 1] 49)) (some ⟨w28.heap.size, 0, none⟩) 1 [1] := by have h := nt_one w28 1 49 (by decide); simpa using h
  have qx := below_alloc (q28) (.cells #[.int .u32 1] 49)
  have bu := below_alloc (Below.refl w28.heap.size w28) (.cells #[.int .u32 1] 49)
  have cE := sameFrac_of Ab Bb (none) (some ⟨w28.heap.size, 0, none⟩) cb db 0 1 [] [1] 0 1 (w28.alloc (.cells #[.int .u32 1] 49)) lb0 lb1 (nb.on bu) (mb.on bu) (nt_nil _) nt0 (by decide) (by decide)
  go_wp2_with fail
  refine cE.mono ?_
  rintro e w29 ⟨rfl, hb29⟩
  have q29 := below_trans qx hb29
  have bb := below_trans bu hb29
  clear cE qx bu nt0
  clear nb mb y0b y1b bb
  have cE := known_any w29
  go_wp2_with fail
  refine (cE).mono ?_
  rintro e w30 ⟨rfl, hb30⟩
  have q30 := below_trans q29 hb30
  clear cE
  go_wp2_with fail
  go_ret
  exact ⟨rfl, q30⟩

end Go.Proofs.YteoaaphjbggobaaGreatDoor
