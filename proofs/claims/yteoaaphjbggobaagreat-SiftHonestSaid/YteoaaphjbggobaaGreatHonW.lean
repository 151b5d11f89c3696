/- The walk of SiftHonest: for any number of slots, shift, seeds and size of the sample it returns true. -/
import Derived.Test.YteoaaphjbggobaaGreatRunAll
import Derived.Test.YteoaaphjbggobaaGreatHnpAll
import Derived.Test.YteoaaphjbggobaaGreatKnown
import Derived.Test.YteoaaphjbggobaaGreatAgr
import Derived.Test.YteoaaphjbggobaaGreatAnn
import Derived.Test.YteoaaphjbggobaaGreatBits2
import Derived.Deep.DeepCutAuto
import Derived.Great.Walk
import Derived.Deep.WholeRow
namespace Go.Proofs.YteoaaphjbggobaaGreat
open Go.RowKit Go.Deep
set_option linter.unusedVariables false
set_option linter.unusedSimpArgs false

theorem heap_last (w : World) (o : Obj) : (w.alloc o).heap[w.heap.size]? = some o := by
  show (w.heap.push o)[w.heap.size]? = some o
  simp
theorem arr1_rule {w : World} {g : Nat} {a b : Int} {T : TypeId} (h : w.heap[g]? = some (.cells #[.int .i64 3, .int .i64 0, .int .i64 0, .int .i64 a, .int .i64 b] T (0, 0))) : Arr 5 Rul.enc w w.heap.size (some ⟨g, 0, none⟩) (rlH a b) := fun _ =>
  ⟨g, 0, rfl, (Array.getElem?_eq_some_iff.1 h).1, fun i u hu j v hv => by
    match i, hu with
    | 0, hu =>
      have hu' : u = ⟨3, 0, 0, a, b⟩ := by simpa [rlH] using hu.symm
      subst hu'
      match j, hv with
      | 0, hv => simp [Rul.enc] at hv; subst hv; exact cell_of_row w g 0 _ _ _ h
      | 1, hv => simp [Rul.enc] at hv; subst hv; exact cell_of_row w g 1 _ _ _ h
      | 2, hv => simp [Rul.enc] at hv; subst hv; exact cell_of_row w g 2 _ _ _ h
      | 3, hv => simp [Rul.enc] at hv; subst hv; exact cell_of_row w g 3 _ _ _ h
      | 4, hv => simp [Rul.enc] at hv; subst hv; exact cell_of_row w g 4 _ _ _ h
      | j + 5, hv => simp [Rul.enc] at hv
    | i + 1, hu => simp [rlH] at hu⟩
theorem Nt_nil (w : World) : Nt w none 0 [] := ⟨Arr.nil, by simp, by simp [maxLen], Dig.nil, fun _ => rfl⟩
theorem wpList_buildAs {P : Program} {ops : Array Oper} {rest : List Oper} {o : Oper} {a : Act} {w : World} {Q : Exit → Act → World → Prop} (hgd : o.guard = none) (ty : TypeId) (parts : Array (Nat × Operand)) (ho : o.op = .build ty parts)
    (vals : Array (Nat × Value)) (hv : (parts.map fun p => (p.1, a.eval p.2)) = vals) (cs : Array Value) (hc : P.built ty vals.toList = some cs) (h : wpList P ops Q rest (a.put o.dst (.agg cs)) w) : wpList P ops Q (o :: rest) a w :=
  wpList_plain hgd fun K hK => by
    unfold Oper.wp execOp
    simp only [ho, Sem.run_bind]
    have e : (parts.map fun (i, x) => (i, a.eval x)) = vals := hv
    rw [e, run_build w ty vals cs hc]
    simp only [Sem.run_pure, Result.andThen_ok]
    exact hK _ _ h

set_option maxRecDepth 100000 in
set_option maxHeartbeats 16000000 in
theorem hon_walk (n8 k8 s0 s1 s2 : Nat) (l8 : Int) (w : World) (hn8 : n8 < 256) (hk8 : k8 < 256) (hl : -128 ≤ l8 ∧ l8 ≤ 127) :
    Calls Tryz.prog 4 #[.int .u8 n8, .int .i8 l8, .agg #[.int .u64 s0, .int .u64 s1, .int .u64 s2], .int .u8 k8] w fun e w' => e = .returned (.bool true) ∧ Below w.heap.size w w' := by
  go_enter Tryz.func4, Tryz.ntmps4
  go_upto_region 3 with fail
  obtain ⟨W, hW⟩ : ∃ W, w.alloc (.cells #[.int .u64 s0, .int .u64 s1, .int .u64 s2] 63) = W := ⟨_, rfl⟩
  rw [hW]
  refine wp_region_lit ?_
  refine wpList_buildAs rfl 64 _ rfl #[(0, .int .i64 0), (1, .int .i64 0), (2, .int .i64 256)] (by kernel_rfl) #[.int .i64 0, .int .i64 0, .int .i64 256] (by kernel_rfl) ?_
  refine wpList_buildAs rfl 65 _ rfl #[(0, .int .i64 256)] (by kernel_rfl) #[.int .i64 256, .int .i64 0, .int .i64 0, .int .i64 0] (by kernel_rfl) ?_
  refine wpList_buildAs rfl 65 _ rfl #[(0, .int .i64 256)] (by kernel_rfl) #[.int .i64 256, .int .i64 0, .int .i64 0, .int .i64 0] (by kernel_rfl) ?_
  refine wpList_buildAs rfl 65 _ rfl #[(0, .int .i64 0), (1, .int .i64 256)] (by kernel_rfl) #[.int .i64 0, .int .i64 256, .int .i64 0, .int .i64 0] (by kernel_rfl) ?_
  refine wpList_buildAs rfl 66 _ rfl #[(0, .agg #[.int .i64 256, .int .i64 0, .int .i64 0, .int .i64 0]), (1, .agg #[.int .i64 256, .int .i64 0, .int .i64 0, .int .i64 0]), (2, .agg #[.int .i64 0, .int .i64 256, .int .i64 0, .int .i64 0])] (by kernel_rfl) #[.int .i64 256, .int .i64 0, .int .i64 0, .int .i64 0, .int .i64 256, .int .i64 0, .int .i64 0, .int .i64 0, .int .i64 0, .int .i64 256, .int .i64 0, .int .i64 0] (by kernel_rfl) ?_
  refine wpList_buildAs rfl 68 _ rfl #[(0, .int .i64 0), (1, .agg #[.int .i64 0, .int .i64 0, .int .i64 256]), (2, .agg #[.int .i64 256, .int .i64 0, .int .i64 0, .int .i64 0, .int .i64 256, .int .i64 0, .int .i64 0, .int .i64 0, .int .i64 0, .int .i64 256, .int .i64 0, .int .i64 0]), (3, .int .i64 256)] (by kernel_rfl) #[.int .i64 0, .int .i64 0, .int .i64 0, .int .i64 256, .int .i64 256, .int .i64 0, .int .i64 0, .int .i64 0, .int .i64 256, .int .i64 0, .int .i64 0, .int .i64 0, .int .i64 0, .int .i64 256, .int .i64 0, .int .i64 0, .int .i64 256, .int .i64 0] (by kernel_rfl) ?_
  refine Great.wpList_allocTo rfl (some 11) rfl (.pointer (some ⟨W.heap.size, 0, none⟩)) (.cells #[.int .i64 0, .int .i64 0, .int .i64 0, .int .i64 0, .int .i64 0, .int .i64 0, .int .i64 0, .int .i64 0, .int .i64 0, .int .i64 0, .int .i64 0, .int .i64 0, .int .i64 0, .int .i64 0, .int .i64 0, .int .i64 0, .int .i64 0, .int .i64 0] 68) (by kernel_rfl) ?_
  refine wpList_store_row rfl 68 _ _ rfl W.heap.size #[.int .i64 0, .int .i64 0, .int .i64 0, .int .i64 256, .int .i64 256, .int .i64 0, .int .i64 0, .int .i64 0, .int .i64 256, .int .i64 0, .int .i64 0, .int .i64 0, .int .i64 0, .int .i64 256, .int .i64 0, .int .i64 0, .int .i64 256, .int .i64 0] (by kernel_rfl) (by kernel_rfl) 68 #[.int .i64 0, .int .i64 0, .int .i64 0, .int .i64 0, .int .i64 0, .int .i64 0, .int .i64 0, .int .i64 0, .int .i64 0, .int .i64 0, .int .i64 0, .int .i64 0, .int .i64 0, .int .i64 0, .int .i64 0, .int .i64 0, .int .i64 0, .int .i64 0] (heap_last _ _) (by kernel_rfl) rfl (by kernel_rfl) ?_
  rw [World.setRow_alloc_new]
  (try simp only [Act.put, List.getElem_toArray, List.getElem_cons_succ, List.getElem_cons_zero, List.setIfInBounds_toArray, List.set_cons_zero, List.set_cons_succ])
  obtain ⟨n, hn⟩ : ∃ n : Nat, n8 % 121 = n := ⟨_, rfl⟩
  have hnl : n < 121 := by rw [← hn]; exact Nat.mod_lt _ (by decide)
  rw [show (n8 : Int) % 121 = (n : Int) by omega]
  obtain ⟨s, hs⟩ : ∃ s, l8.tmod 17 = s := ⟨_, rfl⟩
  have hs1 : -16 ≤ s ∧ s ≤ 16 := by
    have := Int.tmod_lt_of_pos l8 (show (0 : Int) < 17 by decide)
    have := Int.lt_tmod_of_pos l8 (show (0 : Int) < 17 by decide)
    omega
  rw [hs]
  have At1 := OptAt.new W oH
  have hb1 := below_alloc (hW ▸ below_alloc (Below.refl w.heap.size w) (.cells #[.int .u64 s0, .int .u64 s1, .int .u64 s2] 63)) (.cells oH.cs 68)
  change wpList _ _ _ _ _ (W.alloc (.cells oH.cs 68)) 
  clear hs hl
  have hcs : oH.cs = #[.int .i64 0, .int .i64 0, .int .i64 0, .int .i64 256, .int .i64 256, .int .i64 0, .int .i64 0, .int .i64 0, .int .i64 256, .int .i64 0, .int .i64 0, .int .i64 0, .int .i64 0, .int .i64 256, .int .i64 0, .int .i64 0, .int .i64 256, .int .i64 0] := rfl
  have hS1 : W.heap[w.heap.size]? = some (.cells #[.int .u64 s0, .int .u64 s1, .int .u64 s2] 63 (0, 0)) := by rw [← hW]; exact heap_last _ _
  have hWs : W.heap.size = w.heap.size + 1 := by rw [← hW]; simp
  have HWs := Lib.hid hWs
  clear hW hWs
  have Hcs := Lib.hid hcs
  clear hcs
  go_upto_if 51 with fail
  go_cut [] (fun wx => ∃ a b : Int, a * (1 - 2 * b) = s ∧ (b = 0 ∨ b = 1) ∧ b ≤ a ∧ a ≤ 16 ∧ wx = (W.alloc (.cells oH.cs 68)).alloc (.cells #[.int .i64 3, .int .i64 0, .int .i64 0, .int .i64 a, .int .i64 b] 70))
  case first =>
    by_cases hs0 : s < 0
    · go_wp2_with fail
      go_meet
      case rel => exact ⟨max s (-s), 1, by omega, .inr rfl, by omega, by omega, rfl⟩
    · go_wp2_with fail
      go_meet
      case rel => exact ⟨max s (-s), 0, by omega, .inl rfl, by omega, by omega, rfl⟩
  obtain ⟨a, b, hsh, hb01, hba, ha16, rfl⟩ := hcut
  have X1 : ((W.alloc (.cells oH.cs 68)).alloc (.cells #[.int .i64 3, .int .i64 0, .int .i64 0, .int .i64 a, .int .i64 b] 70)).heap[W.heap.size + 1]? = some (.cells #[.int .i64 3, .int .i64 0, .int .i64 0, .int .i64 a, .int .i64 b] 70 (0, 0)) := by
    have := heap_last (W.alloc (.cells oH.cs 68)) (.cells #[.int .i64 3, .int .i64 0, .int .i64 0, .int .i64 a, .int .i64 b] 70)
    simpa using this
  have hbs := below_alloc (Below.refl W.heap.size W) (.cells oH.cs 68)
  have hbs2 := below_alloc hbs (.cells #[.int .i64 3, .int .i64 0, .int .i64 0, .int .i64 a, .int .i64 b] 70)
  have hb2 := below_alloc hb1 (.cells #[.int .i64 3, .int .i64 0, .int .i64 0, .int .i64 a, .int .i64 b] 70)
  have At2 := At1.on (below_alloc (Below.refl _ _) (.cells #[.int .i64 3, .int .i64 0, .int .i64 0, .int .i64 a, .int .i64 b] 70))
  have hS2 := (hbs2.block w.heap.size (Array.getElem?_eq_some_iff.1 hS1).1).trans hS1
  have hlt2 : w.heap.size ≤ ((W.alloc (.cells oH.cs 68)).alloc (.cells #[.int .i64 3, .int .i64 0, .int .i64 0, .int .i64 a, .int .i64 b] 70)).heap.size := hb2.size
  obtain ⟨w2, hw2⟩ : ∃ w2, (W.alloc (.cells oH.cs 68)).alloc (.cells #[.int .i64 3, .int .i64 0, .int .i64 0, .int .i64 a, .int .i64 b] 70) = w2 := ⟨_, rfl⟩
  have At2' : OptAt w2 W.heap.size oH := by rw [← hw2]; exact At2
  rw [hw2] at X1 hb2 hS2 hlt2 ⊢
  clear hw2 At1 At2 hbs hbs2 hS1 hb1
  obtain ⟨X, hX⟩ : ∃ X, W.heap.size = X := ⟨_, rfl⟩
  rw [hX] at X1 At2' HWs ⊢
  have HX := Lib.hid At2'
  have HX1 := Lib.hid X1
  have al3 := below_alloc (Below.refl w2.heap.size w2) (.cells #[.int .i64 3, .int .i64 0, .int .i64 0, .int .i64 a, .int .i64 b] 70)
  have HS := Lib.hid ((al3.block w.heap.size (Array.getElem?_eq_some_iff.1 hS2).1).trans hS2)
  have HS2 := Lib.hid hS2
  have cR := Run_any oH (some ⟨w2.heap.size, 0, none⟩) 1 (rlH a b) n s0 s1 s2 (w2.alloc (.cells #[.int .i64 3, .int .i64 0, .int .i64 0, .int .i64 a, .int .i64 b] 70)) oH_ok (arr1_rule (heap_last _ _)) (rlH_ok hb01 hba ha16).2 (rlH_ok hb01 hba ha16).1 (by simp [rlH]) (by omega)
  have hb3 := below_alloc hb2 (.cells #[.int .i64 3, .int .i64 0, .int .i64 0, .int .i64 a, .int .i64 b] 70)
  have hshf : shfX (rlH a b) = s := by rw [rlH_shf]; exact hsh
  have hlen : (rlH a b).length = 1 := rfl
  unfold Opt.val at cR
  rw [Hcs.out, hlen, hshf] at cR
  have Hon := Lib.hid (honest a b s0 s1 s2 n hshf hs1.1 hs1.2 (by omega))
  have Hshf := Lib.hid hshf
  clear hX At2' X1 hS2 al3 hsh hb01 hba ha16 hlen hshf hb2
  go_wp2_with (first
    | (refine wpList_load_row rfl 68 _ rfl X rfl 68 _ (0, 0) _ HX.out Tryz.underlying68 rfl (by kernel_rfl) ?_)
    | (refine wpList_load_row rfl 70 _ rfl (X + 1) rfl 70 _ (0, 0) _ HX1.out Tryz.underlying70 rfl (by kernel_rfl) ?_)
    | (refine wpList_load_row rfl 63 _ rfl w.heap.size rfl 63 _ (0, 0) _ HS.out Tryz.underlying63 rfl (by kernel_rfl) ?_))
  refine cR.mono ?_
  rintro e w3 ⟨v1, v2, v3, rfl, own1, own2, own3, hb4⟩
  clear cR
  obtain ⟨p, c, K, m, best, most, hp, hc, pl, cl, q1, q2, q3, q4, q5, q6, q7, q8, q9, r1, r2, r3, r4, r5, r6, r7⟩ := Hon.out
  have hp2 : (emX oH s0 n).1 = p := hp.symm
  have hc2 : (detX oH.eta oH.dark (carX (rlH a b) (emX oH s0 n).1 s1 n).1 s s2 n).1 = c := by rw [hc, ← Hshf.out]; rfl
  rw [hc2] at own2
  rw [hp2] at own1 own3
  generalize (carX (rlH a b) p s1 n).2.2 = ns at own3
  obtain ⟨A1, c1, rfl, -, -, -, -⟩ := own1.form Pls.enc_len
  obtain ⟨A2, c2, rfl, -, -, -, -⟩ := own2.form Clk.enc_len
  obtain ⟨A3, c3, rfl, -, -, -, -⟩ := own3.form Nte.enc_len
  clear own3 hp hc hp2 hc2 Hon Hshf
  rw [pl, cl]
  have Y3 : FltAt (w3.alloc (.cells #[.slice A1 n c1, .slice A2 n c2, .slice A3 ns.length c3, .int .i64 s] 75)) w3.heap.size (.slice A1 n c1) (.slice A2 n c2) (.slice A3 ns.length c3) (.int .i64 s) := World.alloc_heap_new _ _
  have hb5 := below_trans hb3 hb4
  have hb6 := below_alloc hb5 (.cells #[.slice A1 n c1, .slice A2 n c2, .slice A3 ns.length c3, .int .i64 s] 75)
  have own1 := own1.alloc (.cells #[.slice A1 n c1, .slice A2 n c2, .slice A3 ns.length c3, .int .i64 s] 75)
  have own2 := own2.alloc (.cells #[.slice A1 n c1, .slice A2 n c2, .slice A3 ns.length c3, .int .i64 s] 75)
  obtain ⟨_, _, hv1, -, -, -, ar1⟩ := own1.form Pls.enc_len
  rw [pl] at hv1 own1
  cases hv1
  obtain ⟨_, _, hv2, -, -, -, ar2⟩ := own2.form Clk.enc_len
  rw [cl] at hv2 own2
  cases hv2
  clear own1 own2
  have HS3 := Lib.hid ((hb4.block w.heap.size (Nat.lt_of_lt_of_le (Array.getElem?_eq_some_iff.1 HS2.out).1 (by simp))).trans HS.out)
  clear HX HX1 HS hb3 hb4
  go_upto_region 8 with fail
  have hS5 := ((below_alloc (Below.refl w3.heap.size w3) (.cells #[.slice A1 n c1, .slice A2 n c2, .slice A3 ns.length c3, .int .i64 s] 75)).block w.heap.size (Array.getElem?_eq_some_iff.1 HS3.out).1).trans HS3.out
  obtain ⟨W3, hW3⟩ : ∃ W3, w3.alloc (.cells #[.slice A1 n c1, .slice A2 n c2, .slice A3 ns.length c3, .int .i64 s] 75) = W3 := ⟨_, rfl⟩
  obtain ⟨Y, hY⟩ : ∃ Y, w3.heap.size = Y := ⟨_, rfl⟩
  rw [hW3, hY] at Y3
  rw [hW3] at hb6 ar1 ar2 hS5
  have HS5 := Lib.hid hS5
  clear hS5
  rw [hW3, hY]
  clear hW3 hY
  have HS4 := Lib.hid r7
  clear HS3 HS2 HWs Hcs
  have hpl4 : p.length ≤ 4096 := by omega
  have hcl4 : c.length ≤ 4096 := by omega
  have cAl := fun w' (hb : Below W3.heap.size W3 w') => Align_any A1 c1 p A2 c2 c 0 w' (ar1.on hb) (ar2.on hb) hpl4 hcl4
  have cAg := fun x w' (hb : Below W3.heap.size W3 w') => Agreement_any A1 c1 p A2 c2 c x w' (ar1.on hb) (ar2.on hb) hpl4 hcl4
  have cAn := fun w' (hb : Below W3.heap.size W3 w') => Announce_any A2 c2 c s 0 n w' (ar2.on hb) (by omega)
  have cSe := fun C m w' (hb : Below W3.heap.size W3 w') (hC : Arr 1 encI w' w'.heap.size C K) => Sent_any A1 c1 p C m K w' (ar1.on hb) hC (by omega) (by omega)
  have cRe := fun C m w' (hb : Below W3.heap.size W3 w') (hC : Arr 1 encI w' w'.heap.size C K) => Received_any A2 c2 c s C m K w' (ar2.on hb) hC (by omega) (by omega)
  have cMa := fun C m w' (hb : Below W3.heap.size W3 w') (hC : Arr 2 Hrd.enc w' w'.heap.size C (annL c s 0 n)) (hl : (annL c s 0 n).length ≤ 4096) => Match_any A1 c1 p C m (annL c s 0 n) 0 w' (ar1.on hb) hC (by omega) hl
  have hane : (annL c s 0 n).length ≤ 4096 := by
    unfold annL
    split
    · simp
    · have := annTo_le c s 0 n c.length; omega
  have hq6 := q6
  have HPL := Lib.hid pl; have HCL := Lib.hid cl; have Hm := Lib.hid q9
  rw [q1] at cAl
  rw [r1] at cAn
  rw [r2, r3] at cMa
  rw [r4, r5] at cSe
  rw [r6, r7] at cRe
  rw [pl, cl] at cAl
  have q2' := Lib.hid q2; have q3' := Lib.hid q3
  simp only [pl, cl] at cAg cAn cSe cRe cMa
  clear q1 q2 q3 r1 r2 r3 r4 r5 r6 r7 pl cl hpl4 hcl4 ar1 ar2
  have bb0 := Below.refl W3.heap.size W3
  have y0 := Y3.c0; have y1 := Y3.c1; have y3 := Y3.c3
  go_wp2_with fail
  refine (cAl _ bb0).mono ?_
  rintro e w4 ⟨rfl, bb4⟩
  have Y4 := Y3.on bb4
  clear y0 y1 y3 Y3 cAl bb0
  have y0 := Y4.c0; have y1 := Y4.c1
  go_wp2_with fail
  refine (cAg _ _ bb4).mono ?_
  rintro e w5 ⟨rfl, hx5⟩
  rw [q2'.out]
  have bb5 := below_trans bb4 hx5
  have Y5 := Y4.on hx5
  clear y0 y1 Y4 bb4 hx5
  have y0 := Y5.c0; have y1 := Y5.c1
  go_wp2_with fail
  refine (cAg _ _ bb5).mono ?_
  rintro e w6 ⟨rfl, hx6⟩
  rw [q3'.out]
  have bb6 := below_trans bb5 hx6
  have Y6 := Y5.on hx6
  clear y0 y1 Y5 bb5 hx6 cAg
  have y0 := Y6.c0; have y1 := Y6.c1
  go_wp2_with fail
  refine (cAn _ bb6).mono ?_
  rintro e w7 ⟨u3, rfl, o3, hx7⟩
  obtain ⟨U3, d3, rfl, -, -, -, g3⟩ := o3.form Hrd.enc_len
  have bb7 := below_trans bb6 hx7
  have Y7 := Y6.on hx7
  clear y0 y1 Y6 bb6 hx7 cAn o3
  have y0 := Y7.c0; have y1 := Y7.c1
  go_wp2_with fail
  refine (cMa _ _ _ bb7 g3 hane).mono ?_
  rintro e w8 ⟨u4, rfl, o4, hx8⟩
  obtain ⟨U4, d4, rfl, -, -, -, g4⟩ := o4.form encI_len
  have bb8 := below_trans bb7 hx8
  have Y8 := Y7.on hx8
  clear y0 y1 Y7 bb7 hx8 cMa o4 g3 hane
  have y0 := Y8.c0; have y1 := Y8.c1
  go_wp2_with fail
  refine (cSe _ _ _ bb8 g4).mono ?_
  rintro e w9 ⟨u5, rfl, o5, hx9⟩
  obtain ⟨U5, d5, rfl, -, -, -, g5⟩ := o5.form encB_len
  have bb9 := below_trans bb8 hx9
  have Y9 := Y8.on hx9
  have g4 := g4.on hx9
  clear y0 y1 Y8 bb8 hx9 cSe o5
  have y0 := Y9.c0; have y1 := Y9.c1
  go_wp2_with fail
  refine (cRe _ _ _ bb9 g4).mono ?_
  rintro e w10 ⟨u6, rfl, o6, hx10⟩
  obtain ⟨U6, d6, rfl, -, -, -, g6⟩ := o6.form encB_len
  have bb10 := below_trans bb9 hx10
  have g5 := g5.on hx10
  clear y0 y1 Y9 bb9 hx10 cRe o6 g4
  rw [Hm.out]
  obtain ⟨N, hN⟩ : ∃ N, K.length = N := ⟨_, rfl⟩
  have HmN : Hid (m.length = N) := Lib.hid (Hm.out.trans hN)
  rw [hN] at q4 q8 ⊢
  have hmost : decide (most < (N : Int)) = false := decide_eq_false (by omega)
  clear Hm HS4 q2' q3' hq6 HPL HCL hN
  have cSm := Bools_same U5 U6 d5 d6 m w10 g5 g6 (by have := HmN.out; omega)
  rw [HmN.out] at cSm
  have bb11 := below_trans hb6 bb10
  have HS6 := Lib.hid ((bb10.block w.heap.size (Array.getElem?_eq_some_iff.1 HS5.out).1).trans HS5.out)
  clear bb10 hb6 hb5 q4 q6 q7 HS5
  go_wp2_with fail
  refine cSm.mono ?_
  rintro e w11 ⟨rfl, hx11⟩
  have g5 := g5.on hx11
  have g6 := g6.on hx11
  have bb12 := below_trans bb11 hx11
  have x0 : w11.cell? ⟨w.heap.size, 0, none⟩ = some (.int .u64 s0) := cell_of_row w11 w.heap.size 0 _ _ _ ((hx11.block w.heap.size (Array.getElem?_eq_some_iff.1 HS6.out).1).trans HS6.out)
  clear cSm bb11 hx11 HS6 own1 own2 q9 hs1 hn
  obtain ⟨N1, hN1⟩ : ∃ N1 : Nat, (N : Int) + 1 = (N1 : Int) := ⟨N + 1, by omega⟩
  obtain ⟨kk, hkk, hkN⟩ : ∃ kk : Nat, (k8 : Int) % (N1 : Int) = (kk : Int) ∧ kk ≤ N := ⟨k8 % N1, by simp, by have := Nat.mod_lt k8 (show 0 < N1 by omega); omega⟩
  have h3 : ((N1 : Int) == 0) = false := by rw [beq_eq_false_iff_ne]; omega
  go_wp2_with fail
  have al1 := below_alloc (Below.refl w11.heap.size w11) (.cells #[.int .u32 1] 88)
  have al2 := below_alloc al1 (.cells #[.int .u32 100] 88)
  have al3 := below_alloc al2 (.cells #[.int .u32 1] 88)
  have bb13 := below_trans bb12 al3
  have nt1 : Nt (((w11.alloc (.cells #[.int .u32 1] 88)).alloc (.cells #[.int .u32 100] 88)).alloc (.cells #[.int .u32 1] 88)) (some ⟨w11.heap.size, 0, none⟩) 1 [1] := ((nt_one w11 1 88 (by decide)).on (below_alloc (Below.refl _ _) _)).on (below_alloc (Below.refl _ _) _)
  have nt2 : Nt (((w11.alloc (.cells #[.int .u32 1] 88)).alloc (.cells #[.int .u32 100] 88)).alloc (.cells #[.int .u32 1] 88)) (some ⟨w11.heap.size + 1, 0, none⟩) 1 [100] := by
    have h := (nt_one (w11.alloc (.cells #[.int .u32 1] 88)) 100 88 (by decide)).on (below_alloc (Below.refl _ _) (.cells #[.int .u32 1] 88))
    simpa using h
  have nt3 : Nt (((w11.alloc (.cells #[.int .u32 1] 88)).alloc (.cells #[.int .u32 100] 88)).alloc (.cells #[.int .u32 1] 88)) (some ⟨w11.heap.size + 1 + 1, 0, none⟩) 1 [1] := by
    have h := nt_one ((w11.alloc (.cells #[.int .u32 1] 88)).alloc (.cells #[.int .u32 100] 88)) 1 88 (by decide)
    simpa using h
  have cT := Test_any U5 U6 d5 d6 N N m m kk s0 ⟨some ⟨w11.heap.size, 0, none⟩, 1, [1], some ⟨w11.heap.size + 1, 0, none⟩, 1, [100]⟩ ⟨none, 0, [], some ⟨w11.heap.size + 1 + 1, 0, none⟩, 1, [1]⟩ _ HmN.out HmN.out (g5.on al3) (g6.on al3) (by omega) ⟨nt1, nt2⟩ ⟨Nt_nil _, nt3⟩
  obtain ⟨bd, bd0, bd1, t1, t2, t3, t4⟩ := hon_test (s := s0) HmN.out hkN (by omega) (some ⟨w11.heap.size, 0, none⟩) (some ⟨w11.heap.size + 1, 0, none⟩) none (some ⟨w11.heap.size + 1 + 1, 0, none⟩) 1 1 0 1
  unfold TsR at cT
  rw [t1, t2, t3] at cT
  generalize pickL m (rsL s0 N kk) = R at cT t4
  obtain ⟨NK, hNK⟩ : ∃ NK : Nat, N - kk = NK := ⟨_, rfl⟩
  have hNK2 : (N : Int) - (kk : Int) = (NK : Int) := by omega
  rw [hNK] at t4
  have HR := Lib.hid t4
  clear t1 t2 t3 t4 hNK g5 g6 nt1 nt2 nt3 al1 al2 al3 bb12 x0 hmost h3
  refine cT.mono ?_
  rintro e w12 ⟨v1, v2, rfl, ow1, ow2, hx12⟩
  obtain ⟨Q1, e1, rfl, -, -, -, r1⟩ := ow1.form encB_len
  obtain ⟨Q2, e2, rfl, -, -, -, r2⟩ := ow2.form encB_len
  rw [HR.out]
  have bb14 := below_trans bb13 hx12
  have cSm := fun w' (hb : Below w12.heap.size w12 w') => Bools_same Q1 Q2 e1 e2 R w' (r1.on hb) (r2.on hb) (by have := HR.out; omega)
  rw [HR.out] at cSm
  clear cT hx12 bb13 ow1 ow2
  go_wp2_with fail
  refine (cSm _ (below_alloc (Below.refl _ _) _)).mono ?_
  rintro e w13 ⟨rfl, hx13⟩
  have bb15 := below_trans (below_alloc bb14 _) hx13
  clear cSm r1 r2 bb14 hx13
  go_wp2_with (go_at_call 27; refine (known_any _).mono ?_; rintro e w14 ⟨rfl, hb14⟩)
  go_ret
  exact ⟨rfl, below_trans bb15 hb14⟩

end Go.Proofs.YteoaaphjbggobaaGreat
