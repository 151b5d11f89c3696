/- The example of the law's package: Plain, and a station's first session (works). No condition. -/
import Derived.Test.YtfolgmcoggejbaaGreatSesK
import Derived.Test.YtfolgmcoggejbaaGreatNumAll
import Derived.Test.YtfolgmcoggejbaaGreatMade
import Derived.Test.YtfolgmcoggejbaaGreatMadeK
namespace Go.Proofs.YtfolgmcoggejbaaGreat
open Go.RowKit
set_option linter.unusedVariables false
set_option linter.unusedSimpArgs false

/-- The optics of the example. -/
def optP : Opt := ⟨0, 0, 0, 256, 256, 0, 0, 0, 256, 0, 0, 0, 0, 256, 0, 0, 256, 0⟩
def opt0 : Opt := ⟨0, 0, 0, 0, 0, 0, 0, 0, 0, 0, 0, 0, 0, 0, 0, 0, 0, 0⟩
/-- What Plain returns. -/
def plnS (A1 A2 A3 A4 : Option Addr) (slots head block sample width : Int) (seed : Nat) : Stp :=
  ⟨optP, slots, head, 0, block, sample, ⟨A1, 1, [1], A2, 1, [4]⟩, ⟨A3, 1, [1], A4, 1, [8]⟩, 1, 16, 0, width, 0, 3, seed⟩
set_option maxRecDepth 100000 in
set_option maxHeartbeats 40000000 in
theorem Plain_any (slots head block sample width : Int) (seed : Nat) (w : World) :
    Calls Tryz.prog 92 #[.int .i64 slots, .int .i64 head, .int .i64 block, .int .i64 sample, .int .i64 width, .int .u64 seed] w fun e w' =>
      ∃ A1 A2 A3 A4, e = .returned (plnS A1 A2 A3 A4 slots head block sample width seed).val ∧ (plnS A1 A2 A3 A4 slots head block sample width seed).In w' ∧ Below w.heap.size w w' := by
  have q1 := below_alloc (Below.refl w.heap.size w) (.cells stp0.cs 69)
  have At1 := StpAt.new w stp0
  go_enter Tryz.func92, Tryz.ntmps92
  go_upto_region 1 with (refine Great.wpList_allocTo rfl (some 12) rfl (.pointer (some ⟨w.heap.size, 0, none⟩)) (.cells stp0.cs 69) (by kernel_rfl) ?_)
  obtain ⟨w1, hw1⟩ : ∃ w1, w.alloc (.cells stp0.cs 69) = w1 := ⟨_, rfl⟩
  rw [hw1] at q1 At1 ⊢
  have lt1 : w.heap.size < w1.heap.size := by rw [← hw1]; simp
  clear hw1
  go_upto_region 2 with (first
    | (refine wpList_buildAs rfl 67 _ rfl #[(0, .int .i64 0), (1, .agg #[.int .i64 0, .int .i64 0, .int .i64 256]), (2, .agg #[.int .i64 256, .int .i64 0, .int .i64 0, .int .i64 0, .int .i64 256, .int .i64 0, .int .i64 0, .int .i64 0, .int .i64 0, .int .i64 256, .int .i64 0, .int .i64 0]), (3, .int .i64 256)] (by kernel_rfl) optP.cs (by kernel_rfl) ?_)
    | (refine Great.wpList_allocTo rfl (some 13) rfl (.pointer (some ⟨w1.heap.size, 0, none⟩)) (.cells opt0.cs 67) (by kernel_rfl) ?_)
    | (refine wpList_store_row rfl 67 _ _ rfl w1.heap.size optP.cs (by kernel_rfl) (by kernel_rfl) 67 opt0.cs (heap_last9 _ _) (show (Tryz.prog.info? 67).map (·.size) = some 18 by kernel_rfl) rfl (by kernel_rfl) ?_))
  rw [World.setRow_alloc_new]
  (try simp only [Act.put, List.getElem_toArray, List.getElem_cons_succ, List.getElem_cons_zero, List.setIfInBounds_toArray, List.set_cons_zero, List.set_cons_succ])
  have b2 := below_alloc (Below.refl w1.heap.size w1) (.cells optP.cs 67)
  have q2 := below_trans q1 b2
  have At2 := At1.on b2
  have O2 : ∀ (j : Nat) (v : Value), optP.cs[j]? = some v → (w1.alloc (.cells optP.cs 67)).cell? ⟨w1.heap.size, 0 + j, none⟩ = some v := fun j v h => by
    rw [Nat.zero_add]; exact new_cell h
  obtain ⟨w2, hw2⟩ : ∃ w2, w1.alloc (.cells optP.cs 67) = w2 := ⟨_, rfl⟩
  obtain ⟨g, hg⟩ : ∃ g, w1.heap.size = g := ⟨_, rfl⟩
  rw [hw2] at q2 At2 O2 ⊢
  rw [hg] at O2 ⊢
  clear hw2 hg b2 q1 At1
  have c3 : Below w2.heap.size w2 (w2.alloc (.cells #[.int .u32 1] 117)) := below_alloc (Below.refl _ _) _
  have n1 : Nt (w2.alloc (.cells #[.int .u32 1] 117)) (some ⟨w2.heap.size, 0, none⟩) 1 [1] := nt_one w2 1 117 (by decide)
  have c4 : Below ((w2.alloc (.cells #[.int .u32 1] 117))).heap.size (w2.alloc (.cells #[.int .u32 1] 117)) ((w2.alloc (.cells #[.int .u32 1] 117)).alloc (.cells #[.int .u32 4] 117)) := below_alloc (Below.refl _ _) _
  have n2 : Nt ((w2.alloc (.cells #[.int .u32 1] 117)).alloc (.cells #[.int .u32 4] 117)) (some ⟨(w2.alloc (.cells #[.int .u32 1] 117)).heap.size, 0, none⟩) 1 [4] := nt_one _ 4 117 (by decide)
  have c5 : Below (((w2.alloc (.cells #[.int .u32 1] 117)).alloc (.cells #[.int .u32 4] 117))).heap.size ((w2.alloc (.cells #[.int .u32 1] 117)).alloc (.cells #[.int .u32 4] 117)) (((w2.alloc (.cells #[.int .u32 1] 117)).alloc (.cells #[.int .u32 4] 117)).alloc (.cells #[.int .u32 1] 117)) := below_alloc (Below.refl _ _) _
  have n3 : Nt (((w2.alloc (.cells #[.int .u32 1] 117)).alloc (.cells #[.int .u32 4] 117)).alloc (.cells #[.int .u32 1] 117)) (some ⟨((w2.alloc (.cells #[.int .u32 1] 117)).alloc (.cells #[.int .u32 4] 117)).heap.size, 0, none⟩) 1 [1] := nt_one _ 1 117 (by decide)
  have c6 : Below ((((w2.alloc (.cells #[.int .u32 1] 117)).alloc (.cells #[.int .u32 4] 117)).alloc (.cells #[.int .u32 1] 117))).heap.size (((w2.alloc (.cells #[.int .u32 1] 117)).alloc (.cells #[.int .u32 4] 117)).alloc (.cells #[.int .u32 1] 117)) ((((w2.alloc (.cells #[.int .u32 1] 117)).alloc (.cells #[.int .u32 4] 117)).alloc (.cells #[.int .u32 1] 117)).alloc (.cells #[.int .u32 8] 117)) := below_alloc (Below.refl _ _) _
  have n4 : Nt ((((w2.alloc (.cells #[.int .u32 1] 117)).alloc (.cells #[.int .u32 4] 117)).alloc (.cells #[.int .u32 1] 117)).alloc (.cells #[.int .u32 8] 117)) (some ⟨(((w2.alloc (.cells #[.int .u32 1] 117)).alloc (.cells #[.int .u32 4] 117)).alloc (.cells #[.int .u32 1] 117)).heap.size, 0, none⟩) 1 [8] := nt_one _ 8 117 (by decide)
  have m3 := (n3.on c6); have m2 := (n2.on c5).on c6; have m1 := ((n1.on c4).on c5).on c6
  have q6 := below_trans (below_trans (below_trans (below_trans q2 c3) c4) c5) c6
  have At6 := (((At2.on c3).on c4).on c5).on c6
  simp only [World.size_alloc] at n4 m3 m2 m1
  have lt2 : w.heap.size < w2.heap.size := (Array.getElem?_eq_some_iff.1 At2).1
  have N4 := Lib.hid n4; have M3 := Lib.hid m3; have M2 := Lib.hid m2; have M1 := Lib.hid m1; have Q6 := Lib.hid q6; have L2 := Lib.hid lt2
  clear n1 n2 n3 n4 m1 m2 m3 c3 c4 c5 c6 q6 At2 q2 lt1 lt2
  go_wp2_with (first
    | (refine wpList_load_at 67 _ rfl g 0 rfl optP.cs _ O2 Tryz.underlying67 rfl (show (Tryz.prog.info? 67).map (·.size) = some 18 by kernel_rfl) (by rfl) ?_)
    | (refine Great.wpList_buildSliceTo rfl 30 117 1 _ (by rfl) w2.heap.size rfl (some 25) rfl Tryz.underlying30 #[.int .u32 1] (by kernel_rfl) ?_)
    | (refine Great.wpList_buildSliceTo rfl 30 117 1 _ (by rfl) (w2.heap.size + 1) (by simp) (some 26) rfl Tryz.underlying30 #[.int .u32 4] (by kernel_rfl) ?_)
    | (refine wpList_buildAs rfl 33 #[(0, .tmp 25), (1, .tmp 26)] rfl #[(0, .slice (some ⟨w2.heap.size, 0, none⟩) 1 1), (1, .slice (some ⟨(w2.heap.size + 1), 0, none⟩) 1 1)] (by kernel_rfl) #[.slice (some ⟨w2.heap.size, 0, none⟩) 1 1, .slice (some ⟨(w2.heap.size + 1), 0, none⟩) 1 1] (by kernel_rfl) ?_)
    | (refine Great.wpList_buildSliceTo rfl 30 117 1 _ (by rfl) (w2.heap.size + 2) (by simp) (some 28) rfl Tryz.underlying30 #[.int .u32 1] (by kernel_rfl) ?_)
    | (refine Great.wpList_buildSliceTo rfl 30 117 1 _ (by rfl) (w2.heap.size + 3) (by simp) (some 29) rfl Tryz.underlying30 #[.int .u32 8] (by kernel_rfl) ?_)
    | (refine wpList_buildAs rfl 33 #[(0, .tmp 28), (1, .tmp 29)] rfl #[(0, .slice (some ⟨(w2.heap.size + 2), 0, none⟩) 1 1), (1, .slice (some ⟨(w2.heap.size + 3), 0, none⟩) 1 1)] (by kernel_rfl) #[.slice (some ⟨(w2.heap.size + 2), 0, none⟩) 1 1, .slice (some ⟨(w2.heap.size + 3), 0, none⟩) 1 1] (by kernel_rfl) ?_)
    | (refine wpList_buildAs rfl 43 _ rfl #[(0, .int .i64 1), (1, .int .i64 16)] (by kernel_rfl) #[.int .i64 1, .int .i64 16, .int .u64 0] (by kernel_rfl) ?_)
    | (refine wpList_buildAs rfl 69 _ rfl #[(0, .agg optP.cs), (1, .int .i64 slots), (2, .int .i64 head), (4, .int .i64 block), (5, .int .i64 sample), (6, .agg #[.slice (some ⟨w2.heap.size, 0, none⟩) 1 1, .slice (some ⟨(w2.heap.size + 1), 0, none⟩) 1 1]), (7, .agg #[.slice (some ⟨(w2.heap.size + 2), 0, none⟩) 1 1, .slice (some ⟨(w2.heap.size + 3), 0, none⟩) 1 1]), (8, .agg #[.int .i64 1, .int .i64 16, .int .u64 0]), (9, .int .i64 width), (10, .int .i64 0), (11, .int .i64 3), (12, .int .u64 seed)] (by kernel_rfl) (plnS (some ⟨w2.heap.size, 0, none⟩) (some ⟨(w2.heap.size + 1), 0, none⟩) (some ⟨(w2.heap.size + 2), 0, none⟩) (some ⟨(w2.heap.size + 3), 0, none⟩) slots head block sample width seed).cs (by kernel_rfl) ?_)
    | (refine wpList_store_row rfl 69 _ _ rfl w.heap.size (plnS (some ⟨w2.heap.size, 0, none⟩) (some ⟨w2.heap.size + 1, 0, none⟩) (some ⟨w2.heap.size + 2, 0, none⟩) (some ⟨w2.heap.size + 3, 0, none⟩) slots head block sample width seed).cs (by kernel_rfl) (by kernel_rfl) 69 stp0.cs At6 (show (Tryz.prog.info? 69).map (·.size) = some 34 by kernel_rfl) rfl (by kernel_rfl) ?_))
  obtain ⟨w6, hw6⟩ : ∃ w6, ((((w2.alloc (.cells #[.int .u32 1] 117)).alloc (.cells #[.int .u32 4] 117)).alloc (.cells #[.int .u32 1] 117)).alloc (.cells #[.int .u32 8] 117)) = w6 := ⟨_, rfl⟩
  rw [hw6] at At6 N4 M3 M2 M1 Q6 ⊢
  clear hw6
  have rh := setRow_heap w6 w.heap.size _ (plnS (some ⟨w2.heap.size, 0, none⟩) (some ⟨w2.heap.size + 1, 0, none⟩) (some ⟨w2.heap.size + 2, 0, none⟩) (some ⟨w2.heap.size + 3, 0, none⟩) slots head block sample width seed).cs _ (0, 0) At6
  have gr := grown_setRow w6 w.heap.size (plnS (some ⟨w2.heap.size, 0, none⟩) (some ⟨w2.heap.size + 1, 0, none⟩) (some ⟨w2.heap.size + 2, 0, none⟩) (some ⟨w2.heap.size + 3, 0, none⟩) slots head block sample width seed).cs
  have lt2 := L2.out
  have kp : ∀ (g : Nat) (l : List Nat), w2.heap.size ≤ g → Nt w6 (some ⟨g, 0, none⟩) 1 l → Nt (w6.setRow w.heap.size (plnS (some ⟨w2.heap.size, 0, none⟩) (some ⟨w2.heap.size + 1, 0, none⟩) (some ⟨w2.heap.size + 2, 0, none⟩) (some ⟨w2.heap.size + 3, 0, none⟩) slots head block sample width seed).cs) (some ⟨g, 0, none⟩) 1 l :=
    fun g l hg h => ⟨arr_out2 h.arr (Out2.grown (b := w.heap.size) (m := w.heap.size) gr (.inl rfl)) (fun a ha => by cases ha; simp only [ne_eq, and_self]; omega), h.len, h.cap, h.dig, h.nil⟩
  refine bodyPost_ret (v := .agg (plnS (some ⟨w2.heap.size, 0, none⟩) (some ⟨w2.heap.size + 1, 0, none⟩) (some ⟨w2.heap.size + 2, 0, none⟩) (some ⟨w2.heap.size + 3, 0, none⟩) slots head block sample width seed).cs) ?_ rfl ⟨_, _, _, _, rfl, ⟨⟨kp _ _ (Nat.le_refl _) M1.out, kp _ _ (Nat.le_add_right _ _) M2.out⟩, ⟨kp _ _ (Nat.le_add_right _ _) M3.out, kp _ _ (Nat.le_add_right _ _) N4.out⟩⟩, Q6.out.grown gr Q6.out.size (fun k hk => by cases hk; omega)⟩
  exact results_cell_row rfl _ _ w.heap.size 69 (plnS (some ⟨w2.heap.size, 0, none⟩) (some ⟨w2.heap.size + 1, 0, none⟩) (some ⟨w2.heap.size + 2, 0, none⟩) (some ⟨w2.heap.size + 3, 0, none⟩) slots head block sample width seed).cs (0, 0) _ (by rfl) rh Tryz.underlying69 rfl (show (Tryz.prog.info? 69).map (·.size) = some 34 by kernel_rfl)

/-- The load of a struct out of a box yields the same in all worlds that meet S. -/
theorem yields_load_at {P : Program} {ops : Array Oper} {S : World → Prop} {o : Oper} {a : Act} (hgd : o.guard = none) (ty : TypeId) (x : Operand) (ho : o.op = .load ty x)
    (g off : Nat) (hx : a.eval x = .pointer (some ⟨g, off, none⟩)) (cs : Array Value) (d : TypeDesc) (hc : ∀ w, S w → ∀ (j : Nat) (v : Value), cs[j]? = some v → w.cell? ⟨g, off + j, none⟩ = some v)
    (hu : P.underlying ty = some d) (hd : (match d with | .struct _ | .array _ _ => true | _ => false) = true) (hi : (P.info? ty).map (·.size) = some cs.size) : YieldsIf P ops S o (.agg cs) a :=
  .inl ⟨by simp [Region.wanted, hgd], fun w hS => by
    unfold execOp
    simp only [ho, hx, Instr.loadAt, Instr.sureAddr, Sem.run_bind, Sem.run_pure, Result.andThen_ok, run_loadVar_at w g off ty cs d (hc w hS) hu hd hi]⟩
/-- 'make([]T, n)' in a region that draws its order. -/
theorem step_mk {P : Program} {W : World} {ops : Array Oper} {o : Oper} {a : Act} {K : Act → World → Prop} {Q : Exit → Act → World → Prop} {E : Prop} (hgd : o.guard = none) (l c : Operand) (t : TypeId) (hop : o.op = Op.makeSlice t l c)
    (base : Nat) (e : TypeId) (i : TypeInfo) (z : Value) (size : Nat) (h1 : P.underlying t = some (.slice e)) (h2 : P.info? e = some i) (h3 : i.zero = some z) (h4 : i.size = size)
    (kl kc : IntKind) (L C : Int) (n : Nat) (hl : a.eval l = .int kl L) (hc : a.eval c = .int kc C) (hL : L = (n : Int)) (hC : C = (n : Int)) (b2 : i.bytes * n ≤ 281474976710656) (b3 : n ≤ maxLen) (b4 : base ≤ W.heap.size)
    (h : ∀ w', w'.ownsRow base e size (.slice (some ⟨W.heap.size, 0, none⟩) n n) n (madeCells z.cells (n * size)).toList → W.grownBy w' none → K (a.put o.dst (.slice (some ⟨W.heap.size, 0, none⟩) n n)) w') : if Region.wanted o (yielded ops a.tmps) = true then Oper.wp P o a W K Q else E := by
  rw [if_pos (by simp [Region.wanted, hgd])]
  obtain ⟨w', hrun, r1, r2⟩ := run_make_full (P := P) W base t e i z size h1 h2 h3 h4 kl kc n b2 b3 b4
  subst hL hC
  unfold Oper.wp
  simp [execOp, hop, hl, hc, hrun, Result.andThen]
  exact h w' r1 r2
theorem pln_stp (A1 A2 A3 A4 : Option Addr) : stpE (plnS A1 A2 A3 A4 8 2 1 0 8 1) = 0 := by rfl

theorem pls_info : (Tryz.prog.info? 156).map (fun i => (i.zero, i.size, i.bytes)) = some (some (.agg #[.int .i64 0, .bool false, .int .i64 0, .int .i64 0, .bool false]), 5, 40) := by kernel_rfl
set_option maxRecDepth 100000 in
set_option maxHeartbeats 4000000 in
theorem works7_any (w : World) : Calls Tryz.prog 37 #[] w fun e w' => e = .returned (.bool true) ∧ Below w.heap.size w w' := by
  have cP := Plain_any 8 2 1 0 8 1 w
  go_enter Tryz.func37, Tryz.ntmps37
  go_upto_region 1 with fail
  go_wp2_with fail
  refine cP.mono ?_
  rintro e w1 ⟨A1, A2, A3, A4, rfl, in1, q1⟩
  have hst := pln_stp A1 A2 A3 A4
  have hll : (plnS A1 A2 A3 A4 8 2 1 0 8 1).eps.l.length ≤ 1000 ∧ (plnS A1 A2 A3 A4 8 2 1 0 8 1).eps.m.length ≤ 1000 ∧ (plnS A1 A2 A3 A4 8 2 1 0 8 1).lim.l.length ≤ 1000 ∧ (plnS A1 A2 A3 A4 8 2 1 0 8 1).lim.m.length ≤ 1000 := by simp [plnS]
  have h18 : (plnS A1 A2 A3 A4 8 2 1 0 8 1).slots = 8 := rfl
  have h19 : (plnS A1 A2 A3 A4 8 2 1 0 8 1).head = 2 := rfl
  have h30 : (plnS A1 A2 A3 A4 8 2 1 0 8 1).width = 8 := rfl
  obtain ⟨s, hs⟩ : ∃ s, plnS A1 A2 A3 A4 8 2 1 0 8 1 = s := ⟨_, rfl⟩
  rw [hs] at in1 hst hll h18 h19 h30
  rw [hs]
  clear hs cP
  have hsz : (Tryz.prog.info? 69).map (·.size) = some s.cs.size := (show (Tryz.prog.info? 69).map (·.size) = some 34 by kernel_rfl)
  have b2 := below_alloc (Below.refl w1.heap.size w1) (.cells s.cs 69)
  have At2 := StpAt.new w1 s
  unfold Stp.val
  go_upto_region 2 with (first
    | (refine Great.wpList_allocTo rfl (some 1) rfl (.pointer (some ⟨w1.heap.size, 0, none⟩)) (.cells stp0.cs 69) (by kernel_rfl) ?_)
    | (refine wpList_store_row rfl 69 _ _ rfl w1.heap.size s.cs (by kernel_rfl) (by kernel_rfl) 69 stp0.cs (heap_last9 _ _) hsz rfl (by kernel_rfl) ?_))
  rw [World.setRow_alloc_new]
  (try simp only [Act.put, List.getElem_toArray, List.getElem_cons_succ, List.getElem_cons_zero, List.setIfInBounds_toArray, List.set_cons_zero, List.set_cons_succ])
  obtain ⟨w2, hw2⟩ : ∃ w2, w1.alloc (.cells s.cs 69) = w2 := ⟨_, rfl⟩
  obtain ⟨p, hp⟩ : ∃ p, w1.heap.size = p := ⟨_, rfl⟩
  have q2 := below_trans q1 b2
  have in2 := in1.on b2
  rw [hw2] at At2 q2 in2 ⊢
  rw [hp] at At2 ⊢
  clear hw2 hp b2 q1 in1
  obtain ⟨i0, hi, hz0, hz1, hz2⟩ := info_parts bool_info3
  have hS2 : StpAt w2.drew p s := At2
  refine wp_region_held_drew (S := fun w' => StpAt w' p s) (by kernel_rfl) hS2 (fun hHeld => ?_)
  refine wpAnyH_take (i := 0) (v := .agg s.cs) rfl (by kernel_rfl) (by kernel_rfl) (by kernel_rfl) (fun _ _ _ h => h) (yields_load_at rfl 69 _ (by rfl) p 0 (by rfl) s.cs _ (fun w hS j v hv => by rw [Nat.zero_add]; exact (StpAt.c hS j).trans hv) Tryz.underlying69 rfl hsz) hHeld ?_
  (try simp only [Act.put, List.getElem_toArray, List.getElem_cons_succ, List.getElem_cons_zero, List.setIfInBounds_toArray, List.set_cons_zero, List.set_cons_succ])
  refine wpAnyH_ready (rs := [1]) (by kernel_rfl) (by simp) ?_
  refine AllReadyH.cons rfl (fun K1 hK1 => ?_) AllReadyH.nil
  refine step_mk (by rfl) _ _ 22 (by rfl) w2.heap.size 4 i0 _ 1 Tryz.underlying22 hi hz0 hz1 _ _ _ _ 64 (by rfl) (by rfl) rfl rfl (by rw [hz2]; decide) (by decide) (Nat.le_refl _) ?_
  intro w3 row3 gr3
  have ow3 : Own w3 w2.heap.size 4 1 encB (.slice (some ⟨w2.drew.heap.size, 0, none⟩) 64 64) (List.replicate 64 false) := by
    unfold Own
    rw [List.length_replicate, ← toList_madeK (enc := encB) (sz := 1) false (Value.bool false).cells 64 rfl encB_len (by decide)]
    exact row3
  have b3 : Below w2.heap.size w2 w3 := (Below.refl w2.heap.size w2).drew.trans ⟨gr3.os, gr3.tape, gr3.output, gr3.size, fun k hk => gr3.block k hk (by simp)⟩
  have At3 : StpAt w3 p s := At2.on b3
  obtain ⟨A3, c3, e3, l3, m3, n3, ar3⟩ := ow3.form encB_len
  simp only [Value.slice.injEq] at e3
  obtain ⟨e3a, e3b, e3c⟩ := e3
  subst e3a e3c
  clear e3b
  have in3 := in2.on b3
  have q3 := below_trans q2 b3
  have cN := NewStation_any s 0 (some ⟨w2.drew.heap.size, 0, none⟩) 64 (List.replicate 64 false) w3 in3 ar3 n3 l3 m3 (by simp) hll
  unfold Stp.val at cN
  rw [List.length_replicate] at cN
  refine hK1.out _ _ At3 (fun hS3 => ?_)
  (try simp only [Act.put, List.getElem_toArray, List.getElem_cons_succ, List.getElem_cons_zero, List.setIfInBounds_toArray, List.set_cons_zero, List.set_cons_succ])
  refine wpAnyH_ready (rs := [2]) (by kernel_rfl) (by simp) ?_
  refine AllReadyH.cons rfl (fun K2 hK2 => ?_) AllReadyH.nil
  go_simp
  refine cN.mono ?_
  rintro e w4 ⟨v, rfl, hb4, hok, _⟩
  have e0 : nsE s 0 (List.replicate 64 false).length = 0 := by unfold nsE; rw [hst]; simp [betwB]
  obtain ⟨b, s', W, pb, nb, mb, rfl, M⟩ := hok e0
  rw [e0]
  have At4 := At3.on hb4
  have q4 := below_trans q3 hb4
  refine hK2.out _ _ At4 (fun hS4 => ?_)
  (try simp only [Act.put, List.getElem_toArray, List.getElem_cons_succ, List.getElem_cons_zero, List.setIfInBounds_toArray, List.set_cons_zero, List.set_cons_succ])
  (refine wpAnyH_take (i := 3) (v := ?_) rfl (by kernel_rfl) (by kernel_rfl) (by kernel_rfl) (fun _ _ _ h => h) (Or.inl ⟨by rfl, ?_⟩) (by assumption) ?_; rotate_left 1; (focus (intro wz hSz; (try dsimp only at hSz); go_simp; (try with_reducible rfl))); (try simp only [Act.put, List.setIfInBounds_toArray, List.set_cons_zero, List.set_cons_succ]))
  (refine wpAnyH_take (i := 4) (v := ?_) rfl (by kernel_rfl) (by kernel_rfl) (by kernel_rfl) (fun _ _ _ h => h) (Or.inl ⟨by rfl, ?_⟩) (by assumption) ?_; rotate_left 1; (focus (intro wz hSz; (try dsimp only at hSz); go_simp; (try with_reducible rfl))); (try simp only [Act.put, List.setIfInBounds_toArray, List.set_cons_zero, List.set_cons_succ]))
  (refine wpAnyH_take (i := 5) (v := ?_) rfl (by kernel_rfl) (by kernel_rfl) (by kernel_rfl) (fun _ _ _ h => h) (Or.inl ⟨by rfl, ?_⟩) (by assumption) ?_; rotate_left 1; (focus (intro wz hSz; (try dsimp only at hSz); go_simp; (try with_reducible rfl))); (try simp only [Act.put, List.setIfInBounds_toArray, List.set_cons_zero, List.set_cons_succ]))
  (refine wpAnyH_take (i := 6) (v := ?_) rfl (by kernel_rfl) (by kernel_rfl) (by kernel_rfl) (fun _ _ _ h => h) (Or.inl ⟨by rfl, ?_⟩) (by assumption) ?_; rotate_left 1; (focus (intro wz hSz; (try dsimp only at hSz); go_simp; (try with_reducible rfl))); (try simp only [Act.put, List.setIfInBounds_toArray, List.set_cons_zero, List.set_cons_succ]))
  (refine wpAnyH_take (i := 7) (v := ?_) rfl (by kernel_rfl) (by kernel_rfl) (by kernel_rfl) (fun _ _ _ h => h) (Or.inl ⟨by rfl, ?_⟩) (by assumption) ?_; rotate_left 1; (focus (intro wz hSz; (try dsimp only at hSz); go_simp; (try with_reducible rfl))); (try simp only [Act.put, List.setIfInBounds_toArray, List.set_cons_zero, List.set_cons_succ]))
  refine wpAnyH_done (by kernel_rfl) ?_ _
  obtain ⟨y, hyb, poolY, inY, bY⟩ := M.low
  have kep := M.kep
  have wid := M.wid
  have MA := M.at_
  have lo1 := Nat.le_trans q3.size M.lo.1
  have lo2 := Nat.le_trans q3.size M.lo.2.2.2
  have Lo1 := Lib.hid lo1
  have Lo2 := Lib.hid lo2
  clear lo1 lo2
  rw [h30] at wid
  obtain rfl : W = 8 := by omega
  clear M hok cN hS4 hHeld row3 gr3 ar3 ow3 wid
  obtain ⟨a1, k1, a2, k2, a3, k3, a4, k4, hkp⟩ := kep
  have g18 : s'.slots = 8 := by rw [hkp]; exact h18
  have g19 : s'.head = 2 := by rw [hkp]; exact h19
  have pool4 := poolY.on bY
  have off4 : PoolOff w4 pb nb mb b (List.replicate 64 false) := by
    have l1 : pb < y.heap.size := World.block_lt_of_cell? y _ poolY.c0
    have l2 : nb < y.heap.size := World.block_lt_of_cell? y _ poolY.d0
    have l3 : mb < y.heap.size := poolY.us.lt
    refine ⟨by omega, by omega, by omega, fun A c hc a ha => ?_⟩
    obtain ⟨A0, c0, h2, _, _, _, _, h7⟩ := poolY.c2
    rw [bel_cell bY h2] at hc
    cases hc
    have := (h7 a ha).2
    omega
  have hmb : mb < w4.heap.size := pool4.us.lt
  have ltb : b < w4.heap.size := (Array.getElem?_eq_some_iff.1 MA).1
  clear hkp poolY inY bY hi hz0 hz1 hz2
  obtain ⟨i1, hi, hz0, hz1, hz2⟩ := info_parts pls_info
  have Hi := Lib.hid hi; have Hz0 := Lib.hid hz0; have Hz1 := Lib.hid hz1; have Hz2 := Lib.hid hz2
  clear hi hz0 hz1 hz2
  go_upto_region 6 with (at_make; refine wpList_mkK rfl _ _ 74 rfl 156 i1 _ 5 40 Tryz.underlying74 Hi.out Hz0.out Hz1.out Hz2.out (by decide) Pls.enc_len ⟨0, false, 0, 0, false⟩ rfl _ _ _ _ 8 rfl rfl rfl rfl (by decide) (by decide) ?_; intro w5 ow5 hb5)
  have q5 := below_trans q4 hb5
  obtain ⟨A5, c5, e5, l5, m5, n5, ar5⟩ := ow5.form Pls.enc_len
  simp only [Value.slice.injEq] at e5
  obtain ⟨e5a, e5b, e5c⟩ := e5
  subst e5a e5c
  clear e5b
  have pool5 := pool4.on hb5
  have off5 := off4.on pool4 hb5
  have cB := begin_head b ⟨s', 0, pb, .slice none 0 0, 0, wrk0⟩ 1 (some ⟨w4.heap.size, 0, none⟩) 8 (List.replicate 8 ⟨0, false, 0, 0, false⟩) w5 (MA.on hb5) rfl (show (0 : Int) ≠ 4 by decide) (by decide) (show (0 : Int) < 1 by decide)
    ar5 l5 m5 n5 (fun a ha => by cases ha; simp only; omega) (by rw [List.length_replicate]; exact g18) (by rfl) (by rw [List.length_replicate]; simp only [g19]; decide) nb mb 8 (List.replicate 64 false) [] pool5 off5 (Nat.lt_of_lt_of_le hmb hb5.size)
    (by simp only [g19]; decide) (show nxE 8 (List.replicate 64 false) [] 0 = 0 by decide) (by simp only [g19]; decide)
  simp only [g19, List.length_replicate] at cB
  go_wp2_with fail
  refine cB.mono ?_
  rintro e w6 ⟨o6, d, A', c', T, rfl, L6⟩
  have q6 : Below w.heap.size w w6 := q5.trans (o6.below q5.size Lo1.out Lo2.out)
  have y1 : w6.cell? ⟨d, 1, none⟩ = some (.int .i64 1) := L6.c 1
  have y3 : w6.cell? ⟨d, 3, none⟩ = some (.slice A' 2 c') := L6.c 3
  clear cB L6
  go_wp2_with fail
  go_ret
  exact ⟨rfl, q6⟩

end Go.Proofs.YtfolgmcoggejbaaGreat
