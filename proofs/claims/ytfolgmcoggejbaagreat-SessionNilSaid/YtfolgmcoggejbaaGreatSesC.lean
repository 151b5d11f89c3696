/- Letters of a session: contracts of the library's fine, spread, Bits. For letters whose words are at most 4611686018427387904, and a valid width. -/
import Derived.Test.YtfolgmcoggejbaaGreatSesB
import Derived.Test.YtfolgmcoggejbaaGreatStpA
import Derived.Deep.DeepCutAuto
namespace Go.Proofs.YtfolgmcoggejbaaGreat
open Go.RowKit
set_option linter.unusedVariables false
set_option linter.unusedSimpArgs false

/-- A letter. -/
structure Ltr where
  ses : Int
  kind : Int
  num : Int
  A : Option Addr
  c : Nat
  ws : List Int
  tag : Nat
def Ltr.cs (l : Ltr) : Array Value := #[.int .i64 l.ses, .int .i64 l.kind, .int .i64 l.num, .slice l.A l.ws.length l.c, .int .u64 l.tag]
def Ltr.val (l : Ltr) : Value := .agg l.cs
structure Ltr.In (l : Ltr) (w : World) : Prop where
  a : Arr 1 encI w w.heap.size l.A l.ws
  len : l.ws.length ≤ l.c
  cap : l.c ≤ maxLen
  nil : l.A = none → l.c = 0
theorem Ltr.In.on {l : Ltr} {w w' : World} (h : l.In w) (hb : Below w.heap.size w w') : l.In w' := ⟨h.a.on hb, h.len, h.cap, h.nil⟩
def LtrAt (w : World) (b : Nat) (l : Ltr) : Prop := w.heap[b]? = some (.cells l.cs 89 (0, 0))
theorem LtrAt.on {w w' : World} {b : Nat} {l : Ltr} (h : LtrAt w b l) (hb : Below w.heap.size w w') : LtrAt w' b l :=
  (hb.block b (Array.getElem?_eq_some_iff.1 h).1).trans h
theorem LtrAt.new (w : World) (l : Ltr) : LtrAt (w.alloc (.cells l.cs 89)) w.heap.size l := heap_alloc_new w _
theorem LtrAt.c {w : World} {b : Nat} {l : Ltr} (h : LtrAt w b l) (j : Nat) : w.cell? ⟨b, j, none⟩ = l.cs[j]? := cell_of_row w b j _ _ _ h
theorem LtrAt.all {w : World} {b : Nat} {l : Ltr} (h : LtrAt w b l) : ∀ (j : Nat) (v : Value), l.cs[j]? = some v → w.cell? ⟨b, 0 + j, none⟩ = some v := fun j v hv => by rw [Nat.zero_add]; exact (h.c j).trans hv
def limW (W : Int) : Nat := if W = 8 then 256 else if W = 16 then 65536 else 4294967296
def headLB (l : Ltr) : Bool := betwB l.ses 1 1000 && (betwB l.kind 1 11 && (betwB l.num 0 65535 && decide (l.ws.length ≤ 4096)))
def ltrB (W : Int) (l : Ltr) : Bool := headLB l && (decide (l.tag < limW W) && l.ws.all okW)
theorem wide_cases {W : Int} (h : wideB W = true) : W = 8 ∨ W = 16 ∨ W = 32 := by
  unfold wideB at h; simp at h; omega
/-- 'make([]T, 0, n)'. -/
theorem wpList_mk0 {P : Program} {W : World} {ops : Array Oper} {o : Oper} {rest : List Oper} {a : Act} {Q : Exit → Act → World → Prop} (hgd : o.guard = none) (l c : Operand) (t : TypeId) (hop : o.op = Op.makeSlice t l c)
    (base : Nat) (e : TypeId) (i : TypeInfo) (z : Value) (size : Nat) (h1 : P.underlying t = some (.slice e)) (h2 : P.info? e = some i) (h3 : i.zero = some z) (h4 : i.size = size)
    (kl kc : IntKind) (C : Int) (n : Nat) (hl : a.eval l = .int kl 0) (hc : a.eval c = .int kc C) (hC : C = (n : Int)) (b2 : i.bytes * n ≤ 281474976710656) (b3 : n ≤ maxLen) (b4 : base ≤ W.heap.size)
    (h : ∀ w', w'.ownsRow base e size (.slice (some ⟨W.heap.size, 0, none⟩) 0 n) 0 [] → W.grownBy w' none → wpList P ops Q rest (a.put o.dst (.slice (some ⟨W.heap.size, 0, none⟩) 0 n)) w') : wpList P ops Q (o :: rest) a W :=
  wpList_plain hgd fun K hK => by
    obtain ⟨w', hrun, r1, r2⟩ := run_make_own (P := P) W base t e i z size h1 h2 h3 h4 kl kc n b2 b3 b4
    subst hC
    unfold Oper.wp
    simp [execOp, hop, hl, hc, hrun, Result.andThen]
    exact hK _ _ (h w' r1 r2)

theorem Contains_any (A : Option Addr) (c : Nat) (l : List Int) (w : World) (hA : Arr 1 encI w w.heap.size A l) (hl : l.length ≤ 4611686018427387904) :
    Calls Tryz.prog 126 #[.slice A l.length c, .func (.func 127) #[] #[]] w fun e w' => e = .returned (.bool (!l.all okW)) ∧ w = w' := by
  have cI := IndexFunc_any A c l w hA hl
  go_enter Tryz.func126, Tryz.ntmps126
  go_wp2_with fail
  refine cI.mono ?_
  rintro e w2 ⟨r, rfl, hr, rfl⟩
  go_wp2_with fail
  go_ret
  exact ⟨rfl, rfl⟩

set_option maxRecDepth 100000 in
set_option maxHeartbeats 4000000 in
theorem fine_any (l : Ltr) (W : Int) (w : World) (hW : wideB W = true) (h : l.In w) (hl : l.ws.length ≤ 4611686018427387904) :
    Calls Tryz.prog 67 #[l.val, .int .i64 W] w fun e w' => e = .returned (.bool (ltrB W l)) ∧ Below w.heap.size w w' := by
  have q0 := below_alloc (Below.refl w.heap.size w) (.cells l.cs 89)
  have At0 := LtrAt.new w l
  have hH : Hid (headLB l = (betwB l.ses 1 1000 && (betwB l.kind 1 11 && (betwB l.num 0 65535 && decide (l.ws.length ≤ 4096))))) := Lib.hid rfl
  have hE : Hid (ltrB W l = (headLB l && (decide (l.tag < limW W) && l.ws.all okW))) := Lib.hid rfl
  have cI := fun w' (hb : Below w.heap.size w w') => Contains_any l.A l.c l.ws w' (h.a.on hb) hl
  unfold Ltr.val
  go_enter Tryz.func67, Tryz.ntmps67
  go_upto_region 1 with fail
  obtain ⟨w1, hw1⟩ : ∃ w1, w.alloc (.cells l.cs 89) = w1 := ⟨_, rfl⟩
  rw [hw1] at q0 At0 ⊢
  clear hw1
  have x0 : w1.cell? ⟨w.heap.size, 0, none⟩ = some (.int .i64 l.ses) := At0.c 0
  have x1 : w1.cell? ⟨w.heap.size, 1, none⟩ = some (.int .i64 l.kind) := At0.c 1
  have x2 : w1.cell? ⟨w.heap.size, 2, none⟩ = some (.int .i64 l.num) := At0.c 2
  have x3 : w1.cell? ⟨w.heap.size, 3, none⟩ = some (.slice l.A l.ws.length l.c) := At0.c 3
  have x4 : w1.cell? ⟨w.heap.size, 4, none⟩ = some (.int .u64 l.tag) := At0.c 4
  go_cut [5] (fun v wx => v = .bool (headLB l) ∧ wx = w1)
  case first =>
    cases c1 : betwB l.ses 1 1000
    · go_wp2_with (go_at_call 61; refine (ssane_any _ _ _ _).mono ?_; rintro e w' ⟨rfl, rfl⟩; (first | rw [c1] | rw [c2] | rw [c3]))
      go_meet
      case rel => exact ⟨congrArg Value.bool (by rw [hH.out, c1]; rfl), rfl⟩
    · cases c2 : betwB l.kind 1 11
      · go_wp2_with (go_at_call 61; refine (ssane_any _ _ _ _).mono ?_; rintro e w' ⟨rfl, rfl⟩; (first | rw [c1] | rw [c2] | rw [c3]))
        go_meet
        case rel => exact ⟨congrArg Value.bool (by rw [hH.out, c1, c2]; rfl), rfl⟩
      · cases c3 : betwB l.num 0 65535
        · go_wp2_with (go_at_call 61; refine (ssane_any _ _ _ _).mono ?_; rintro e w' ⟨rfl, rfl⟩; (first | rw [c1] | rw [c2] | rw [c3]))
          go_meet
          case rel => exact ⟨congrArg Value.bool (by rw [hH.out, c1, c2, c3]; rfl), rfl⟩
        · have e4 : decide (l.ws.length ≤ 4096) = decide ((l.ws.length : Int) ≤ 4096) := by rw [Bool.eq_iff_iff]; simp; omega
          have E4 := Lib.hid e4
          clear e4
          cases c4 : decide ((l.ws.length : Int) ≤ 4096)
          all_goals (
            go_wp2_with (go_at_call 61; refine (ssane_any _ _ _ _).mono ?_; rintro e w' ⟨rfl, rfl⟩; (first | rw [c1] | rw [c2] | rw [c3]))
            go_meet
            case rel => exact ⟨congrArg Value.bool (by rw [hH.out, c1, c2, c3, E4.out, c4]; rfl), rfl⟩)
  obtain ⟨rfl, rfl⟩ := hcut
  go_upto_region 2 with fail
  have d4 := later_cell x4
  clear x0 x1 x2 x4
  go_cut [5] (fun v wx => v = .bool (headLB l && decide (l.tag < limW W)) ∧ Below wc.heap.size wc wx)
  case first =>
    cases l1 : headLB l
    · (refine wp_region_later (by kernel_rfl) (by kernel_rfl) ?_; (repeat (go_big_quiet_step (fail))); refine wpQuiet_nil ?_; rintro w2 ⟨⟨_, hb2⟩, rfl⟩)
      go_wp2_with fail
      go_meet
      case rel => exact ⟨congrArg Value.bool (by rw [l1]; rfl), hb2⟩
    · have lw : (W = 8 ∧ limW W = 256) ∨ (W = 16 ∧ limW W = 65536) ∨ (W = 32 ∧ limW W = 4294967296) := by
        rcases wide_cases hW with rfl | rfl | rfl
        · exact .inl ⟨rfl, rfl⟩
        · exact .inr (.inl ⟨rfl, rfl⟩)
        · exact .inr (.inr ⟨rfl, rfl⟩)
      clear hW hH
      have fin : ∀ (M : Nat) (b : Bool), limW W = M → decide ((l.tag : Int) < (M : Int)) = b → b = (true && decide (l.tag < limW W)) := fun M b h1 h2 => by
        rw [h1, ← h2, Bool.true_and, Bool.eq_iff_iff]; simp
      have Fin := Lib.hid fin
      clear fin
      rcases lw with ⟨rfl, hlw⟩ | ⟨rfl, hlw⟩ | ⟨rfl, hlw⟩
      · cases t1 : decide ((l.tag : Int) < 256)
        all_goals (
          have tt := Lib.hid t1
          (refine wp_region_later (by kernel_rfl) (by kernel_rfl) ?_; (repeat (go_big_quiet_step (fail))); refine wpQuiet_nil ?_; rintro w2 ⟨⟨_, hb2⟩, rfl⟩)
          go_wp2_with fail
          go_meet
          case rel => exact ⟨congrArg Value.bool (by rw [l1]; exact Fin.out 256 _ rfl tt.out), hb2⟩)
      · cases t1 : decide ((l.tag : Int) < 65536)
        all_goals (
          have tt := Lib.hid t1
          (refine wp_region_later (by kernel_rfl) (by kernel_rfl) ?_; (repeat (go_big_quiet_step (fail))); refine wpQuiet_nil ?_; rintro w2 ⟨⟨_, hb2⟩, rfl⟩)
          go_wp2_with fail
          go_meet
          case rel => exact ⟨congrArg Value.bool (by rw [l1]; exact Fin.out 65536 _ rfl tt.out), hb2⟩)
      · cases t1 : decide ((l.tag : Int) < 4294967296)
        all_goals (
          have tt := Lib.hid t1
          (refine wp_region_later (by kernel_rfl) (by kernel_rfl) ?_; (repeat (go_big_quiet_step (fail))); refine wpQuiet_nil ?_; rintro w2 ⟨⟨_, hb2⟩, rfl⟩)
          go_wp2_with fail
          go_meet
          case rel => exact ⟨congrArg Value.bool (by rw [l1]; exact Fin.out 4294967296 _ rfl tt.out), hb2⟩)
  obtain ⟨rfl, hbc⟩ := hcut
  have q2 := below_trans q0 hbc
  have x3 := bel_cell hbc x3
  have hE2 : Hid (ltrB W l = ((headLB l && decide (l.tag < limW W)) && l.ws.all okW)) := Lib.hid (by rw [hE.out, Bool.and_assoc])
  generalize (headLB l && decide (l.tag < limW W)) = B at *
  cases B
  · go_wp2_with fail
    go_ret
    exact ⟨ret_bool (by rw [hE2.out]; rfl), q2⟩
  · have cI2 := cI _ q2
    go_wp2_with fail
    refine cI2.mono ?_
    rintro e w5 ⟨rfl, rfl⟩
    go_wp2_with fail
    go_ret
    exact ⟨ret_bool (by rw [hE2.out]; simp), q2⟩

theorem own_low {α : Type} {w : World} {base base' e z : Nat} {enc : α → List Value} {v : Value} {l : List α} (h : Own w base e z enc v l) (hb : base' ≤ base) : Own w base' e z enc v l := by
  refine ⟨h.1, ?_⟩
  rcases h.2 with hn | ⟨g, cap, cur, hv, hbg, rest⟩
  · exact .inl hn
  · exact .inr ⟨g, cap, cur, hv, Nat.le_trans hb hbg, rest⟩
def ltrL (l : Ltr) : List Bool := b16 l.ses 16 ++ b16 l.kind 16 ++ b16 l.num 16 ++ l.ws.flatMap fun x => b16 x 16
theorem ltr_head {l : Ltr} (h : headLB l = true) : (1 ≤ l.ses ∧ l.ses ≤ 1000) ∧ (1 ≤ l.kind ∧ l.kind ≤ 11) ∧ (0 ≤ l.num ∧ l.num ≤ 65535) ∧ l.ws.length ≤ 4096 := by
  unfold headLB betwB at h; simpa using h
theorem flat16_len (f : List Int) : (f.flatMap fun x => b16 x 16).length = 16 * f.length := by
  induction f with
  | nil => rfl
  | cons x f ih => rw [List.flatMap_cons, List.length_append, ih, b16_len, List.length_cons]; omega

set_option maxRecDepth 100000 in
set_option maxHeartbeats 8000000 in
theorem spread_any (l : Ltr) (w : World) (h : l.In w) (hh : headLB l = true) (hw : l.ws.all okW = true) :
    Calls Tryz.prog 72 #[l.val] w fun e w' => ∃ v, e = .returned v ∧ Own w' w.heap.size 4 1 encB v (ltrL l) ∧ Below w.heap.size w w' := by
  obtain ⟨i0, hi, hz0, hz1, hz2⟩ := info_parts bool_info3
  have Hi := Lib.hid hi; have Hz0 := Lib.hid hz0; have Hz1 := Lib.hid hz1; have Hz2 := Lib.hid hz2
  clear hi hz0 hz1 hz2
  have q0 := below_alloc (Below.refl w.heap.size w) (.cells l.cs 89)
  have At0 := LtrAt.new w l
  obtain ⟨h1, h2, h3, h4⟩ := ltr_head hh
  obtain ⟨N1, hN1⟩ := Int.eq_ofNat_of_zero_le (show 0 ≤ l.ses by omega)
  obtain ⟨N2, hN2⟩ := Int.eq_ofNat_of_zero_le (show 0 ≤ l.kind by omega)
  obtain ⟨N3, hN3⟩ := Int.eq_ofNat_of_zero_le h3.1
  unfold Ltr.val
  go_enter Tryz.func72, Tryz.ntmps72
  go_upto_region 1 with fail
  obtain ⟨w1, hw1⟩ : ∃ w1, w.alloc (.cells l.cs 89) = w1 := ⟨_, rfl⟩
  have sz1 : w.heap.size < w1.heap.size := by rw [← hw1]; simp
  rw [hw1] at q0 At0 ⊢
  clear hw1
  have x3 : w1.cell? ⟨w.heap.size, 3, none⟩ = some (.slice l.A l.ws.length l.c) := At0.c 3
  go_upto_region 3 with (at_make; refine wpList_mk0 rfl _ _ 22 rfl w1.heap.size 4 i0 _ 1 Tryz.underlying22 Hi.out Hz0.out Hz1.out _ _ _ (16 * (3 + l.ws.length)) (by rfl) (by rfl) (by omega) (by rw [Hz2.out]; omega) (by unfold maxLen; omega) (Nat.le_refl _) ?_; intro w2 row2 gr2)
  have b2 : Below w1.heap.size w1 w2 := ⟨gr2.os, gr2.tape, gr2.output, gr2.size, fun k hk => gr2.block k hk (by simp)⟩
  have lt2 : w1.heap.size < w2.heap.size := (World.ownsRow.lt row2 _ rfl).2
  have q3 : Below w.heap.size w (w2.alloc (.cells #[.slice (some ⟨w1.heap.size, 0, none⟩) 0 (16 * (3 + l.ws.length))] 22)) := below_alloc (below_trans q0 b2) _
  have O3 : OutAt (w2.alloc (.cells #[.slice (some ⟨w1.heap.size, 0, none⟩) 0 (16 * (3 + l.ws.length))] 22)) w1.heap.size w2.heap.size (.slice (some ⟨w1.heap.size, 0, none⟩) 0 (16 * (3 + l.ws.length))) [] :=
    ⟨new_cell rfl, World.frozen?_alloc_at _ _ _ _ rfl, World.ownsRow.alloc row2 _, .inr (by simp [Value.ownBlock]; omega), by omega⟩
  have At3 := At0.on (below_alloc b2 (.cells #[.slice (some ⟨w1.heap.size, 0, none⟩) 0 (16 * (3 + l.ws.length))] 22))
  obtain ⟨w3, hw3⟩ : ∃ w3, w2.alloc (.cells #[.slice (some ⟨w1.heap.size, 0, none⟩) 0 (16 * (3 + l.ws.length))] 22) = w3 := ⟨_, rfl⟩
  have sz3 : w1.heap.size ≤ w3.heap.size := by rw [← hw3]; simp; omega
  rw [hw3] at q3 O3 At3
  obtain ⟨p, hp⟩ : ∃ p, w2.heap.size = p := ⟨_, rfl⟩
  rw [hp] at O3
  have keep : ∀ (x y : World), LtrAt x w.heap.size l → Below w1.heap.size x y → LtrAt y w.heap.size l := fun x y hx hb => (hb.block _ sz1).trans hx
  have Keep := Lib.hid keep
  clear x3 keep
  rw [hw3, hp]
  have x0 : w3.cell? ⟨w.heap.size, 0, none⟩ = some (.int .i64 (N1 : Int)) := by rw [← hN1]; exact At3.c 0
  clear row2 gr2 b2 lt2 hw3 hp At0
  go_wp2_with fail
  refine (put_any N1 p w1.heap.size _ [] w3 (by omega) O3 (by simp) sz3).mono ?_
  rintro e w4 ⟨⟨u4, rfl⟩, v4, O4, hb4⟩
  have At4 := Keep.out _ _ At3 hb4
  have q4 : Below w.heap.size w w4 := q3.trans (hb4.mono (by omega))
  have sz4 := Nat.le_trans sz3 hb4.size
  have x1 : w4.cell? ⟨w.heap.size, 1, none⟩ = some (.int .i64 (N2 : Int)) := by rw [← hN2]; exact At4.c 1
  clear x0 O3 At3 q3
  go_wp2_with fail
  refine (put_any N2 p w1.heap.size _ _ w4 (by omega) O4 (by simp [b16_len]) sz4).mono ?_
  rintro e w5 ⟨⟨u5, rfl⟩, v5, O5, hb5⟩
  have At5 := Keep.out _ _ At4 hb5
  have q5 : Below w.heap.size w w5 := q4.trans (hb5.mono (by omega))
  have sz5 := Nat.le_trans sz4 hb5.size
  have x2 : w5.cell? ⟨w.heap.size, 2, none⟩ = some (.int .i64 (N3 : Int)) := by rw [← hN3]; exact At5.c 2
  clear x1 O4 At4 q4
  go_wp2_with fail
  refine (put_any N3 p w1.heap.size _ _ w5 (by omega) O5 (by simp [b16_len]) sz5).mono ?_
  rintro e w6 ⟨⟨u6, rfl⟩, v6, O6, hb6⟩
  have At6 := Keep.out _ _ At5 hb6
  have q6 : Below w.heap.size w w6 := q5.trans (hb6.mono (by omega))
  have sz6 := Nat.le_trans sz5 hb6.size
  have x3 : w6.cell? ⟨w.heap.size, 3, none⟩ = some (.slice l.A l.ws.length l.c) := At6.c 3
  have hhd : Hid (ltrL l = ([] ++ b16 (N1 : Int) 16 ++ b16 (N2 : Int) 16 ++ b16 (N3 : Int) 16) ++ l.ws.flatMap fun x => b16 x 16) := Lib.hid (by unfold ltrL; rw [hN1, hN2, hN3, List.nil_append])
  have hlen : ([] ++ b16 (N1 : Int) 16 ++ b16 (N2 : Int) 16 ++ b16 (N3 : Int) 16).length = 48 := by simp [b16_len]
  have Hlen := Lib.hid hlen
  generalize [] ++ b16 (N1 : Int) 16 ++ b16 (N2 : Int) 16 ++ b16 (N3 : Int) 16 = H at *
  clear x2 O5 At5 q5 hb4 hb5 hb6 hlen h1 h2 h3 hN1 hN2 hN3
  go_wp2_with fail
  go_loopw [29] (fun i wr => ∃ (k : Nat) (v' : Value), k ≤ l.ws.length ∧ i = .int .i64 k ∧ OutAt wr w1.heap.size p v' (H ++ (l.ws.take k).flatMap fun x => b16 x 16) ∧ Below w1.heap.size w6 wr) (fun i _ => l.ws.length - (intOf i).toNat)
  case atStart => exact ⟨0, v6, by omega, rfl, by simpa using O6, Below.refl _ _⟩
  case round =>
    obtain ⟨k, v', hk, rfl, O, hbr⟩ := hrel
    obtain ⟨w7, rfl⟩ : ∃ w7, w7 = wr := ⟨_, rfl⟩
    have q7 : Below w.heap.size w w7 := q6.trans (hbr.mono (by omega))
    by_cases hlt : k < l.ws.length
    · obtain ⟨b, off, hA, hbb, hc⟩ := h.a.get hlt q7
      have c0 := hc 0 _ rfl
      simp only [Nat.mul_one, Nat.add_zero] at c0
      have hok : okW l.ws[k] = true := List.all_eq_true.1 hw _ (List.getElem_mem hlt)
      have hst : Hid (H ++ (l.ws.take (k + 1)).flatMap (fun x => b16 x 16) = (H ++ (l.ws.take k).flatMap fun x => b16 x 16) ++ b16 l.ws[k] 16) := Lib.hid (by rw [List.take_succ_eq_append_getElem hlt, List.flatMap_append, List.append_assoc]; simp)
      have hL2 : (H ++ (l.ws.take k).flatMap fun x => b16 x 16).length ≤ 100000 := by rw [List.length_append, flat16_len, Hlen.out, List.length_take]; omega
      generalize l.ws[k] = x at *
      obtain ⟨N, hN⟩ := Int.eq_ofNat_of_zero_le (show 0 ≤ x by unfold okW betwB at hok; simp at hok; omega)
      subst hN
      have hNl : N ≤ 65535 := by unfold okW betwB at hok; simp at hok; omega
      have cP := put_any N p w1.heap.size v' _ w7 hNl O hL2 (Nat.le_trans sz6 hbr.size)
      generalize (H ++ (l.ws.take k).flatMap fun x => b16 x 16) = M at *
      clear hok hL2 hc
      rw [hA]
      go_wp2_with fail
      refine cP.mono ?_
      rintro e w8 ⟨⟨u8, rfl⟩, v8, O8, hb8⟩
      have hb9 := hbr.trans hb8
      clear cP c0 O q7
      go_wp2_with fail
      exact ⟨⟨k + 1, v8, by omega, by go_num, by rw [hst.out]; exact O8, hb9⟩, by simp [intOf]; omega⟩
    · have e1 : l.ws.take k = l.ws := List.take_of_length_le (by omega)
      rw [e1, ← hhd.out] at O
      have oc := O.c; have oo := O.own
      clear e1 hhd Hlen O6
      go_wp2_with fail
      go_ret
      exact ⟨_, rfl, own_low oo (by omega), q7⟩

def ltrE (W : Int) (l : Ltr) : Int := if (wideB W && ltrB W l) = true then 0 else 2
def ltrR (W : Int) (l : Ltr) : List Bool := if (wideB W && ltrB W l) = true then ltrL l else []
end Go.Proofs.YtfolgmcoggejbaaGreat
