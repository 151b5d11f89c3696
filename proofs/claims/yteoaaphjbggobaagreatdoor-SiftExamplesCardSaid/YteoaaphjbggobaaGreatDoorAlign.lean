/- The program's Align: the best shift, and its agreement, over the iterator of all shifts. For valid pulses and clicks, at most 4096 each, and a need from 0 to 4096. -/
import Derived.Test.YteoaaphjbggobaaGreatDoorScore
import Derived.Test.YteoaaphjbggobaaGreatDoorRefChk
import Derived.RangeFuncBox
import Derived.RangeFuncCalls
import Derived.RangeFuncLeaves
import Derived.Shelf.Abstract
import Derived.OwnWalkIn
import Derived.TacticsInMore
import Derived.LoopNIn
import Derived.LoopIn
namespace Go.Proofs.YteoaaphjbggobaaGreatDoor
open Go.RowKit Go.Shelf
set_option linter.unusedVariables false
set_option linter.unusedSimpArgs false
attribute [local go_sem] Oper.semAt_some

def Sft : Type := { x : Int // -16 ≤ x ∧ x ≤ 16 }
def mkS (x : Int) : Sft := if h : -16 ≤ x ∧ x ≤ 16 then ⟨x, h⟩ else ⟨0, by omega⟩
theorem mkS_val {x : Int} (h : -16 ≤ x ∧ x ≤ 16) : (mkS x).1 = x := by simp [mkS, h]
def shTo : Nat → List Sft
  | 0 => [mkS 0]
  | n + 1 => shTo n ++ [mkS (-((n : Int) + 1)), mkS ((n : Int) + 1)]
theorem shTo_len : ∀ n, (shTo n).length = 2 * n + 1
  | 0 => rfl
  | n + 1 => by simp [shTo, shTo_len n]; omega

set_option maxRecDepth 100000 in
set_option maxHeartbeats 1000000 in
theorem shifts1_in (l : Nat) (J Jx : List Sft → World → Prop) (W : World)
    (hY : ∀ pre x W, J pre W → pre.length < 33 → YieldAt Fence.wide 8 Tryz.prog l #[.int .i64 x.1] W fun e W' =>
      (e = .returned (.bool true) ∧ J (pre ++ [x]) W' ∧ True) ∨ (e = .returned (.bool false) ∧ Jx (pre ++ [x]) W')) (h0 : J [] W) :
    CallsIn Fence.wide 9 Tryz.prog 48 #[.func (.yield l) #[] #[]] W fun e W' => (∃ v, e = .returned v) ∧
      ((∃ ys, ys = shTo 16 ∧ J ys W') ∨ (∃ pre, True ∧ Jx pre W')) := by
  refine callsIn_of_wp Tryz.func48 rfl trivial ?_ rfl
  simp only [Tryz.ntmps48, List.size_toArray, List.length_cons, List.length_nil, Nat.reduceAdd, Nat.reduceSub, Array.replicate_succ, Array.replicate_zero, List.push_toArray, List.append_toArray, List.nil_append, List.cons_append]
  obtain ⟨fn, tmps, assign, body, hy, hR⟩ := hY [] (mkS 0) W h0 (by simp)
  rw [mkS_val (by omega)] at hy
  gi_wp2
  refine hR.mono ?_
  rintro e W1 (⟨rfl, hJ1, _⟩ | ⟨rfl, hx1⟩)
  · clear hR hy
    have HY := Lib.hid hY
    clear hY
    gi_wp2
    gi_loopw [2] (fun i wr => ∃ k : Nat, k ≤ 16 ∧ i = .int .i64 ((k : Int) + 1) ∧ J (shTo k) wr) (fun i _ => 17 - (intOf i).toNat)
    case atStart => exact ⟨0, by omega, rfl, hJ1⟩
    case round =>
      obtain ⟨k, hk, rfl, hJ⟩ := hrel
      by_cases hlt : k < 16
      · obtain ⟨fn2, tmps2, assign2, body2, hy2, hR2⟩ := HY.out (shTo k) (mkS (-((k : Int) + 1))) wr hJ (by rw [shTo_len]; omega)
        rw [mkS_val (by omega)] at hy2
        gi_wp2
        refine hR2.mono ?_
        rintro e W2 (⟨rfl, hJ2, _⟩ | ⟨rfl, hx2⟩)
        · clear hR2 hy2
          obtain ⟨fn3, tmps3, assign3, body3, hy3, hR3⟩ := HY.out _ (mkS ((k : Int) + 1)) W2 hJ2 (by simp [shTo_len]; omega)
          rw [mkS_val (by omega)] at hy3
          gi_wp2
          refine hR3.mono ?_
          rintro e W3 (⟨rfl, hJ3, _⟩ | ⟨rfl, hx3⟩)
          · gi_wp2
            go_roundw
            case rel => exact ⟨k + 1, by omega, by go_num, by simpa [shTo] using hJ3⟩
            case measure => simp [intOf]; omega
          · gi_wp2
            refine bodyPost_ret (results_none rfl _ _ _) rfl ?_
            exact ⟨⟨_, rfl⟩, .inr ⟨_, trivial, hx3⟩⟩
        · gi_wp2
          refine ⟨fun _ h => (by cases h), ?_⟩
          gi_wp2
          refine bodyPost_ret (results_none rfl _ _ _) rfl ?_
          exact ⟨⟨_, rfl⟩, .inr ⟨_, trivial, hx2⟩⟩
      · obtain rfl : k = 16 := by omega
        gi_wp2
        go_end0
        exact ⟨⟨_, rfl⟩, .inl ⟨_, rfl, hJ⟩⟩
  · gi_wp2
    refine bodyPost_ret (results_none rfl _ _ _) rfl ?_
    exact ⟨⟨_, rfl⟩, .inr ⟨_, trivial, hx1⟩⟩

def scS (h : List Pls) (c : List Clk) (s : Int) : Int := scoreTo h c s h.length
def bestF (h : List Pls) (c : List Clk) (l : List Sft) : Int := l.foldl (fun b x => if scS h c b < scS h c x.1 then x.1 else b) 0

theorem bestF_snoc (h : List Pls) (c : List Clk) (l : List Sft) (x : Sft) : bestF h c (l ++ [x]) = if scS h c (bestF h c l) < scS h c x.1 then x.1 else bestF h c l := by unfold bestF; rw [List.foldl_append]; rfl
theorem bestF_bd (h : List Pls) (c : List Clk) (l : List Sft) : -16 ≤ bestF h c l ∧ bestF h c l ≤ 16 := by
  have : ∀ (l : List Sft) (b : Int), -16 ≤ b ∧ b ≤ 16 → -16 ≤ l.foldl (fun b x => if scS h c b < scS h c x.1 then x.1 else b) b ∧ l.foldl (fun b x => if scS h c b < scS h c x.1 then x.1 else b) b ≤ 16 := by
    intro l
    induction l with
    | nil => intro b hb; exact hb
    | cons x l ih => intro b hb; rw [List.foldl_cons]; refine ih _ ?_; split; exact x.2; exact hb
  exact this l 0 (by omega)
theorem shifts_any (w : World) : Calls Tryz.prog 24 #[] w fun e w' => e = .returned (.func (.func 48) #[] #[]) ∧ w = w' := by
  go_enter Tryz.func24, Tryz.ntmps24
  go_wp2
  go_ret
  exact ⟨rfl, rfl⟩
theorem shifts_seq (w : World) : SeqStopsK Fence.wide 9 Tryz.prog 48 #[] (fun x : Sft => #[Value.int .i64 x.1]) (fun _ _ => True) (fun ys => ys = shTo 16) (fun _ => True) 33 w := fun l J Jx W _ _ _ hY h0 =>
  shifts1_in l J Jx W hY h0

set_option maxRecDepth 100000 in
set_option maxHeartbeats 2000000 in
theorem align_main (A : Option Addr) (n : Nat) (h : List Pls) (C : Option Addr) (m : Nat) (c : List Clk) (need : Int) (w : World) (hA : Arr 5 Pls.enc w w.heap.size A h) (hC : Arr 2 Clk.enc w w.heap.size C c)
    (hl : h.length ≤ 4096) (hm : c.length ≤ 4096) (hbo : bothE h c = 0) (hn : betwB need 0 4096 = true) :
    CallsIn Fence.wide 10 Tryz.prog 6 #[.slice A h.length n, .slice C c.length m, .int .i64 need] w fun e w' =>
      e = .returned (.tuple #[.int .i64 (if scS h c (bestF h c (shTo 16)) < need then 0 else bestF h c (shTo 16)), .int .i64 (if scS h c (bestF h c (shTo 16)) < need then 17 else 0)]) ∧ Below w.heap.size w w' := by
  have Hbo := Lib.hid hbo
  have Hn := Lib.hid hn
  clear hbo hn
  have hF : ∀ f, Fence.wide.fn f := fun _ => trivial
  refine callsIn_of_wp_marks Tryz.func6 rfl trivial ?_ rfl
  simp only [Tryz.ntmps6, List.size_toArray, List.length_cons, List.length_nil, Nat.reduceAdd, Nat.reduceSub, Array.replicate_succ, Array.replicate_zero, List.push_toArray, List.append_toArray, List.nil_append, List.cons_append]
  gi_wp2_with (first
    | (gi_at_call 20; refine (callsIn_wide.2 (checkBoth_any A n h C m c _ (hA.on (below_alloc (below_alloc (Below.refl _ _) _) _)) (hC.on (below_alloc (below_alloc (Below.refl _ _) _) _)) (by omega) (by omega))).mono ?_; rintro e w2 ⟨rfl, hb2⟩; rw [Hbo.out]; have hb0 : Below w.heap.size w w2 := below_trans (below_alloc (below_alloc (Below.refl _ _) _) _) hb2; have d3 : w2.cell? ⟨w.heap.size, 0, none⟩ = some (.slice A h.length n) := bel_cell hb2 (by simp [go_sem]); have d4 : w2.cell? ⟨w.heap.size + 1, 0, none⟩ = some (.slice C c.length m) := bel_cell hb2 (by simp [go_sem]))
    | (gi_at_call 23; refine (callsIn_wide.2 (between_any _ _ _ _)).mono ?_; rintro e w' ⟨rfl, rfl⟩; rw [Hn.out])
    | (gi_at_call 22; refine (callsIn_wide.2 (agreement_any A n h C m c _ _ (hA.on hb0) (hC.on hb0) hl hm (by omega) (by omega))).mono ?_; rintro e w3 ⟨rfl, hb3⟩))
  gi_wp2_with (gi_at_call 24; refine (callsIn_wide.2 (shifts_any _)).mono ?_; rintro e w' ⟨rfl, rfl⟩)
  have hb4 : Below w.heap.size w ((w3.alloc (.cells #[.int .i64 0] 3)).alloc (.cells #[.int .i64 (scoreTo h c 0 h.length)] 3)) := below_alloc (below_alloc (below_trans hb0 hb3) _) _
  refine wpIn_rangeFunc_ownG (α := Sft) rfl (by omega) (gf := 48) (lb := #[]) rfl trivial (enters_of Tryz.func48 (by kernel_rfl) rfl) (shifts_seq _) (fun _ _ => trivial) (fun _ _ _ _ _ _ _ _ => trivial) (Below.refl _ _) (fun _ => rfl)
    (fun pre W => (W.cell? ⟨w3.heap.size, 0, none⟩ = some (.int .i64 (bestF h c pre)) ∧ W.frozen? ⟨w3.heap.size, 0, none⟩ = false ∧ W.cell? ⟨w3.heap.size + 1, 0, none⟩ = some (.int .i64 (scS h c (bestF h c pre))) ∧ W.frozen? ⟨w3.heap.size + 1, 0, none⟩ = false ∧
      W.cell? ⟨w.heap.size, 0, none⟩ = some (.slice A h.length n) ∧ W.cell? ⟨w.heap.size + 1, 0, none⟩ = some (.slice C c.length m)) ∧ Below w.heap.size w W)
    (fun _ _ _ => False)
    (OwnFrom.and (Own.from (fun s X Y row hs hg hr => ⟨cell_kept hs.1 hg hr, (frozen_kept hs.1 hg hr).trans hs.2.1, cell_kept hs.2.2.1 hg hr, (frozen_kept hs.2.2.1 hg hr).trans hs.2.2.2.1, cell_kept hs.2.2.2.2.1 hg hr, cell_kept hs.2.2.2.2.2 hg hr⟩) _) (ownFrom_below (Nat.le_refl _) hb4.size))
    (fun _ _ _ _ _ hs _ _ => hs)
    ⟨⟨?_, ?_, ?_, ?_, ?_, ?_⟩, hb4⟩
    (fun x => { tmps := #[.slice A h.length n, .slice C c.length m, .int .i64 need, .pointer (some ⟨w.heap.size, 0, none⟩), .pointer (some ⟨w.heap.size + 1, 0, none⟩), undef, .int .i64 0, .int .i64 0, .int .i64 0, .pointer (some ⟨w3.heap.size, 0, none⟩), .pointer (some ⟨w3.heap.size + 1, 0, none⟩), .int .i64 x.1, undef, .slice A h.length n, .slice C c.length m, .int .i64 0, .int .i64 0, .bool false, undef, .int .i64 need, .bool true, .bool false, .slice A h.length n, .slice C c.length m, .int .i64 (scoreTo h c 0 h.length), .func (.func 48) #[] #[], .int .i64 x.1, undef, undef, undef, undef, undef, undef, undef, undef, undef, undef, undef, undef, undef], defers := [] }) ?assign ?body ?done ?stop
  case assign =>
    intro l x W K hK
    gi_wp2
    exact hK
  case body =>
    rintro l pre x W ⟨⟨e1, e2, e3, e4, e5, e6⟩, hb5⟩ _
    have hx : -16 ≤ x.1 ∧ x.1 ≤ 16 := x.2
    have hbd := bestF_bd h c pre
    have hs3 := hb3.size
    have hs0 := hb0.size
    have hne : w.heap.size + 1 < w2.heap.size := by have := hb2.size; simp at this; omega
    gi_wp2
    have hag := (callsIn_wide (n := 7)).2 (agreement_any A n h C m c x.1 W (hA.on hb5) (hC.on hb5) hl hm hx.1 hx.2)
    refine (CallsIn.inRound l hag).mono ?_
    rintro e w6 ⟨rfl, hb6⟩
    have f1 := bel_cell hb6 e1; have f3 := bel_cell hb6 e3; have f2 := (hb6.frozen (World.block_lt_of_cell? _ _ e1)).trans e2; have f4 := (hb6.frozen (World.block_lt_of_cell? _ _ e3)).trans e4
    clear hag
    gi_wp2
    · rename_i hgt
      have Hgt : scS h c (bestF h c pre) < scS h c x.1 := hgt
      have hn1 : (⟨w3.heap.size, 0, none⟩ : Addr) ≠ ⟨w3.heap.size + 1, 0, none⟩ := by simp
      have hn2 : (⟨w3.heap.size, 0, none⟩ : Addr) ≠ ⟨w.heap.size, 0, none⟩ := by intro e; injection e with e; omega
      have hn3 : (⟨w3.heap.size, 0, none⟩ : Addr) ≠ ⟨w.heap.size + 1, 0, none⟩ := by intro e; injection e with e; omega
      have hn4 : (⟨w3.heap.size + 1, 0, none⟩ : Addr) ≠ ⟨w.heap.size, 0, none⟩ := by intro e; injection e with e; omega
      have hn5 : (⟨w3.heap.size + 1, 0, none⟩ : Addr) ≠ ⟨w.heap.size + 1, 0, none⟩ := by intro e; injection e with e; omega
      refine ⟨((KeepsFrom.of_grownBy (grown_of_below hb6) (fun _ e => by cases e)).trans ((KeepsOthers.setCell _ _ _).from _)).trans ((KeepsOthers.setCell _ _ _).from _), trivial, ⟨?_, ?_, ?_, ?_, ?_, ?_⟩, ?_⟩
      · rw [bestF_snoc, if_pos Hgt, World.cell?_setCell_other _ _ _ _ hn1.symm]; exact World.cell?_setCell_same' _ _ _ (by rw [f1]; rfl)
      · rw [World.frozen?_setCell, World.frozen?_setCell]; exact f2
      · rw [bestF_snoc, if_pos Hgt]; exact World.cell?_setCell_same' _ _ _ (by rw [World.cell?_setCell_other _ _ _ _ hn1, f3]; rfl)
      · rw [World.frozen?_setCell, World.frozen?_setCell]; exact f4
      · rw [World.cell?_setCell_other _ _ _ _ hn4, World.cell?_setCell_other _ _ _ _ hn2]; exact bel_cell hb6 e5
      · rw [World.cell?_setCell_other _ _ _ _ hn5, World.cell?_setCell_other _ _ _ _ hn3]; exact bel_cell hb6 e6
      · exact ((below_trans hb5 hb6).setCell (by show w.heap.size ≤ w3.heap.size; omega) _).setCell (by show w.heap.size ≤ w3.heap.size + 1; omega) _
    · rename_i hgt
      have Hgt : ¬ scS h c (bestF h c pre) < scS h c x.1 := by show ¬ scS h c (bestF h c pre) < scoreTo h c x.1 h.length; omega
      refine ⟨KeepsFrom.of_grownBy (grown_of_below hb6) (fun _ e => by cases e), trivial, ⟨?_, f2, ?_, f4, bel_cell hb6 e5, bel_cell hb6 e6⟩, below_trans hb5 hb6⟩
      · rw [bestF_snoc, if_neg Hgt]; exact f1
      · rw [bestF_snoc, if_neg Hgt]; exact f3
  case done =>
    rintro D ys W hD rfl ⟨⟨e1, e2, e3, e4, e5, e6⟩, hb5⟩ hK
    have hD' : w.heap.size ≤ D := by have := hb4.size; omega
    gi_wp2
    · refine ⟨by simp, .inl ⟨_, _, rfl, run_takeDeferred hK, ?_⟩⟩
      exact ⟨_, results_tmp2 rfl _ _ _, rfl, hb5.trans (belowK_b (w := w) (Nat.le_refl _) W D _ _ hD' hK rfl rfl)⟩
    · refine ⟨by simp, .inl ⟨_, _, rfl, run_takeDeferred hK, ?_⟩⟩
      exact ⟨_, results_tmp2 rfl _ _ _, rfl, hb5.trans (belowK_b (w := w) (Nat.le_refl _) W D _ _ hD' hK rfl rfl)⟩
  case stop =>
    rintro D c0 pre W _ _ hfa _
    exact hfa.elim
  · simp [go_sem, bestF]
  · simp [go_sem]
  · simp [go_sem, bestF, scS]
  · simp [go_sem]
  · exact bel_cell (below_alloc (below_alloc hb3 _) _) d3
  · exact bel_cell (below_alloc (below_alloc hb3 _) _) d4

/-- What Align returns: a shift and an error. -/
def alignV (h : List Pls) (c : List Clk) (need : Int) : Int × Int :=
  if bothE h c ≠ 0 then (0, bothE h c) else if betwB need 0 4096 = false then (0, 3) else if scS h c (bestF h c (shTo 16)) < need then (0, 17) else (bestF h c (shTo 16), 0)

set_option maxHeartbeats 400000 in
theorem Align_any (A : Option Addr) (n : Nat) (h : List Pls) (C : Option Addr) (m : Nat) (c : List Clk) (need : Int) (w : World) (hA : Arr 5 Pls.enc w w.heap.size A h) (hC : Arr 2 Clk.enc w w.heap.size C c)
    (hl : h.length ≤ 4096) (hm : c.length ≤ 4096) :
    Calls Tryz.prog 6 #[.slice A h.length n, .slice C c.length m, .int .i64 need] w fun e w' => e = .returned (.tuple #[.int .i64 (alignV h c need).1, .int .i64 (alignV h c need).2]) ∧ Below w.heap.size w w' := by
  by_cases hb : bothE h c = 0
  · by_cases hn : betwB need 0 4096 = true
    · refine (callsIn_wide.1 (align_main A n h C m c need w hA hC hl hm hb hn)).mono ?_
      rintro e w' ⟨rfl, hb'⟩
      refine ⟨?_, hb'⟩
      have hv : alignV h c need = (if scS h c (bestF h c (shTo 16)) < need then (0, 17) else (bestF h c (shTo 16), 0)) := by simp [alignV, hb, hn]
      rw [hv]
      split <;> rfl
    · have Hv : Hid (alignV h c need = (0, 3)) := Lib.hid (by unfold alignV; rw [if_neg (by simpa using hb), if_pos (by simpa using hn)])
      have Hb := Lib.hid hb
      have Hn : Hid (betwB need 0 4096 = false) := Lib.hid (by simpa using hn)
      clear hb hn
      go_enter Tryz.func6, Tryz.ntmps6
      go_wp2_with (first
        | (go_at_call 20; refine (checkBoth_any A n h C m c _ (hA.on (below_alloc (below_alloc (Below.refl _ _) _) _)) (hC.on (below_alloc (below_alloc (Below.refl _ _) _) _)) (by omega) (by omega)).mono ?_; rintro e w2 ⟨rfl, hb2⟩; rw [Hb.out])
        | (go_at_call 23; refine (between_any _ _ _ _).mono ?_; rintro e w' ⟨rfl, rfl⟩; rw [Hn.out]))
      go_ret2
      exact ⟨by rw [Hv.out]; rfl, below_trans (below_alloc (below_alloc (Below.refl _ _) _) _) hb2⟩
  · have Hv : Hid (alignV h c need = (0, bothE h c)) := Lib.hid (by unfold alignV; rw [if_pos hb])
    have hb' : (bothE h c != 0) = true := by simpa using hb
    go_enter Tryz.func6, Tryz.ntmps6
    go_wp2_with (go_at_call 20; refine (checkBoth_any A n h C m c _ (hA.on (below_alloc (below_alloc (Below.refl _ _) _) _)) (hC.on (below_alloc (below_alloc (Below.refl _ _) _) _)) (by omega) (by omega)).mono ?_; rintro e w2 ⟨rfl, hb2⟩)
    go_ret2
    exact ⟨by rw [Hv.out]; rfl, below_trans (below_alloc (below_alloc (Below.refl _ _) _) _) hb2⟩

end Go.Proofs.YteoaaphjbggobaaGreatDoor
