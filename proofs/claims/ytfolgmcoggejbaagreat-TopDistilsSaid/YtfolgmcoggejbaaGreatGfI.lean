/- Contract of algebra's words: the iterator of a string's words hands each word to yield. For the widths 8, 16 and 32; for strings of at most 100000 bits. -/
import Derived.Test.YtfolgmcoggejbaaGreatGfH
import Derived.RangeFuncBox
import Derived.RangeFuncCalls
import Derived.RangeFuncLeaves
import Derived.Shelf.Abstract
import Derived.OwnWalkIn
import Derived.TacticsInMore
import Derived.LoopNIn
import Derived.LoopIn
import Derived.Stop.RegionWithIn
import Derived.IntWalk
namespace Go.Proofs.YtfolgmcoggejbaaGreat
open Go.RowKit Go.Shelf
set_option linter.unusedVariables false
set_option linter.unusedSimpArgs false
attribute [local go_sem] Oper.semAt_some

theorem words_any (w : Int) (A : Option Addr) (n c : Nat) (v : World) : Calls Tryz.prog 111 #[.int .i64 w, .slice A n c] v fun e v' =>
    e = .returned (.func (.func 161) #[] #[.pointer (some ⟨v.heap.size + 1, 0, none⟩), .pointer (some ⟨v.heap.size, 0, none⟩)]) ∧ v' = (v.alloc (.cells #[.int .i64 w] 3)).alloc (.cells #[.slice A n c] 22) := by
  go_enter Tryz.func111, Tryz.ntmps111
  go_wp2
  go_ret
  simp

set_option maxRecDepth 100000 in
set_option maxHeartbeats 2000000 in
theorem words1_in (l w : Nat) (A : Option Addr) (c : Nat) (m : List Bool) (mb wb : Nat) (v0 W : World) (J : List Nat → World → Prop) (hw : Wd w)
    (hY : ∀ (pre : List Nat) (x : Nat) (W : World), J pre W → x < 2 ^ w → YieldAt Fence.wide 8 Tryz.prog l #[.int .u64 (x : Int)] W fun e W' =>
      e = .returned (.bool true) ∧ J (pre ++ [x]) W' ∧ W'.cell? ⟨mb, 0, none⟩ = W.cell? ⟨mb, 0, none⟩ ∧ W'.frozen? ⟨mb, 0, none⟩ = W.frozen? ⟨mb, 0, none⟩)
    (hS : ∀ pre W x, J pre W → J pre (W.setCell ⟨mb, 0, none⟩ x)) (hD : ∀ pre W, J pre W → J pre W.drew)
    (hB : ∀ pre W, J pre W → Below v0.heap.size v0 W ∧ W.cell? ⟨wb, 0, none⟩ = some (.int .i64 w))
    (h : Arr 1 encB v0 v0.heap.size A m) (hl : m.length ≤ 100000) (hc : m.length ≤ c) (hmc : c ≤ maxLen)
    (h0 : J [] W) (hm : W.cell? ⟨mb, 0, none⟩ = some (.slice A m.length c)) (hf : W.frozen? ⟨mb, 0, none⟩ = false) :
    CallsIn Fence.wide 9 Tryz.prog 161 #[.func (.yield l) #[] #[], .pointer (some ⟨mb, 0, none⟩), .pointer (some ⟨wb, 0, none⟩)] W fun e W' => (∃ v, e = .returned v) ∧ J (wordsL w m) W' := by
  have w0 : 0 < w ∧ w ≤ 32 := by rcases hw with h | h | h <;> omega
  obtain ⟨w0, w32⟩ := w0
  have Hlt := Lib.hid (wordsL_lt w0 m)
  unfold maxLen at hmc
  have hF : ∀ f, Fence.wide.fn f := fun _ => trivial
  refine callsIn_of_wp Tryz.func161 rfl trivial ?_ rfl
  simp only [Tryz.ntmps161, List.size_toArray, List.length_cons, List.length_nil, Nat.reduceAdd, Nat.reduceSub, Array.replicate_succ, Array.replicate_zero, List.push_toArray, List.append_toArray, List.nil_append, List.cons_append]
  obtain ⟨fn, tmps, assign, body, hy, hR⟩ := hY [] 1 W h0 (Nat.one_lt_two_pow (by omega))
  change (Instr.yield l #[Value.int .u64 1]).run Tryz.prog W = _ at hy
  have HY := Lib.hid hY
  have HS := Lib.hid hS
  have HD := Lib.hid hD
  have HB := Lib.hid hB
  clear hY hS hD hB
  gi_wp2
  refine hR.mono ?_
  rintro e W1 ⟨rfl, hJ1, hm1, hf1⟩
  rw [hm] at hm1
  rw [hf] at hf1
  clear hR hy hm hf
  gi_wp2
  gi_loopw [] (fun wr => ∃ (D : List Nat) (r : List Bool) (A' : Option Addr) (c' : Nat), J D wr ∧ Hid (D ++ tailW w r = wordsL w m) ∧ Arr 1 encB v0 v0.heap.size A' r ∧ wr.cell? ⟨mb, 0, none⟩ = some (.slice A' r.length c') ∧ wr.frozen? ⟨mb, 0, none⟩ = false ∧ r.length ≤ c' ∧ c' ≤ c ∧ r.length ≤ m.length) (fun wr => lenOf ((wr.cell? ⟨mb, 0, none⟩).getD (.int .i64 0)))
  case atStart => exact ⟨[1], m, A, c, hJ1, Lib.hid rfl, h, hm1, hf1, hc, Nat.le_refl _, Nat.le_refl _⟩
  case round =>
    clear hm1 hf1
    obtain ⟨D, r, A', c', hJ, hinv, ar, hm, hf, hrc, hcc, hrl⟩ := hrel
    obtain ⟨hb, hwb⟩ := HB.out D wr hJ
    rcases Nat.lt_or_ge r.length w with hlt | hge
    · have hbv := bval_lt r
      have hX : Hid (tailW w r = [(2 * bval r + 1) * 2 ^ (w - 1 - r.length)]) := Lib.hid (tailW_last hlt)
      have hxl : (2 * bval r + 1) * 2 ^ (w - 1 - r.length) < 2 ^ w := tailW_lt w0 _ r (Nat.le_refl _) _ (by rw [hX.out]; simp)
      have bl2 : bval r < 4294967296 := Nat.lt_of_lt_of_le hbv (Nat.pow_le_pow_right (by decide : 0 < 2) (show r.length ≤ 32 by omega))
      have o1 := or_one (n := bval r) (by omega)
      obtain ⟨s1, _⟩ := shl_fit (a := 2 * bval r + 1) (k := w - 1 - r.length) (by omega) (by omega)
      obtain ⟨q, hq⟩ : ∃ q, q = w - 1 - r.length := ⟨_, rfl⟩
      have e1 : (w : Int) - 1 - (r.length : Int) = (q : Int) := by omega
      have e2 : IntKind.i64.wrap ((w : Int) - 1) = (w : Int) - 1 := IntWalk.i64_in _ (by omega)
      have e3 : IntKind.i64.wrap (q : Int) = (q : Int) := IntWalk.i64_in _ (by omega)
      have e4 : IntKind.u64.wrap ((bval r : Int) * 2) = (bval r : Int) * 2 := IntWalk.u64_in _ (by omega)
      rw [← hq] at s1 hxl hX
      rw [Nat.shiftLeft_eq] at s1
      obtain ⟨N, hN⟩ : ∃ N, bval r = N := ⟨_, rfl⟩
      have cN := number_any A' c' r wr.drew ((ar.on hb).on (Below.refl _ _).drew) (by omega)
      rw [hN] at cN s1 hxl hX o1 bl2 e4
      obtain ⟨X, hXe⟩ : ∃ X, (2 * N + 1) * 2 ^ q = X := ⟨_, rfl⟩
      rw [hXe] at s1 hxl hX
      rw [show ((2 * N + 1 : Nat) : Int) = 2 * (N : Int) + 1 from by omega] at s1
      obtain ⟨fn2, tmps2, assign2, body2, hy2, hR2⟩ := HY.out D X wr.drew (HD.out _ _ hJ) hxl
      have Hq := Lib.hid hq
      have n0 : (0 : Int) ≤ (q : Int) := by omega
      clear hXe hxl hN hbv hq
      gi_wp2
      gi_region_with (first | (gi_at_call 162; refine (callsIn_wide.2 cN).mono ?_; rintro e w' ⟨rfl, rfl⟩) | (refine hR2.mono ?_; rintro e W2 ⟨rfl, hJ2, hm2, hf2⟩))
      all_goals (
        try gi_wp2
        go_end0
        exact ⟨⟨_, rfl⟩, by rw [← hinv.out, hX.out]; exact hJ2⟩)
    · have hX : Hid (tailW w r = bval (r.take w) :: tailW w (r.drop w)) := Lib.hid (tailW_more w0 hge)
      have hxl : bval (r.take w) < 2 ^ w := tailW_lt w0 _ r (Nat.le_refl _) _ (by rw [hX.out]; simp)
      have hlw : (r.take w).length = w := by rw [List.length_take]; omega
      have cN := number_any A' c' (r.take w) wr (arr_take (ar.on hb) w) (by omega)
      rw [hlw] at cN
      obtain ⟨X, hXe⟩ : ∃ X, bval (r.take w) = X := ⟨_, rfl⟩
      rw [hXe] at cN hxl hX
      obtain ⟨fn2, tmps2, assign2, body2, hy2, hR2⟩ := HY.out D X wr hJ hxl
      have i1 : (w : Int) ≤ (c' : Int) := by omega
      have hld : Hid ((r.drop w).length = r.length - w) := Lib.hid List.length_drop
      obtain ⟨b, off, x0, hA', hbb, _, _⟩ := ar.bool (k := 0) (by omega) (Below.refl _ _)
      subst hA'
      have ard := ar.drop w
      clear hXe hxl hlw
      have arm : Hid (∀ W2, J (D ++ [X]) W2 → W2.cell? ⟨wb, 0, none⟩ = some (.int .i64 w)) := Lib.hid (fun W2 h => (HB.out _ W2 h).2)
      by_cases hcw : c' = w
      · subst hcw
        have hrw : r.length = c' := by omega
        have dnil : Hid (r.drop c' = []) := Lib.hid (List.drop_of_length_le (by omega))
        rw [hrw] at hm
        clear hcc
        gi_wp2_with (first | (gi_at_call 162; refine (callsIn_wide.2 cN).mono ?_; rintro e w' ⟨rfl, rfl⟩) | (refine hR2.mono ?_; rintro e W2 ⟨rfl, hJ2, hm2, hf2⟩; rw [hm] at hm2; rw [hf] at hf2; have hwb2 := arm.out W2 hJ2))
        go_roundw
        case rel => exact ⟨D ++ [X], r.drop c', some ⟨b, off, none⟩, 0, HS.out _ _ _ hJ2, Lib.hid (by rw [List.append_assoc, ← hinv.out, hX.out]; rfl), by rw [dnil.out]; exact Arr.nil, by rw [dnil.out]; exact World.cell?_setCell_same' _ _ _ (by rw [hm2]; rfl), by rw [World.frozen?_setCell]; exact hf2, by rw [dnil.out]; exact Nat.zero_le _, Nat.zero_le _, by rw [dnil.out]; exact Nat.zero_le _⟩
        case measure => rw [World.cell?_setCell_same' _ _ _ (by rw [hm2]; rfl), hm]; simp only [Option.getD_some, lenOf]; omega
      · gi_wp2_with (first | (gi_at_call 162; refine (callsIn_wide.2 cN).mono ?_; rintro e w' ⟨rfl, rfl⟩) | (refine hR2.mono ?_; rintro e W2 ⟨rfl, hJ2, hm2, hf2⟩; rw [hm] at hm2; rw [hf] at hf2; have hwb2 := arm.out W2 hJ2))
        go_roundw
        case rel => exact ⟨D ++ [X], r.drop w, some ⟨b, off + w, none⟩, c' - w, HS.out _ _ _ hJ2, Lib.hid (by rw [List.append_assoc, ← hinv.out, hX.out]; rfl), by rw [Nat.mul_one] at ard; exact ard, by rw [hld.out]; exact World.cell?_setCell_same' _ _ _ (by rw [hm2]; rfl), by rw [World.frozen?_setCell]; exact hf2, by rw [hld.out]; omega, by omega, by rw [hld.out]; omega⟩
        case measure => rw [World.cell?_setCell_same' _ _ _ (by rw [hm2]; rfl), hm]; simp only [Option.getD_some, lenOf]; omega

end Go.Proofs.YtfolgmcoggejbaaGreat
