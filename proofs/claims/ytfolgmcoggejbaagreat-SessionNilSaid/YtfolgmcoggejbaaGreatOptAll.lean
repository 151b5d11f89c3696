/- Contracts of optics' part and weights, of the reference's part and row; equality of rows of numbers. For at most 1000 numbers. Contracts of optics.Check and of the reference's Check. For any arrangement. Contract of the reference's Check. For any arrangement. Contracts of sift.Suits and of the reference's Suits. For any arrangement. Contracts of sift.checkGains and of the reference's gains. For any arrangement and gains. Contract of the reference's gains. For any arrangement and gains. -/
import Derived.Test.YtfolgmcoggejbaaGreatNumAll
import Derived.Laws.StructEq
import Derived.Test.YtfolgmcoggejbaaGreatNtxAll
import Derived.Deep.DeepCutAuto
import Derived.Deep.CutBlock
import Derived.Laws.Rows
namespace Go.Proofs.YtfolgmcoggejbaaGreat
open Go.RowKit
set_option linter.unusedVariables false
set_option linter.unusedSimpArgs false

theorem eqArr_d (P : Program) (d n : Nat) (t e : TypeId) (xs ys : Array Value) (w : World) (ht : P.underlying t = some (.array n e)) : (Op.equalIn (d + 1) t (.agg xs) (.agg ys)).run P w = ((do
      let z ← sizeOf e
      for i in [0:n] do
        if !(← Op.equalIn d e (← part e xs (i * z)) (← part e ys (i * z))) then return false
      pure true : Sem Bool)).run P w := by
  simp only [Op.equalIn, Sem.run_bind, run_underlying ht, Result.andThen_ok]
@[go_sem] theorem eqArr4 (a b c d a' b' c' d' : Int) (w : World) : (Op.equalIn 10000 64 (.agg #[.int .i64 a, .int .i64 b, .int .i64 c, .int .i64 d]) (.agg #[.int .i64 a', .int .i64 b', .int .i64 c', .int .i64 d'])).run Tryz.prog w = .ok (a == a' && (b == b' && (c == c' && d == d'))) w := by
  have u3 := Tryz.underlying3
  have u4 := Tryz.underlying64
  have z3 := Tryz.sizeOf3
  have g3 := Tryz.isAgg3
  rw [show (10000 : Nat) = 9999 + 1 from rfl, eqArr_d Tryz.prog 9999 4 64 3 _ _ w u4]
  have e : ∀ (x y : Int) (w : World), (Op.equalIn 9999 3 (.int .i64 x) (.int .i64 y)).run Tryz.prog w = .ok (x == y) w := fun x y w => run_equalIn_int w 9998 3 .i64 _ x y u3
  simp [List.range', Sem.run_bind, z3, part, g3, Sem.run_ite, Sem.run_pure, e]
  cases h1 : a == a' <;> cases h2 : b == b' <;> cases h3 : c == c' <;> cases h4 : d == d' <;> simp_all
@[go_sem] theorem eqArr3 (a b c a' b' c' : Int) (w : World) : (Op.equalIn 10000 63 (.agg #[.int .i64 a, .int .i64 b, .int .i64 c]) (.agg #[.int .i64 a', .int .i64 b', .int .i64 c'])).run Tryz.prog w = .ok (a == a' && (b == b' && c == c')) w := by
  have u3 := Tryz.underlying3
  have u4 := Tryz.underlying63
  have z3 := Tryz.sizeOf3
  have g3 := Tryz.isAgg3
  rw [show (10000 : Nat) = 9999 + 1 from rfl, eqArr_d Tryz.prog 9999 3 63 3 _ _ w u4]
  have e : ∀ (x y : Int) (w : World), (Op.equalIn 9999 3 (.int .i64 x) (.int .i64 y)).run Tryz.prog w = .ok (x == y) w := fun x y w => run_equalIn_int w 9998 3 .i64 _ x y u3
  simp [List.range', Sem.run_bind, z3, part, g3, Sem.run_ite, Sem.run_pure, e]
  cases h1 : a == a' <;> cases h2 : b == b' <;> cases h3 : c == c' <;> simp_all

def partB (x : Int) : Bool := decide (0 ≤ x ∧ x ≤ 256)
/-- Parts of 256 with the sum 256. -/
def wtB (l : List Int) : Bool := l.all partB && decide (l.sum = 256)
set_option maxHeartbeats 400000 in
theorem oPart_any (x : Int) (w : World) : Calls Tryz.prog 234 #[.int .i64 x] w fun e w' => e = .returned (.bool (partB x)) ∧ w = w' := by
  go_enter Tryz.func234, Tryz.ntmps234
  go_wp2
  all_goals (go_ret; exact ⟨ret_bool (by unfold partB; rw [Bool.eq_iff_iff]; simp; try omega), rfl⟩)
set_option maxHeartbeats 1000000 in
theorem weights_any (A : Option Addr) (c n : Nat) (l : List Int) (w : World) (hA : Arr 1 encI w w.heap.size A l) (hl : l.length = n) (hn : n ≤ 1000) :
    Calls Tryz.prog 233 #[.slice A n c] w fun e w' => e = .returned (.bool (wtB l)) ∧ w = w' := by
  have HL := Lib.hid hl
  go_enter Tryz.func233, Tryz.ntmps233
  go_wp2_with fail
  go_loop [3, 8] (fun s i => ∃ (k : Nat) (S : Int), k ≤ n ∧ i = .int .i64 k ∧ s = .int .i64 S ∧ 0 ≤ S ∧ S ≤ 256 * k ∧ Hid (S = (l.take k).sum ∧ (l.take k).all partB = true)) (fun s i => n - (intOf i).toNat)
  case atStart => exact ⟨0, 0, Nat.zero_le _, rfl, rfl, by omega, by omega, Lib.hid ⟨by simp, by simp⟩⟩
  case round =>
    obtain ⟨k, S, hk, rfl, rfl, S0, S1, hS⟩ := hrel
    by_cases hlt : k < n
    · obtain ⟨b1, off, x, rfl, hbb, hq, c0⟩ := hA.int (k := k) (by omega) (Below.refl _ _)
      by_cases hp : partB x = true
      · have hp2 : 0 ≤ x ∧ x ≤ 256 := of_decide_eq_true hp
        have Hp := Lib.hid hp
        clear hp
        have hS2 : Hid (S + x = (l.take (k + 1)).sum ∧ (l.take (k + 1)).all partB = true) := Lib.hid (by
          rw [take_snoc hq.out]
          exact ⟨by rw [List.sum_append, ← hS.out.1]; simp, by rw [List.all_append, hS.out.2]; simp [Hp.out]⟩)
        have cP := oPart_any x w
        rw [Hp.out] at cP
        go_wp2_with (go_at_call 234; refine (cP).mono ?_; rintro e w' ⟨rfl, rfl⟩)
        go_round
        case rel => exact ⟨k + 1, S + x, by omega, by go_num, rfl, by omega, by omega, hS2⟩
        case measure => simp [intOf]; omega
      · have hp2 : partB x = false := by simpa using hp
        have hW : Hid (wtB l = false) := Lib.hid (by
          unfold wtB
          rw [List.all_eq_false.2 ⟨x, List.mem_of_getElem? hq.out, by rw [hp2]; decide⟩]
          rfl)
        have cP := oPart_any x w
        rw [hp2] at cP
        clear hp hp2
        go_wp2_with (go_at_call 234; refine (cP).mono ?_; rintro e w' ⟨rfl, rfl⟩)
        go_ret
        exact ⟨ret_bool hW.out.symm, rfl⟩
    · obtain rfl : k = n := by omega
      have hW : Hid (wtB l = decide (S = 256)) := Lib.hid (by
        have h1 := hS.out
        rw [← HL.out, List.take_length] at h1
        unfold wtB
        rw [h1.2, ← h1.1]; rfl)
      go_wp2_with fail
      go_ret
      exact ⟨ret_bool (by rw [hW.out, Bool.eq_iff_iff]; simp), rfl⟩

end Go.Proofs.YtfolgmcoggejbaaGreat

namespace Go.Proofs.YtfolgmcoggejbaaGreat
open Go.RowKit
set_option linter.unusedVariables false
set_option linter.unusedSimpArgs false

/-- An arrangement. -/
structure Opt where
  k : Int
  c0 : Int
  c1 : Int
  c2 : Int
  v0 : Int
  v1 : Int
  v2 : Int
  v3 : Int
  w0 : Int
  w1 : Int
  w2 : Int
  w3 : Int
  s0 : Int
  s1 : Int
  s2 : Int
  s3 : Int
  eta : Int
  dark : Int
def Opt.cs (o : Opt) : Array Value := #[.int .i64 o.k, .int .i64 o.c0, .int .i64 o.c1, .int .i64 o.c2, .int .i64 o.v0, .int .i64 o.v1, .int .i64 o.v2, .int .i64 o.v3, .int .i64 o.w0, .int .i64 o.w1, .int .i64 o.w2, .int .i64 o.w3, .int .i64 o.s0, .int .i64 o.s1, .int .i64 o.s2, .int .i64 o.s3, .int .i64 o.eta, .int .i64 o.dark]
def Opt.val (o : Opt) : Value := .agg o.cs
def rowO (o : Opt) : Nat → List Int
  | 0 => [o.v0, o.v1, o.v2, o.v3]
  | 1 => [o.w0, o.w1, o.w2, o.w3]
  | _ => [o.s0, o.s1, o.s2, o.s3]
def headB (o : Opt) : Bool := decide (0 ≤ o.k ∧ o.k ≤ 2) && (wtB [o.c0, o.c1, o.c2] && (partB o.eta && partB o.dark))
def okTo (o : Opt) : Nat → Bool
  | 0 => headB o
  | k + 1 => okTo o k && wtB (rowO o k)
def dullB (a b c d : Int) : Bool := a == 256 && (b == 0 && (c == 0 && d == 0))
def optB (o : Opt) : Bool := okTo o 3 && (dullB o.v0 o.v1 o.v2 o.v3 && (decide (o.k = 1) || (o.c0 == 0 && (o.c1 == 0 && o.c2 == 256) && dullB o.w0 o.w1 o.w2 o.w3)))
def optE (o : Opt) : Int := if optB o = true then 0 else 2

@[go_sem] theorem idxA0 (a0 a1 a2 a3 a4 a5 a6 a7 a8 a9 a10 a11 : Value) (w : World) : (Instr.index 65 (.agg #[a0, a1, a2, a3, a4, a5, a6, a7, a8, a9, a10, a11]) (.int .i64 0)).run Tryz.prog w = .ok (.agg #[a0, a1, a2, a3]) w := by kernel_rfl
@[go_sem] theorem idxA1 (a0 a1 a2 a3 a4 a5 a6 a7 a8 a9 a10 a11 : Value) (w : World) : (Instr.index 65 (.agg #[a0, a1, a2, a3, a4, a5, a6, a7, a8, a9, a10, a11]) (.int .i64 1)).run Tryz.prog w = .ok (.agg #[a4, a5, a6, a7]) w := by kernel_rfl
@[go_sem] theorem idxA2 (a0 a1 a2 a3 a4 a5 a6 a7 a8 a9 a10 a11 : Value) (w : World) : (Instr.index 65 (.agg #[a0, a1, a2, a3, a4, a5, a6, a7, a8, a9, a10, a11]) (.int .i64 2)).run Tryz.prog w = .ok (.agg #[a8, a9, a10, a11]) w := by kernel_rfl
theorem box3 {w : World} {b off : Nat} {x y z : Int} (h0 : w.cell? ⟨b, off, none⟩ = some (.int .i64 x)) (h1 : w.cell? ⟨b, off + 1, none⟩ = some (.int .i64 y)) (h2 : w.cell? ⟨b, off + 2, none⟩ = some (.int .i64 z)) : Arr 1 encI w w.heap.size (some ⟨b, off, none⟩) [x, y, z] := fun _ =>
  ⟨b, off, rfl, World.block_lt_of_cell? w _ h0, fun i u hu j v hv => by
    obtain rfl : j = 0 := by
      have := (List.getElem?_eq_some_iff.1 hv).1
      simp [encI] at this
      exact this
    match i, hu with
    | 0, hu => obtain rfl : x = u := by simpa using hu
               obtain rfl : Value.int .i64 x = v := by simpa [encI] using hv
               exact h0
    | 1, hu => obtain rfl : y = u := by simpa using hu
               obtain rfl : Value.int .i64 y = v := by simpa [encI] using hv
               exact h1
    | 2, hu => obtain rfl : z = u := by simpa using hu
               obtain rfl : Value.int .i64 z = v := by simpa [encI] using hv
               exact h2
    | n + 3, hu => simp at hu⟩
theorem box4 {w : World} {b off : Nat} {x y z t : Int} (h0 : w.cell? ⟨b, off, none⟩ = some (.int .i64 x)) (h1 : w.cell? ⟨b, off + 1, none⟩ = some (.int .i64 y)) (h2 : w.cell? ⟨b, off + 2, none⟩ = some (.int .i64 z)) (h3 : w.cell? ⟨b, off + 3, none⟩ = some (.int .i64 t)) : Arr 1 encI w w.heap.size (some ⟨b, off, none⟩) [x, y, z, t] := fun _ =>
  ⟨b, off, rfl, World.block_lt_of_cell? w _ h0, fun i u hu j v hv => by
    obtain rfl : j = 0 := by
      have := (List.getElem?_eq_some_iff.1 hv).1
      simp [encI] at this
      exact this
    match i, hu with
    | 0, hu => obtain rfl : x = u := by simpa using hu
               obtain rfl : Value.int .i64 x = v := by simpa [encI] using hv
               exact h0
    | 1, hu => obtain rfl : y = u := by simpa using hu
               obtain rfl : Value.int .i64 y = v := by simpa [encI] using hv
               exact h1
    | 2, hu => obtain rfl : z = u := by simpa using hu
               obtain rfl : Value.int .i64 z = v := by simpa [encI] using hv
               exact h2
    | 3, hu => obtain rfl : t = u := by simpa using hu
               obtain rfl : Value.int .i64 t = v := by simpa [encI] using hv
               exact h3
    | n + 4, hu => simp at hu⟩

set_option maxRecDepth 100000 in
set_option maxHeartbeats 8000000 in
theorem oCheck_any (o : Opt) (w : World) : Calls Tryz.prog 192 #[o.val] w fun e w' => e = .returned (.int .i64 (optE o)) ∧ Below w.heap.size w w' := by
  have hb0 := below_alloc (below_alloc (Below.refl w.heap.size w) (.cells o.cs 67)) (.cells #[.int .i64 256, .int .i64 0, .int .i64 0, .int .i64 0] 64)
  unfold Opt.val Opt.cs at *
  go_enter Tryz.func192, Tryz.ntmps192
  go_upto_region 2 with fail
  obtain ⟨W, hW⟩ : ∃ W, (w.alloc (.cells #[.int .i64 o.k, .int .i64 o.c0, .int .i64 o.c1, .int .i64 o.c2, .int .i64 o.v0, .int .i64 o.v1, .int .i64 o.v2, .int .i64 o.v3, .int .i64 o.w0, .int .i64 o.w1, .int .i64 o.w2, .int .i64 o.w3, .int .i64 o.s0, .int .i64 o.s1, .int .i64 o.s2, .int .i64 o.s3, .int .i64 o.eta, .int .i64 o.dark] 67)).alloc (.cells #[.int .i64 256, .int .i64 0, .int .i64 0, .int .i64 0] 64) = W := ⟨_, rfl⟩
  have x0 : W.cell? ⟨w.heap.size, 0, none⟩ = some (.int .i64 o.k) := by subst hW; go_simp
  have x1 : W.cell? ⟨w.heap.size, 1, none⟩ = some (.int .i64 o.c0) := by subst hW; go_simp
  have x2 : W.cell? ⟨w.heap.size, 2, none⟩ = some (.int .i64 o.c1) := by subst hW; go_simp
  have x3 : W.cell? ⟨w.heap.size, 3, none⟩ = some (.int .i64 o.c2) := by subst hW; go_simp
  have x4 : W.cell? ⟨w.heap.size, 4, none⟩ = some (.int .i64 o.v0) := by subst hW; go_simp
  have x5 : W.cell? ⟨w.heap.size, 5, none⟩ = some (.int .i64 o.v1) := by subst hW; go_simp
  have x6 : W.cell? ⟨w.heap.size, 6, none⟩ = some (.int .i64 o.v2) := by subst hW; go_simp
  have x7 : W.cell? ⟨w.heap.size, 7, none⟩ = some (.int .i64 o.v3) := by subst hW; go_simp
  have x8 : W.cell? ⟨w.heap.size, 8, none⟩ = some (.int .i64 o.w0) := by subst hW; go_simp
  have x9 : W.cell? ⟨w.heap.size, 9, none⟩ = some (.int .i64 o.w1) := by subst hW; go_simp
  have x10 : W.cell? ⟨w.heap.size, 10, none⟩ = some (.int .i64 o.w2) := by subst hW; go_simp
  have x11 : W.cell? ⟨w.heap.size, 11, none⟩ = some (.int .i64 o.w3) := by subst hW; go_simp
  have x12 : W.cell? ⟨w.heap.size, 12, none⟩ = some (.int .i64 o.s0) := by subst hW; go_simp
  have x13 : W.cell? ⟨w.heap.size, 13, none⟩ = some (.int .i64 o.s1) := by subst hW; go_simp
  have x14 : W.cell? ⟨w.heap.size, 14, none⟩ = some (.int .i64 o.s2) := by subst hW; go_simp
  have x15 : W.cell? ⟨w.heap.size, 15, none⟩ = some (.int .i64 o.s3) := by subst hW; go_simp
  have x16 : W.cell? ⟨w.heap.size, 16, none⟩ = some (.int .i64 o.eta) := by subst hW; go_simp
  have x17 : W.cell? ⟨w.heap.size, 17, none⟩ = some (.int .i64 o.dark) := by subst hW; go_simp
  have y0 : W.cell? ⟨w.heap.size + 1, 0, none⟩ = some (.int .i64 256) := by subst hW; go_simp
  have y1 : W.cell? ⟨w.heap.size + 1, 1, none⟩ = some (.int .i64 0) := by subst hW; go_simp
  have y2 : W.cell? ⟨w.heap.size + 1, 2, none⟩ = some (.int .i64 0) := by subst hW; go_simp
  have y3 : W.cell? ⟨w.heap.size + 1, 3, none⟩ = some (.int .i64 0) := by subst hW; go_simp
  rw [hW] at hb0 ⊢
  clear hW
  have aC := box3 x1 x2 x3
  have cW := weights_any (some ⟨w.heap.size, 1, none⟩) 3 3 _ W aC rfl (by decide)
  have cE := oPart_any o.eta W
  have cD := oPart_any o.dark W
  have hh : headB o = (decide (0 ≤ o.k ∧ o.k ≤ 2) && (wtB [o.c0, o.c1, o.c2] && (partB o.eta && partB o.dark))) := rfl
  generalize wtB [o.c0, o.c1, o.c2] = h2 at *
  generalize partB o.eta = h3 at *
  generalize partB o.dark = h4 at *
  have Hh := Lib.hid hh
  clear hh
  go_cut [4] (fun v wx => v = .bool (headB o) ∧ wx = W)
  case first =>
    have go1 : ∀ (b : Bool), b = (decide (0 ≤ o.k ∧ o.k ≤ 2) && (h2 && (h3 && h4))) → headB o = b := fun b hb => by rw [Hh.out, hb]
    have Go1 := Lib.hid go1
    clear go1
    by_cases k0 : 0 ≤ o.k
    · by_cases k2 : o.k ≤ 2
      · have kk : decide (0 ≤ o.k ∧ o.k ≤ 2) = true := decide_eq_true ⟨k0, k2⟩
        have Kk := Lib.hid kk
        clear kk
        cases h2 <;> cases h3 <;> cases h4
        all_goals (
          go_wp2_with (first
            | (go_at_call 233; refine (cW).mono ?_; rintro e w' ⟨rfl, rfl⟩)
            | (go_at_call 234; refine Calls.on (args' := #[.int .i64 o.eta]) rfl ?_; refine cE.mono ?_; rintro e w' ⟨rfl, rfl⟩)
            | (go_at_call 234; refine Calls.on (args' := #[.int .i64 o.dark]) rfl ?_; refine cD.mono ?_; rintro e w' ⟨rfl, rfl⟩))
          go_meet
          case rel => exact ⟨congrArg Value.bool (Go1.out _ (by rw [Kk.out]; rfl)).symm, rfl⟩)
      · have kk : decide (0 ≤ o.k ∧ o.k ≤ 2) = false := decide_eq_false (by omega)
        have Kk := Lib.hid kk
        clear kk
        go_wp2_with fail
        go_meet
        case rel => exact ⟨congrArg Value.bool (Go1.out _ (by rw [Kk.out]; rfl)).symm, rfl⟩
    · have kk : decide (0 ≤ o.k ∧ o.k ≤ 2) = false := decide_eq_false (by omega)
      have Kk := Lib.hid kk
      clear kk
      go_wp2_with fail
      go_meet
      case rel => exact ⟨congrArg Value.bool (Go1.out _ (by rw [Kk.out]; rfl)).symm, rfl⟩
  obtain ⟨rfl, rfl⟩ := hcut
  go_wp2_with fail
  go_loopw [4, 33] (fun bv iv wr => ∃ (k : Nat) (b : Bool), k ≤ 3 ∧ iv = .int .i64 k ∧ bv = .bool b ∧ Hid (b = okTo o k) ∧ Below wc.heap.size wc wr) (fun _ iv _ => 3 - (intOf iv).toNat)
  case atStart => exact ⟨0, headB o, by omega, rfl, rfl, Lib.hid rfl, Below.refl _ _⟩
  case round =>
    obtain ⟨k, b, hk, rfl, rfl, hB, hbr⟩ := hrel
    obtain ⟨w6, rfl⟩ : ∃ w6, w6 = wr := ⟨_, rfl⟩
    rcases (show k = 0 ∨ k = 1 ∨ k = 2 ∨ k = 3 by omega) with rfl | rfl | rfl | rfl
    · have cB := weights_any (some ⟨w6.heap.size, 0, none⟩) 4 4 [o.v0, o.v1, o.v2, o.v3] (w6.alloc (.cells #[.int .i64 o.v0, .int .i64 o.v1, .int .i64 o.v2, .int .i64 o.v3] 64)) (box4 (by go_simp) (by go_simp) (by go_simp) (by go_simp)) rfl (by decide)
      have nx : Hid (okTo o (0 + 1) = (b && wtB [o.v0, o.v1, o.v2, o.v3])) := Lib.hid (by rw [hB.out]; rfl)
      generalize wtB [o.v0, o.v1, o.v2, o.v3] = r at *
      have hbn := below_alloc hbr (.cells #[.int .i64 o.v0, .int .i64 o.v1, .int .i64 o.v2, .int .i64 o.v3] 64)
      simp only [show ((0 : Nat) : Int) = 0 from rfl]
      cases b
      · go_wp2_with fail
        exact ⟨⟨0 + 1, false, by omega, rfl, rfl, Lib.hid (by rw [nx.out]; rfl), hbn⟩, by simp [intOf]⟩
      · go_wp2_with (go_at_call 233; refine (cB).mono ?_; rintro e w' ⟨rfl, rfl⟩)
        exact ⟨⟨0 + 1, r, by omega, rfl, rfl, Lib.hid (by rw [nx.out]; rfl), hbn⟩, by simp [intOf]⟩
    · have cB := weights_any (some ⟨w6.heap.size, 0, none⟩) 4 4 [o.w0, o.w1, o.w2, o.w3] (w6.alloc (.cells #[.int .i64 o.w0, .int .i64 o.w1, .int .i64 o.w2, .int .i64 o.w3] 64)) (box4 (by go_simp) (by go_simp) (by go_simp) (by go_simp)) rfl (by decide)
      have nx : Hid (okTo o (1 + 1) = (b && wtB [o.w0, o.w1, o.w2, o.w3])) := Lib.hid (by rw [hB.out]; rfl)
      generalize wtB [o.w0, o.w1, o.w2, o.w3] = r at *
      have hbn := below_alloc hbr (.cells #[.int .i64 o.w0, .int .i64 o.w1, .int .i64 o.w2, .int .i64 o.w3] 64)
      simp only [show ((1 : Nat) : Int) = 1 from rfl]
      cases b
      · go_wp2_with fail
        exact ⟨⟨1 + 1, false, by omega, rfl, rfl, Lib.hid (by rw [nx.out]; rfl), hbn⟩, by simp [intOf]⟩
      · go_wp2_with (go_at_call 233; refine (cB).mono ?_; rintro e w' ⟨rfl, rfl⟩)
        exact ⟨⟨1 + 1, r, by omega, rfl, rfl, Lib.hid (by rw [nx.out]; rfl), hbn⟩, by simp [intOf]⟩
    · have cB := weights_any (some ⟨w6.heap.size, 0, none⟩) 4 4 [o.s0, o.s1, o.s2, o.s3] (w6.alloc (.cells #[.int .i64 o.s0, .int .i64 o.s1, .int .i64 o.s2, .int .i64 o.s3] 64)) (box4 (by go_simp) (by go_simp) (by go_simp) (by go_simp)) rfl (by decide)
      have nx : Hid (okTo o (2 + 1) = (b && wtB [o.s0, o.s1, o.s2, o.s3])) := Lib.hid (by rw [hB.out]; rfl)
      generalize wtB [o.s0, o.s1, o.s2, o.s3] = r at *
      have hbn := below_alloc hbr (.cells #[.int .i64 o.s0, .int .i64 o.s1, .int .i64 o.s2, .int .i64 o.s3] 64)
      simp only [show ((2 : Nat) : Int) = 2 from rfl]
      cases b
      · go_wp2_with fail
        exact ⟨⟨2 + 1, false, by omega, rfl, rfl, Lib.hid (by rw [nx.out]; rfl), hbn⟩, by simp [intOf]⟩
      · go_wp2_with (go_at_call 233; refine (cB).mono ?_; rintro e w' ⟨rfl, rfl⟩)
        exact ⟨⟨2 + 1, r, by omega, rfl, rfl, Lib.hid (by rw [nx.out]; rfl), hbn⟩, by simp [intOf]⟩
    · have q9 := below_trans hb0 hbr
      have z0 := bel_cell hbr x0
      have z1 := bel_cell hbr x1
      have z2 := bel_cell hbr x2
      have z3 := bel_cell hbr x3
      have z4 := bel_cell hbr x4
      have z5 := bel_cell hbr x5
      have z6 := bel_cell hbr x6
      have z7 := bel_cell hbr x7
      have z8 := bel_cell hbr x8
      have z9 := bel_cell hbr x9
      have z10 := bel_cell hbr x10
      have z11 := bel_cell hbr x11
      have t0 := bel_cell hbr y0
      have t1 := bel_cell hbr y1
      have t2 := bel_cell hbr y2
      have t3 := bel_cell hbr y3
      have fin : Hid (optB o = (b && ((o.v0 == 256 && (o.v1 == 0 && (o.v2 == 0 && o.v3 == 0))) && (decide (o.k = 1) || ((o.c0 == 0 && (o.c1 == 0 && o.c2 == 256)) && (o.w0 == 256 && (o.w1 == 0 && (o.w2 == 0 && o.w3 == 0)))))))) := Lib.hid (by rw [hB.out]; rfl)
      have Ev := fun w => eqArr4 o.v0 o.v1 o.v2 o.v3 256 0 0 0 w
      have Ec := fun w => eqArr3 o.c0 o.c1 o.c2 0 0 256 w
      have Ew := fun w => eqArr4 o.w0 o.w1 o.w2 o.w3 256 0 0 0 w
      clear x0 x1 x2 x3 x4 x5 x6 x7 x8 x9 x10 x11 x12 x13 x14 x15 x16 x17 y0 y1 y2 y3 cW cE cD aC Hh hB
      simp only [show ((3 : Nat) : Int) = 3 from rfl]
      obtain ⟨dv, hdv⟩ : ∃ dv, (o.v0 == 256 && (o.v1 == 0 && (o.v2 == 0 && o.v3 == 0))) = dv := ⟨_, rfl⟩
      obtain ⟨dc, hdc⟩ : ∃ dc, (o.c0 == 0 && (o.c1 == 0 && o.c2 == 256)) = dc := ⟨_, rfl⟩
      obtain ⟨dw, hdw⟩ : ∃ dw, (o.w0 == 256 && (o.w1 == 0 && (o.w2 == 0 && o.w3 == 0))) = dw := ⟨_, rfl⟩
      simp only [hdv] at Ev
      simp only [hdc] at Ec
      simp only [hdw] at Ew
      have fin2 : Hid (optB o = (b && (dv && (decide (o.k = 1) || (dc && dw))))) := Lib.hid (by rw [fin.out, hdv, hdc, hdw])
      clear hdv hdc hdw fin
      by_cases hk1 : o.k = 1
      · have kb : (o.k == 1) = true := by simpa using hk1
        have Kd := Lib.hid (decide_eq_true hk1)
        clear hk1
        cases b <;> cases dv
        all_goals (
          go_wp2_with fail
          go_ret
          exact ⟨ret_int (by unfold optE; rw [fin2.out, Kd.out]; rfl), q9⟩)
      · have kb : (o.k == 1) = false := by simpa using hk1
        have Kd := Lib.hid (decide_eq_false hk1)
        clear hk1
        cases b <;> cases dv <;> cases dc <;> cases dw
        all_goals (
          go_wp2_with fail
          go_ret
          exact ⟨ret_int (by unfold optE; rw [fin2.out, Kd.out]; rfl), q9⟩)

end Go.Proofs.YtfolgmcoggejbaaGreat

namespace Go.Proofs.YtfolgmcoggejbaaGreat
open Go.RowKit
set_option linter.unusedVariables false
set_option linter.unusedSimpArgs false

theorem no_two {k w : Int} (hk : ¬ k = 1) (hw : ¬ w = 256) : ¬ ((k != 1) = false ∨ (w != 256) = false) := by simp [hk, hw]
theorem wt_dull {a b c d : Int} (h : wtB [a, b, c, d] = true) : dullB a b c d = (a == 256) := by
  unfold wtB partB at h
  simp at h
  unfold dullB
  rw [Bool.eq_iff_iff]
  simp
  omega
theorem wt_cls {a b c : Int} (h : wtB [a, b, c] = true) : (a == 0 && (b == 0 && c == 256)) = (c == 256) := by
  unfold wtB partB at h
  simp at h
  rw [Bool.eq_iff_iff]
  simp
  omega
theorem opt_ref (o : Opt) : optB o = (headB o && (wtB [o.v0, o.v1, o.v2, o.v3] && (wtB [o.w0, o.w1, o.w2, o.w3] && (wtB [o.s0, o.s1, o.s2, o.s3] && (o.v0 == 256 && (decide (o.k = 1) || (o.c2 == 256 && o.w0 == 256))))))) := by
  have e : okTo o 3 = (((headB o && wtB [o.v0, o.v1, o.v2, o.v3]) && wtB [o.w0, o.w1, o.w2, o.w3]) && wtB [o.s0, o.s1, o.s2, o.s3]) := rfl
  unfold optB
  rw [e]
  cases hv : wtB [o.v0, o.v1, o.v2, o.v3]
  · simp
  · cases hw : wtB [o.w0, o.w1, o.w2, o.w3]
    · simp
    · cases hs : wtB [o.s0, o.s1, o.s2, o.s3]
      · simp
      · rw [wt_dull hv, wt_dull hw]
        cases hh : headB o
        · simp
        · have hc : wtB [o.c0, o.c1, o.c2] = true := by
            unfold headB at hh
            simp at hh
            exact hh.2.1
          rw [wt_cls hc]
          simp

end Go.Proofs.YtfolgmcoggejbaaGreat

namespace Go.Proofs.YtfolgmcoggejbaaGreat
open Go.RowKit
set_option linter.unusedVariables false
set_option linter.unusedSimpArgs false

def suitE (o : Opt) : Int := if optE o ≠ 0 then optE o else if o.k ≠ 1 then 2 else if o.s2 * o.w1 - o.w2 * o.s1 ≤ 0 ∨ o.w2 * o.s3 < o.s2 * o.w3 then 11 else 0
theorem optE_cases (o : Opt) : optE o = 0 ∨ optE o = 2 := by unfold optE; split <;> simp
theorem opt_rows {o : Opt} (h : optE o = 0) : wtB [o.v0, o.v1, o.v2, o.v3] = true ∧ wtB [o.w0, o.w1, o.w2, o.w3] = true ∧ wtB [o.s0, o.s1, o.s2, o.s3] = true := by
  unfold optE at h
  split at h
  · rename_i hb
    rw [opt_ref] at hb
    simp at hb
    exact ⟨hb.2.1, hb.2.2.1, hb.2.2.2.1⟩
  · cases h
theorem wt_parts {a b c d : Int} (h : wtB [a, b, c, d] = true) : (0 ≤ a ∧ a ≤ 256) ∧ (0 ≤ b ∧ b ≤ 256) ∧ (0 ≤ c ∧ c ≤ 256) ∧ (0 ≤ d ∧ d ≤ 256) ∧ a + b + c + d = 256 := by
  unfold wtB partB at h
  simp only [List.all_cons, List.all_nil, Bool.and_true, Bool.and_eq_true, decide_eq_true_eq, List.sum_cons, List.sum_nil] at h
  obtain ⟨⟨h1, h2, h3, h4⟩, h5⟩ := h
  have h6 := of_decide_eq_true h5
  exact ⟨h1, h2, h3, h4, by omega⟩
theorem opt_parts {o : Opt} (h : optE o = 0) : (0 ≤ o.w1 ∧ o.w1 ≤ 256) ∧ (0 ≤ o.s1 ∧ o.s1 ≤ 256) ∧ (0 ≤ o.s2 ∧ o.s2 ≤ 256) ∧ (0 ≤ o.s3 ∧ o.s3 ≤ 256) ∧ (0 ≤ o.w2 ∧ o.w2 ≤ 256) ∧ (0 ≤ o.w3 ∧ o.w3 ≤ 256) := by
  obtain ⟨_, h1, h2⟩ := opt_rows h
  obtain ⟨_, q1, q2, q3, _⟩ := wt_parts h1
  obtain ⟨_, r1, r2, r3, _⟩ := wt_parts h2
  exact ⟨q1, r1, r2, r3, q2, q3⟩
theorem imul {a b : Int} (ha : 0 ≤ a ∧ a ≤ 256) (hb : 0 ≤ b ∧ b ≤ 256) : ∃ P, a * b = P ∧ 0 ≤ P ∧ P ≤ 65536 ∧ wrap64 (a * b) = P := by
  have h1 : 0 ≤ a * b := Int.mul_nonneg ha.1 hb.1
  have h2 : a * b ≤ 256 * 256 := Int.mul_le_mul ha.2 hb.2 hb.1 (by decide)
  exact ⟨a * b, rfl, h1, by omega, IntWalk.wrap64_in _ (by omega)⟩
/-- An arrangement in a box. -/
def OptAt (w : World) (b : Nat) (o : Opt) : Prop := w.heap[b]? = some (.cells #[.int .i64 o.k, .int .i64 o.c0, .int .i64 o.c1, .int .i64 o.c2, .int .i64 o.v0, .int .i64 o.v1, .int .i64 o.v2, .int .i64 o.v3, .int .i64 o.w0, .int .i64 o.w1, .int .i64 o.w2, .int .i64 o.w3, .int .i64 o.s0, .int .i64 o.s1, .int .i64 o.s2, .int .i64 o.s3, .int .i64 o.eta, .int .i64 o.dark] 67 (0, 0))
theorem OptAt.on {w w' : World} {b : Nat} {o : Opt} (h : OptAt w b o) (hb : Below w.heap.size w w') : OptAt w' b o :=
  (hb.block b (Array.getElem?_eq_some_iff.1 h).1).trans h
theorem OptAt.new (w : World) (o : Opt) : OptAt (w.alloc (.cells #[.int .i64 o.k, .int .i64 o.c0, .int .i64 o.c1, .int .i64 o.c2, .int .i64 o.v0, .int .i64 o.v1, .int .i64 o.v2, .int .i64 o.v3, .int .i64 o.w0, .int .i64 o.w1, .int .i64 o.w2, .int .i64 o.w3, .int .i64 o.s0, .int .i64 o.s1, .int .i64 o.s2, .int .i64 o.s3, .int .i64 o.eta, .int .i64 o.dark] 67)) w.heap.size o := heap_alloc_new w _
theorem OptAt.x0 {w : World} {b : Nat} {o : Opt} (h : OptAt w b o) : w.cell? ⟨b, 0, none⟩ = some (.int .i64 o.k) := cell_of_row w b 0 _ _ _ h
theorem OptAt.x1 {w : World} {b : Nat} {o : Opt} (h : OptAt w b o) : w.cell? ⟨b, 1, none⟩ = some (.int .i64 o.c0) := cell_of_row w b 1 _ _ _ h
theorem OptAt.x2 {w : World} {b : Nat} {o : Opt} (h : OptAt w b o) : w.cell? ⟨b, 2, none⟩ = some (.int .i64 o.c1) := cell_of_row w b 2 _ _ _ h
theorem OptAt.x3 {w : World} {b : Nat} {o : Opt} (h : OptAt w b o) : w.cell? ⟨b, 3, none⟩ = some (.int .i64 o.c2) := cell_of_row w b 3 _ _ _ h
theorem OptAt.x4 {w : World} {b : Nat} {o : Opt} (h : OptAt w b o) : w.cell? ⟨b, 4, none⟩ = some (.int .i64 o.v0) := cell_of_row w b 4 _ _ _ h
theorem OptAt.x5 {w : World} {b : Nat} {o : Opt} (h : OptAt w b o) : w.cell? ⟨b, 5, none⟩ = some (.int .i64 o.v1) := cell_of_row w b 5 _ _ _ h
theorem OptAt.x6 {w : World} {b : Nat} {o : Opt} (h : OptAt w b o) : w.cell? ⟨b, 6, none⟩ = some (.int .i64 o.v2) := cell_of_row w b 6 _ _ _ h
theorem OptAt.x7 {w : World} {b : Nat} {o : Opt} (h : OptAt w b o) : w.cell? ⟨b, 7, none⟩ = some (.int .i64 o.v3) := cell_of_row w b 7 _ _ _ h
theorem OptAt.x8 {w : World} {b : Nat} {o : Opt} (h : OptAt w b o) : w.cell? ⟨b, 8, none⟩ = some (.int .i64 o.w0) := cell_of_row w b 8 _ _ _ h
theorem OptAt.x9 {w : World} {b : Nat} {o : Opt} (h : OptAt w b o) : w.cell? ⟨b, 9, none⟩ = some (.int .i64 o.w1) := cell_of_row w b 9 _ _ _ h
theorem OptAt.x10 {w : World} {b : Nat} {o : Opt} (h : OptAt w b o) : w.cell? ⟨b, 10, none⟩ = some (.int .i64 o.w2) := cell_of_row w b 10 _ _ _ h
theorem OptAt.x11 {w : World} {b : Nat} {o : Opt} (h : OptAt w b o) : w.cell? ⟨b, 11, none⟩ = some (.int .i64 o.w3) := cell_of_row w b 11 _ _ _ h
theorem OptAt.x12 {w : World} {b : Nat} {o : Opt} (h : OptAt w b o) : w.cell? ⟨b, 12, none⟩ = some (.int .i64 o.s0) := cell_of_row w b 12 _ _ _ h
theorem OptAt.x13 {w : World} {b : Nat} {o : Opt} (h : OptAt w b o) : w.cell? ⟨b, 13, none⟩ = some (.int .i64 o.s1) := cell_of_row w b 13 _ _ _ h
theorem OptAt.x14 {w : World} {b : Nat} {o : Opt} (h : OptAt w b o) : w.cell? ⟨b, 14, none⟩ = some (.int .i64 o.s2) := cell_of_row w b 14 _ _ _ h
theorem OptAt.x15 {w : World} {b : Nat} {o : Opt} (h : OptAt w b o) : w.cell? ⟨b, 15, none⟩ = some (.int .i64 o.s3) := cell_of_row w b 15 _ _ _ h
theorem OptAt.x16 {w : World} {b : Nat} {o : Opt} (h : OptAt w b o) : w.cell? ⟨b, 16, none⟩ = some (.int .i64 o.eta) := cell_of_row w b 16 _ _ _ h
theorem OptAt.x17 {w : World} {b : Nat} {o : Opt} (h : OptAt w b o) : w.cell? ⟨b, 17, none⟩ = some (.int .i64 o.dark) := cell_of_row w b 17 _ _ _ h
/-- Four cells. -/
def Row4 (w : World) (g : Nat) (a b c d : Int) : Prop := w.cell? ⟨g, 0, none⟩ = some (.int .i64 a) ∧ w.cell? ⟨g, 1, none⟩ = some (.int .i64 b) ∧ w.cell? ⟨g, 2, none⟩ = some (.int .i64 c) ∧ w.cell? ⟨g, 3, none⟩ = some (.int .i64 d)
theorem Row4.on {w w' : World} {g : Nat} {a b c d : Int} (h : Row4 w g a b c d) (hb : Below w.heap.size w w') : Row4 w' g a b c d := ⟨bel_cell hb h.1, bel_cell hb h.2.1, bel_cell hb h.2.2.1, bel_cell hb h.2.2.2⟩

theorem row4_a (y : World) (a b c d e f g h : Int) (T : TypeId) : Row4 ((y.alloc (.cells #[.int .i64 a, .int .i64 b, .int .i64 c, .int .i64 d] T)).alloc (.cells #[.int .i64 e, .int .i64 f, .int .i64 g, .int .i64 h] T)).drew y.heap.size a b c d := by
  refine ⟨?_, ?_, ?_, ?_⟩ <;> go_simp
theorem row4_b (y : World) (a b c d e f g h : Int) (T : TypeId) : Row4 ((y.alloc (.cells #[.int .i64 a, .int .i64 b, .int .i64 c, .int .i64 d] T)).alloc (.cells #[.int .i64 e, .int .i64 f, .int .i64 g, .int .i64 h] T)).drew (y.heap.size + 1) e f g h := by
  refine ⟨?_, ?_, ?_, ?_⟩ <;> go_simp

set_option maxRecDepth 100000 in
set_option maxHeartbeats 8000000 in
theorem oSuits_any (o : Opt) (w : World) : Calls Tryz.prog 198 #[o.val] w fun e w' => e = .returned (.int .i64 (suitE o)) ∧ Below w.heap.size w w' := by
  have hb0 := below_alloc (Below.refl w.heap.size w) (.cells o.cs 67)
  have cK := fun w' => oCheck_any o w'
  unfold Opt.val Opt.cs at *
  by_cases h0 : optE o = 0
  · rw [h0] at cK
    have pr := opt_parts h0
    by_cases hk : o.k = 1
    · have eS : Hid (suitE o = if o.s2 * o.w1 - o.w2 * o.s1 ≤ 0 ∨ o.w2 * o.s3 < o.s2 * o.w3 then 11 else 0) := Lib.hid (by unfold suitE; rw [if_neg (by simp [h0]), if_neg (by simp [hk])])
      have Pr := Lib.hid pr
      have kb : (o.k == 1) = true := by simpa using hk
      have kn : (o.k != 1) = false := by rw [bne_eq_false_iff_eq]; exact hk
      clear h0 hk pr
      go_enter Tryz.func198, Tryz.ntmps198
      go_upto_region 1 with fail
      have At0 := Lib.hid (OptAt.new w o)
      obtain ⟨W, hW⟩ : ∃ W, w.alloc (.cells #[.int .i64 o.k, .int .i64 o.c0, .int .i64 o.c1, .int .i64 o.c2, .int .i64 o.v0, .int .i64 o.v1, .int .i64 o.v2, .int .i64 o.v3, .int .i64 o.w0, .int .i64 o.w1, .int .i64 o.w2, .int .i64 o.w3, .int .i64 o.s0, .int .i64 o.s1, .int .i64 o.s2, .int .i64 o.s3, .int .i64 o.eta, .int .i64 o.dark] 67) = W := ⟨_, rfl⟩
      rw [hW] at hb0 At0 ⊢
      clear hW
      go_wp2_with (refine wpList_load_row rfl 67 _ rfl w.heap.size rfl 67 _ (0, 0) _ At0.out Tryz.underlying67 rfl (by kernel_rfl) ?_)
      refine (cK _).mono ?_
      rintro e w2 ⟨rfl, hb2⟩
      have q2 := below_trans hb0 hb2
      have at2 := At0.out.on hb2
      have x0 := at2.x0
      have sz2 : w.heap.size < w2.heap.size := World.block_lt_of_cell? w2 _ x0
      have L8 := fun w' (hb : Below w2.heap.size w2 w') => (at2.on hb).x8
      have L9 := fun w' (hb : Below w2.heap.size w2 w') => (at2.on hb).x9
      have L10 := fun w' (hb : Below w2.heap.size w2 w') => (at2.on hb).x10
      have L11 := fun w' (hb : Below w2.heap.size w2 w') => (at2.on hb).x11
      have L12 := fun w' (hb : Below w2.heap.size w2 w') => (at2.on hb).x12
      have L13 := fun w' (hb : Below w2.heap.size w2 w') => (at2.on hb).x13
      have L14 := fun w' (hb : Below w2.heap.size w2 w') => (at2.on hb).x14
      have L15 := fun w' (hb : Below w2.heap.size w2 w') => (at2.on hb).x15
      go_upto_region 6 with fail
      go_cut [4, 5] (fun va vb wx => ∃ g h, va = .pointer (some ⟨g, 0, none⟩) ∧ vb = .pointer (some ⟨h, 0, none⟩) ∧ Row4 wx g o.w0 o.w1 o.w2 o.w3 ∧ Row4 wx h o.s0 o.s1 o.s2 o.s3 ∧ Below w2.heap.size w2 wx)
      case first =>
        go_region_held3 (fun w' => Below w2.heap.size w2 w')
          (first | (exact (Below.refl _ _).drew) | (refine below_alloc ?_ _; assumption) | (exact below_alloc (below_alloc (Below.refl _ _).drew _) _) | (exact below_alloc (Below.refl _ _).drew _))
          (fail)
        all_goals (
          go_wp2_with fail
          go_meet
          case rel => first
            | exact ⟨_, _, rfl, rfl, row4_a _ _ _ _ _ _ _ _ _ _, row4_b _ _ _ _ _ _ _ _ _ _, (below_alloc (below_alloc (Below.refl _ _) _) _).drew⟩
            | exact ⟨_, _, rfl, rfl, row4_b _ _ _ _ _ _ _ _ _ _, row4_a _ _ _ _ _ _ _ _ _ _, (below_alloc (below_alloc (Below.refl _ _) _) _).drew⟩)
      obtain ⟨g, h, rfl, rfl, ⟨y0, y1, y2, y3⟩, ⟨z0, z1, z2, z3⟩, hbc⟩ := hcut
      have q3 := below_trans q2 hbc
      clear x0 cK L8 L9 L10 L11 L12 L13 L14 L15 sz2
      obtain ⟨p1, p2, p3, p4, p5, p6⟩ := Pr.out
      obtain ⟨P1, hP1, a1, b1, g1⟩ := imul p3 p1
      obtain ⟨P2, hP2, a2, b2, g2⟩ := imul p5 p2
      obtain ⟨P3, hP3, a3, b3, g3⟩ := imul p3 p6
      obtain ⟨P4, hP4, a4, b4, g4⟩ := imul p5 p4
      rw [hP1, hP2, hP3, hP4] at eS
      clear hP1 hP2 hP3 hP4 p1 p2 p3 p4 p5 p6
      have ES := Lib.hid eS.out
      clear eS
      by_cases h1 : P1 ≤ P2 <;> by_cases h2 : P4 < P3
      all_goals (
        have h3 : decide (P1 - P2 ≤ 0) = decide (P1 ≤ P2) := by rw [Bool.eq_iff_iff]; simp; omega
        go_wp2_with fail
        go_ret
        exact ⟨ret_int (by rw [ES.out]; simp; omega), q3⟩)
    · have eS : Hid (suitE o = 2) := Lib.hid (by unfold suitE; rw [if_neg (by simp [h0]), if_pos hk])
      have kb : (o.k == 1) = false := by simpa using hk
      clear h0 pr
      go_enter Tryz.func198, Tryz.ntmps198
      go_upto_region 1 with fail
      have At0 := Lib.hid (OptAt.new w o)
      obtain ⟨W, hW⟩ : ∃ W, w.alloc (.cells #[.int .i64 o.k, .int .i64 o.c0, .int .i64 o.c1, .int .i64 o.c2, .int .i64 o.v0, .int .i64 o.v1, .int .i64 o.v2, .int .i64 o.v3, .int .i64 o.w0, .int .i64 o.w1, .int .i64 o.w2, .int .i64 o.w3, .int .i64 o.s0, .int .i64 o.s1, .int .i64 o.s2, .int .i64 o.s3, .int .i64 o.eta, .int .i64 o.dark] 67) = W := ⟨_, rfl⟩
      rw [hW] at hb0 At0 ⊢
      clear hW
      go_wp2_with (refine wpList_load_row rfl 67 _ rfl w.heap.size rfl 67 _ (0, 0) _ At0.out Tryz.underlying67 rfl (by kernel_rfl) ?_)
      refine (cK _).mono ?_
      rintro e w2 ⟨rfl, hb2⟩
      have q2 := below_trans hb0 hb2
      have x0 := (At0.out.on hb2).x0
      go_wp2_with fail
      go_ret
      exact ⟨ret_int eS.out.symm, q2⟩
  · have eS : Hid (suitE o = optE o) := Lib.hid (by unfold suitE; rw [if_pos h0])
    have hne : (optE o != 0) = true := by rw [bne_iff_ne]; exact h0
    obtain ⟨E, hE⟩ : ∃ E, optE o = E := ⟨_, rfl⟩
    rw [hE] at cK hne eS
    clear h0 hE
    go_enter Tryz.func198, Tryz.ntmps198
    go_upto_region 1 with fail
    have At0 := Lib.hid (OptAt.new w o)
    obtain ⟨W, hW⟩ : ∃ W, w.alloc (.cells #[.int .i64 o.k, .int .i64 o.c0, .int .i64 o.c1, .int .i64 o.c2, .int .i64 o.v0, .int .i64 o.v1, .int .i64 o.v2, .int .i64 o.v3, .int .i64 o.w0, .int .i64 o.w1, .int .i64 o.w2, .int .i64 o.w3, .int .i64 o.s0, .int .i64 o.s1, .int .i64 o.s2, .int .i64 o.s3, .int .i64 o.eta, .int .i64 o.dark] 67) = W := ⟨_, rfl⟩
    rw [hW] at hb0 At0 ⊢
    clear hW
    go_wp2_with (refine wpList_load_row rfl 67 _ rfl w.heap.size rfl 67 _ (0, 0) _ At0.out Tryz.underlying67 rfl (by kernel_rfl) ?_)
    refine (cK _).mono ?_
    rintro e w2 ⟨rfl, hb2⟩
    have q2 := below_trans hb0 hb2
    go_wp2_with fail
    go_ret
    exact ⟨ret_int eS.out.symm, q2⟩

end Go.Proofs.YtfolgmcoggejbaaGreat

namespace Go.Proofs.YtfolgmcoggejbaaGreat
open Go.RowKit
set_option linter.unusedVariables false
set_option linter.unusedSimpArgs false

/-- Gains: a what was sent, h what was heard, x what was wrong. -/
structure Gn where
  a0 : Int
  h0 : Int
  x0 : Int
  a1 : Int
  h1 : Int
  x1 : Int
  a2 : Int
  h2 : Int
  x2 : Int
def Gn.val (g : Gn) : Value := .agg #[.int .i64 g.a0, .int .i64 g.h0, .int .i64 g.x0, .int .i64 g.a1, .int .i64 g.h1, .int .i64 g.x1, .int .i64 g.a2, .int .i64 g.h2, .int .i64 g.x2]
def okG (a h x : Int) : Prop := 0 ≤ x ∧ x ≤ h ∧ h ≤ a ∧ a ≤ 4096
instance (a h x : Int) : Decidable (okG a h x) := by unfold okG; infer_instance
def allG (g : Gn) : Nat → Prop
  | 0 => True
  | 1 => okG g.a0 g.h0 g.x0
  | 2 => okG g.a0 g.h0 g.x0 ∧ okG g.a1 g.h1 g.x1
  | _ => okG g.a0 g.h0 g.x0 ∧ okG g.a1 g.h1 g.x1 ∧ okG g.a2 g.h2 g.x2
def someG (g : Gn) : Nat → Prop
  | 0 => True
  | 1 => g.a0 ≠ 0
  | 2 => g.a0 ≠ 0 ∧ g.a1 ≠ 0
  | _ => g.a0 ≠ 0 ∧ g.a1 ≠ 0 ∧ g.a2 ≠ 0
def gainsE (o : Opt) (g : Gn) : Int := if suitE o ≠ 0 then suitE o else if ¬ (okG g.a0 g.h0 g.x0 ∧ okG g.a1 g.h1 g.x1 ∧ okG g.a2 g.h2 g.x2) then 2 else if ¬ (g.a0 ≠ 0 ∧ g.a1 ≠ 0 ∧ g.a2 ≠ 0) then 9 else 0
theorem okG_no {a h x : Int} (h0 : ¬ okG a h x) : x < 0 ∨ (¬ x < 0 ∧ h < x) ∨ (¬ x < 0 ∧ ¬ h < x ∧ a < h) ∨ (¬ x < 0 ∧ ¬ h < x ∧ ¬ a < h ∧ 4096 < a) := by
  unfold okG at h0
  omega
@[go_sem] theorem idxG0 (b0 b1 b2 b3 b4 b5 b6 b7 b8 : Value) (w : World) : (Instr.index 375 (.agg #[b0, b1, b2, b3, b4, b5, b6, b7, b8]) (.int .i64 0)).run Tryz.prog w = .ok (.agg #[b0, b1, b2]) w := by kernel_rfl
@[go_sem] theorem idxG1 (b0 b1 b2 b3 b4 b5 b6 b7 b8 : Value) (w : World) : (Instr.index 375 (.agg #[b0, b1, b2, b3, b4, b5, b6, b7, b8]) (.int .i64 1)).run Tryz.prog w = .ok (.agg #[b3, b4, b5]) w := by kernel_rfl
@[go_sem] theorem idxG2 (b0 b1 b2 b3 b4 b5 b6 b7 b8 : Value) (w : World) : (Instr.index 375 (.agg #[b0, b1, b2, b3, b4, b5, b6, b7, b8]) (.int .i64 2)).run Tryz.prog w = .ok (.agg #[b6, b7, b8]) w := by kernel_rfl
/-- Gains in a box. -/
def GnAt (w : World) (b : Nat) (g : Gn) : Prop := w.heap[b]? = some (.cells #[.int .i64 g.a0, .int .i64 g.h0, .int .i64 g.x0, .int .i64 g.a1, .int .i64 g.h1, .int .i64 g.x1, .int .i64 g.a2, .int .i64 g.h2, .int .i64 g.x2] 375 (0, 0))
theorem GnAt.on {w w' : World} {b : Nat} {g : Gn} (h : GnAt w b g) (hb : Below w.heap.size w w') : GnAt w' b g :=
  (hb.block b (Array.getElem?_eq_some_iff.1 h).1).trans h
theorem GnAt.y0 {w : World} {b : Nat} {g : Gn} (h : GnAt w b g) : w.cell? ⟨b, 0, none⟩ = some (.int .i64 g.a0) := cell_of_row w b 0 _ _ _ h
theorem GnAt.y1 {w : World} {b : Nat} {g : Gn} (h : GnAt w b g) : w.cell? ⟨b, 1, none⟩ = some (.int .i64 g.h0) := cell_of_row w b 1 _ _ _ h
theorem GnAt.y2 {w : World} {b : Nat} {g : Gn} (h : GnAt w b g) : w.cell? ⟨b, 2, none⟩ = some (.int .i64 g.x0) := cell_of_row w b 2 _ _ _ h
theorem GnAt.y3 {w : World} {b : Nat} {g : Gn} (h : GnAt w b g) : w.cell? ⟨b, 3, none⟩ = some (.int .i64 g.a1) := cell_of_row w b 3 _ _ _ h
theorem GnAt.y4 {w : World} {b : Nat} {g : Gn} (h : GnAt w b g) : w.cell? ⟨b, 4, none⟩ = some (.int .i64 g.h1) := cell_of_row w b 4 _ _ _ h
theorem GnAt.y5 {w : World} {b : Nat} {g : Gn} (h : GnAt w b g) : w.cell? ⟨b, 5, none⟩ = some (.int .i64 g.x1) := cell_of_row w b 5 _ _ _ h
theorem GnAt.y6 {w : World} {b : Nat} {g : Gn} (h : GnAt w b g) : w.cell? ⟨b, 6, none⟩ = some (.int .i64 g.a2) := cell_of_row w b 6 _ _ _ h
theorem GnAt.y7 {w : World} {b : Nat} {g : Gn} (h : GnAt w b g) : w.cell? ⟨b, 7, none⟩ = some (.int .i64 g.h2) := cell_of_row w b 7 _ _ _ h
theorem GnAt.y8 {w : World} {b : Nat} {g : Gn} (h : GnAt w b g) : w.cell? ⟨b, 8, none⟩ = some (.int .i64 g.x2) := cell_of_row w b 8 _ _ _ h

set_option maxRecDepth 100000 in
set_option maxHeartbeats 8000000 in
theorem checkGains_any (o : Opt) (g : Gn) (w : World) : Calls Tryz.prog 309 #[o.val, g.val] w fun e w' => e = .returned (.int .i64 (gainsE o g)) ∧ Below w.heap.size w w' := by
  have hb0 := below_alloc (below_alloc (Below.refl w.heap.size w) (.cells #[.int .i64 o.k, .int .i64 o.c0, .int .i64 o.c1, .int .i64 o.c2, .int .i64 o.v0, .int .i64 o.v1, .int .i64 o.v2, .int .i64 o.v3, .int .i64 o.w0, .int .i64 o.w1, .int .i64 o.w2, .int .i64 o.w3, .int .i64 o.s0, .int .i64 o.s1, .int .i64 o.s2, .int .i64 o.s3, .int .i64 o.eta, .int .i64 o.dark] 67)) (.cells #[.int .i64 g.a0, .int .i64 g.h0, .int .i64 g.x0, .int .i64 g.a1, .int .i64 g.h1, .int .i64 g.x1, .int .i64 g.a2, .int .i64 g.h2, .int .i64 g.x2] 375)
  have cK := fun w' => oSuits_any o w'
  have at0 : OptAt ((w.alloc (.cells #[.int .i64 o.k, .int .i64 o.c0, .int .i64 o.c1, .int .i64 o.c2, .int .i64 o.v0, .int .i64 o.v1, .int .i64 o.v2, .int .i64 o.v3, .int .i64 o.w0, .int .i64 o.w1, .int .i64 o.w2, .int .i64 o.w3, .int .i64 o.s0, .int .i64 o.s1, .int .i64 o.s2, .int .i64 o.s3, .int .i64 o.eta, .int .i64 o.dark] 67)).alloc (.cells #[.int .i64 g.a0, .int .i64 g.h0, .int .i64 g.x0, .int .i64 g.a1, .int .i64 g.h1, .int .i64 g.x1, .int .i64 g.a2, .int .i64 g.h2, .int .i64 g.x2] 375)) w.heap.size o := heap_alloc2_old w _ _
  have gt0 : GnAt ((w.alloc (.cells #[.int .i64 o.k, .int .i64 o.c0, .int .i64 o.c1, .int .i64 o.c2, .int .i64 o.v0, .int .i64 o.v1, .int .i64 o.v2, .int .i64 o.v3, .int .i64 o.w0, .int .i64 o.w1, .int .i64 o.w2, .int .i64 o.w3, .int .i64 o.s0, .int .i64 o.s1, .int .i64 o.s2, .int .i64 o.s3, .int .i64 o.eta, .int .i64 o.dark] 67)).alloc (.cells #[.int .i64 g.a0, .int .i64 g.h0, .int .i64 g.x0, .int .i64 g.a1, .int .i64 g.h1, .int .i64 g.x1, .int .i64 g.a2, .int .i64 g.h2, .int .i64 g.x2] 375)) (w.heap.size + 1) g := heap_alloc2_new w _ _
  unfold Opt.val Opt.cs at *
  unfold Gn.val
  obtain ⟨E, hE⟩ : ∃ E, suitE o = E := ⟨_, rfl⟩
  have gE : gainsE o g = if E ≠ 0 then E else if ¬ (okG g.a0 g.h0 g.x0 ∧ okG g.a1 g.h1 g.x1 ∧ okG g.a2 g.h2 g.x2) then 2 else if ¬ (g.a0 ≠ 0 ∧ g.a1 ≠ 0 ∧ g.a2 ≠ 0) then 9 else 0 := by rw [← hE]; rfl
  rw [hE] at cK
  have GE := Lib.hid gE
  clear hE gE
  have At0 := Lib.hid at0; have Gt0 := Lib.hid gt0
  clear at0 gt0
  go_enter Tryz.func309, Tryz.ntmps309
  go_upto_region 1 with fail
  obtain ⟨W, hW⟩ : ∃ W, (w.alloc (.cells #[.int .i64 o.k, .int .i64 o.c0, .int .i64 o.c1, .int .i64 o.c2, .int .i64 o.v0, .int .i64 o.v1, .int .i64 o.v2, .int .i64 o.v3, .int .i64 o.w0, .int .i64 o.w1, .int .i64 o.w2, .int .i64 o.w3, .int .i64 o.s0, .int .i64 o.s1, .int .i64 o.s2, .int .i64 o.s3, .int .i64 o.eta, .int .i64 o.dark] 67)).alloc (.cells #[.int .i64 g.a0, .int .i64 g.h0, .int .i64 g.x0, .int .i64 g.a1, .int .i64 g.h1, .int .i64 g.x1, .int .i64 g.a2, .int .i64 g.h2, .int .i64 g.x2] 375) = W := ⟨_, rfl⟩
  rw [hW] at hb0 At0 Gt0 ⊢
  clear hW
  go_wp2_with (refine wpList_load_row rfl 67 _ rfl w.heap.size rfl 67 _ (0, 0) _ At0.out Tryz.underlying67 rfl (by kernel_rfl) ?_)
  refine (cK _).mono ?_
  rintro e w2 ⟨rfl, hb2⟩
  have q2 := below_trans hb0 hb2
  have Gt2 := Lib.hid (Gt0.out.on hb2)
  by_cases hE0 : E = 0
  · subst hE0
    go_wp2_with (refine wpList_load_row rfl 375 _ rfl (w.heap.size + 1) rfl 375 _ (0, 0) _ Gt2.out Tryz.underlying375 rfl (by kernel_rfl) ?_)
    go_loopw [16] (fun iv wr => ∃ k : Nat, k ≤ 3 ∧ iv = .int .i64 k ∧ Hid (allG g k) ∧ Below w2.heap.size w2 wr) (fun iv _ => 3 - (intOf iv).toNat)
    case atStart => exact ⟨0, by omega, rfl, Lib.hid trivial, Below.refl _ _⟩
    case round =>
      obtain ⟨k, hk, rfl, hal, hbr⟩ := hrel
      obtain ⟨w6, rfl⟩ : ∃ w6, w6 = wr := ⟨_, rfl⟩
      have q6 := below_trans q2 hbr
      rcases (show k = 0 ∨ k = 1 ∨ k = 2 ∨ k = 3 by omega) with rfl | rfl | rfl | rfl
      · have hbn := below_alloc hbr (.cells #[.int .i64 g.a0, .int .i64 g.h0, .int .i64 g.x0] 374)
        have qn := below_alloc q6 (.cells #[.int .i64 g.a0, .int .i64 g.h0, .int .i64 g.x0] 374)
        simp only [show ((0 : Nat) : Int) = 0 from rfl]
        by_cases hok : okG g.a0 g.h0 g.x0
        · have nx : Hid (allG g (0 + 1)) := Lib.hid ((fun h => h) hok)
          obtain ⟨e1, e2, e3, e4⟩ := hok
          go_wp2_with fail
          exact ⟨⟨0 + 1, by omega, rfl, nx, hbn⟩, by simp [intOf]⟩
        · have E2 : Hid (gainsE o g = 2) := Lib.hid (by rw [GE.out, if_neg (by simp), if_pos (fun h => hok h.1)])
          rcases okG_no hok with h1 | ⟨h1, h2⟩ | ⟨h1, h2, h3⟩ | ⟨h1, h2, h3, h4⟩
          all_goals (
            clear hok
            go_wp2_with fail
            go_ret
            exact ⟨ret_int E2.out.symm, qn⟩)
      · have hbn := below_alloc hbr (.cells #[.int .i64 g.a1, .int .i64 g.h1, .int .i64 g.x1] 374)
        have qn := below_alloc q6 (.cells #[.int .i64 g.a1, .int .i64 g.h1, .int .i64 g.x1] 374)
        simp only [show ((1 : Nat) : Int) = 1 from rfl]
        by_cases hok : okG g.a1 g.h1 g.x1
        · have nx : Hid (allG g (1 + 1)) := Lib.hid ((fun h => ⟨hal.out, h⟩) hok)
          obtain ⟨e1, e2, e3, e4⟩ := hok
          go_wp2_with fail
          exact ⟨⟨1 + 1, by omega, rfl, nx, hbn⟩, by simp [intOf]⟩
        · have E2 : Hid (gainsE o g = 2) := Lib.hid (by rw [GE.out, if_neg (by simp), if_pos (fun h => hok h.2.1)])
          rcases okG_no hok with h1 | ⟨h1, h2⟩ | ⟨h1, h2, h3⟩ | ⟨h1, h2, h3, h4⟩
          all_goals (
            clear hok
            go_wp2_with fail
            go_ret
            exact ⟨ret_int E2.out.symm, qn⟩)
      · have hbn := below_alloc hbr (.cells #[.int .i64 g.a2, .int .i64 g.h2, .int .i64 g.x2] 374)
        have qn := below_alloc q6 (.cells #[.int .i64 g.a2, .int .i64 g.h2, .int .i64 g.x2] 374)
        simp only [show ((2 : Nat) : Int) = 2 from rfl]
        by_cases hok : okG g.a2 g.h2 g.x2
        · have nx : Hid (allG g (2 + 1)) := Lib.hid ((fun h => ⟨hal.out.1, hal.out.2, h⟩) hok)
          obtain ⟨e1, e2, e3, e4⟩ := hok
          go_wp2_with fail
          exact ⟨⟨2 + 1, by omega, rfl, nx, hbn⟩, by simp [intOf]⟩
        · have E2 : Hid (gainsE o g = 2) := Lib.hid (by rw [GE.out, if_neg (by simp), if_pos (fun h => hok h.2.2)])
          rcases okG_no hok with h1 | ⟨h1, h2⟩ | ⟨h1, h2, h3⟩ | ⟨h1, h2, h3, h4⟩
          all_goals (
            clear hok
            go_wp2_with fail
            go_ret
            exact ⟨ret_int E2.out.symm, qn⟩)
      · have Gt6 := Lib.hid (Gt2.out.on hbr)
        have HA : Hid (okG g.a0 g.h0 g.x0 ∧ okG g.a1 g.h1 g.x1 ∧ okG g.a2 g.h2 g.x2) := hal
        simp only [show ((3 : Nat) : Int) = 3 from rfl]
        go_wp2_with (refine wpList_load_row rfl 375 _ rfl (w.heap.size + 1) rfl 375 _ (0, 0) _ Gt6.out Tryz.underlying375 rfl (by kernel_rfl) ?_)
        go_loopw [43] (fun iv wr => ∃ k : Nat, k ≤ 3 ∧ iv = .int .i64 k ∧ Hid (someG g k) ∧ Below w6.heap.size w6 wr) (fun iv _ => 3 - (intOf iv).toNat)
        case atStart => exact ⟨0, by omega, rfl, Lib.hid trivial, Below.refl _ _⟩
        case round =>
          obtain ⟨k, hk, rfl, hso, hbs⟩ := hrel
          obtain ⟨w8, rfl⟩ : ∃ w8, w8 = wr := ⟨_, rfl⟩
          have q8 := below_trans q6 hbs
          rcases (show k = 0 ∨ k = 1 ∨ k = 2 ∨ k = 3 by omega) with rfl | rfl | rfl | rfl
          · have hbn := below_alloc hbs (.cells #[.int .i64 g.a0, .int .i64 g.h0, .int .i64 g.x0] 374)
            have qn := below_alloc q8 (.cells #[.int .i64 g.a0, .int .i64 g.h0, .int .i64 g.x0] 374)
            simp only [show ((0 : Nat) : Int) = 0 from rfl]
            by_cases hz : g.a0 = 0
            · have E9 : Hid (gainsE o g = 9) := Lib.hid (by rw [GE.out, if_neg (by simp), if_neg (by simp [HA.out]), if_pos (fun h => h.1 hz)])
              have hzb : (g.a0 == 0) = true := by simpa using hz
              clear hz
              go_wp2_with fail
              go_ret
              exact ⟨ret_int E9.out.symm, qn⟩
            · have nx : Hid (someG g (0 + 1)) := Lib.hid ((fun h => h) hz)
              have hzb : (g.a0 == 0) = false := by simpa using hz
              clear hz
              go_wp2_with fail
              exact ⟨⟨0 + 1, by omega, rfl, nx, hbn⟩, by simp [intOf]⟩
          · have hbn := below_alloc hbs (.cells #[.int .i64 g.a1, .int .i64 g.h1, .int .i64 g.x1] 374)
            have qn := below_alloc q8 (.cells #[.int .i64 g.a1, .int .i64 g.h1, .int .i64 g.x1] 374)
            simp only [show ((1 : Nat) : Int) = 1 from rfl]
            by_cases hz : g.a1 = 0
            · have E9 : Hid (gainsE o g = 9) := Lib.hid (by rw [GE.out, if_neg (by simp), if_neg (by simp [HA.out]), if_pos (fun h => h.2.1 hz)])
              have hzb : (g.a1 == 0) = true := by simpa using hz
              clear hz
              go_wp2_with fail
              go_ret
              exact ⟨ret_int E9.out.symm, qn⟩
            · have nx : Hid (someG g (1 + 1)) := Lib.hid ((fun h => ⟨hso.out, h⟩) hz)
              have hzb : (g.a1 == 0) = false := by simpa using hz
              clear hz
              go_wp2_with fail
              exact ⟨⟨1 + 1, by omega, rfl, nx, hbn⟩, by simp [intOf]⟩
          · have hbn := below_alloc hbs (.cells #[.int .i64 g.a2, .int .i64 g.h2, .int .i64 g.x2] 374)
            have qn := below_alloc q8 (.cells #[.int .i64 g.a2, .int .i64 g.h2, .int .i64 g.x2] 374)
            simp only [show ((2 : Nat) : Int) = 2 from rfl]
            by_cases hz : g.a2 = 0
            · have E9 : Hid (gainsE o g = 9) := Lib.hid (by rw [GE.out, if_neg (by simp), if_neg (by simp [HA.out]), if_pos (fun h => h.2.2 hz)])
              have hzb : (g.a2 == 0) = true := by simpa using hz
              clear hz
              go_wp2_with fail
              go_ret
              exact ⟨ret_int E9.out.symm, qn⟩
            · have nx : Hid (someG g (2 + 1)) := Lib.hid ((fun h => ⟨hso.out.1, hso.out.2, h⟩) hz)
              have hzb : (g.a2 == 0) = false := by simpa using hz
              clear hz
              go_wp2_with fail
              exact ⟨⟨2 + 1, by omega, rfl, nx, hbn⟩, by simp [intOf]⟩
          · have E0 : Hid (gainsE o g = 0) := Lib.hid (by rw [GE.out, if_neg (by simp), if_neg (by simp [HA.out]), if_neg (fun hn => hn hso.out)])
            simp only [show ((3 : Nat) : Int) = 3 from rfl]
            go_wp2_with fail
            go_ret
            exact ⟨ret_int E0.out.symm, q8⟩
  · have E1 : Hid (gainsE o g = E) := Lib.hid (by rw [GE.out, if_pos hE0])
    have hne : (E != 0) = true := by rw [bne_iff_ne]; exact hE0
    clear hE0
    go_wp2_with fail
    go_ret
    exact ⟨ret_int E1.out.symm, q2⟩

end Go.Proofs.YtfolgmcoggejbaaGreat

namespace Go.Proofs.YtfolgmcoggejbaaGreat
open Go.RowKit
set_option linter.unusedVariables false
set_option linter.unusedSimpArgs false

theorem okG_dec {a h x : Int} (h0 : okG a h x) : decide (x < 0) = false ∧ decide (h < x) = false ∧ decide (a < h) = false ∧ decide (4096 < a) = false := by
  unfold okG at h0
  exact ⟨decide_eq_false (by omega), decide_eq_false (by omega), decide_eq_false (by omega), decide_eq_false (by omega)⟩
theorem okG_nod {a h x : Int} (h0 : ¬ okG a h x) : decide (x < 0) = true ∨ (decide (x < 0) = false ∧ decide (h < x) = true) ∨ (decide (x < 0) = false ∧ decide (h < x) = false ∧ decide (a < h) = true) ∨ (decide (x < 0) = false ∧ decide (h < x) = false ∧ decide (a < h) = false ∧ decide (4096 < a) = true) := by
  rcases okG_no h0 with h1 | ⟨h1, h2⟩ | ⟨h1, h2, h3⟩ | ⟨h1, h2, h3, h4⟩
  · exact .inl (decide_eq_true h1)
  · exact .inr (.inl ⟨decide_eq_false h1, decide_eq_true h2⟩)
  · exact .inr (.inr (.inl ⟨decide_eq_false h1, decide_eq_false h2, decide_eq_true h3⟩))
  · exact .inr (.inr (.inr ⟨decide_eq_false h1, decide_eq_false h2, decide_eq_false h3, decide_eq_true h4⟩))

end Go.Proofs.YtfolgmcoggejbaaGreat
