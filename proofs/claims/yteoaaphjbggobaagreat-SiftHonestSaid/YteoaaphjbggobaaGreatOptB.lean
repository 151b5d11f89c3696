/- Contracts of optics.Check and of the reference's Check. For any arrangement. -/
import Derived.Test.YteoaaphjbggobaaGreatOptA
import Derived.Test.YteoaaphjbggobaaGreatNtxAll
import Derived.Deep.DeepCutAuto
import Derived.Deep.CutBlock
namespace Go.Proofs.YteoaaphjbggobaaGreat
open Go.RowKit
set_option linter.unusedVariables false
set_option linter.unusedSimpArgs false

/-- An arrangement. -/
structure Opt where
  k : Int
  c0 : Int
  c1 : Int
  c2 : Int
  v0 : Int
  v1 : Int
  v2 : Int
  v3 : Int
  w0 : Int
  w1 : Int
  w2 : Int
  w3 : Int
  s0 : Int
  s1 : Int
  s2 : Int
  s3 : Int
  eta : Int
  dark : Int
def Opt.cs (o : Opt) : Array Value := #[.int .i64 o.k, .int .i64 o.c0, .int .i64 o.c1, .int .i64 o.c2, .int .i64 o.v0, .int .i64 o.v1, .int .i64 o.v2, .int .i64 o.v3, .int .i64 o.w0, .int .i64 o.w1, .int .i64 o.w2, .int .i64 o.w3, .int .i64 o.s0, .int .i64 o.s1, .int .i64 o.s2, .int .i64 o.s3, .int .i64 o.eta, .int .i64 o.dark]
def Opt.val (o : Opt) : Value := .agg o.cs
def rowO (o : Opt) : Nat → List Int
  | 0 => [o.v0, o.v1, o.v2, o.v3]
  | 1 => [o.w0, o.w1, o.w2, o.w3]
  | _ => [o.s0, o.s1, o.s2, o.s3]
def headB (o : Opt) : Bool := decide (0 ≤ o.k ∧ o.k ≤ 2) && (wtB [o.c0, o.c1, o.c2] && (partB o.eta && partB o.dark))
def okTo (o : Opt) : Nat → Bool
  | 0 => headB o
  | k + 1 => okTo o k && wtB (rowO o k)
def dullB (a b c d : Int) : Bool := a == 256 && (b == 0 && (c == 0 && d == 0))
def optB (o : Opt) : Bool := okTo o 3 && (dullB o.v0 o.v1 o.v2 o.v3 && (decide (o.k = 1) || (o.c0 == 0 && (o.c1 == 0 && o.c2 == 256) && dullB o.w0 o.w1 o.w2 o.w3)))
def optE (o : Opt) : Int := if optB o = true then 0 else 2

@[go_sem] theorem idxA0 (a0 a1 a2 a3 a4 a5 a6 a7 a8 a9 a10 a11 : Value) (w : World) : (Instr.index 66 (.agg #[a0, a1, a2, a3, a4, a5, a6, a7, a8, a9, a10, a11]) (.int .i64 0)).run Tryz.prog w = .ok (.agg #[a0, a1, a2, a3]) w := by kernel_rfl
@[go_sem] theorem idxA1 (a0 a1 a2 a3 a4 a5 a6 a7 a8 a9 a10 a11 : Value) (w : World) : (Instr.index 66 (.agg #[a0, a1, a2, a3, a4, a5, a6, a7, a8, a9, a10, a11]) (.int .i64 1)).run Tryz.prog w = .ok (.agg #[a4, a5, a6, a7]) w := by kernel_rfl
@[go_sem] theorem idxA2 (a0 a1 a2 a3 a4 a5 a6 a7 a8 a9 a10 a11 : Value) (w : World) : (Instr.index 66 (.agg #[a0, a1, a2, a3, a4, a5, a6, a7, a8, a9, a10, a11]) (.int .i64 2)).run Tryz.prog w = .ok (.agg #[a8, a9, a10, a11]) w := by kernel_rfl
theorem box3 {w : World} {b off : Nat} {x y z : Int} (h0 : w.cell? ⟨b, off, none⟩ = some (.int .i64 x)) (h1 : w.cell? ⟨b, off + 1, none⟩ = some (.int .i64 y)) (h2 : w.cell? ⟨b, off + 2, none⟩ = some (.int .i64 z)) : Arr 1 encI w w.heap.size (some ⟨b, off, none⟩) [x, y, z] := fun _ =>
  ⟨b, off, rfl, World.block_lt_of_cell? w _ h0, fun i u hu j v hv => by
    obtain rfl : j = 0 := by
      have := (List.getElem?_eq_some_iff.1 hv).1
      simp [encI] at this
      exact this
    match i, hu with
    | 0, hu => obtain rfl : x = u := by simpa using hu
               obtain rfl : Value.int .i64 x = v := by simpa [encI] using hv
               exact h0
    | 1, hu => obtain rfl : y = u := by simpa using hu
               obtain rfl : Value.int .i64 y = v := by simpa [encI] using hv
               exact h1
    | 2, hu => obtain rfl : z = u := by simpa using hu
               obtain rfl : Value.int .i64 z = v := by simpa [encI] using hv
               exact h2
    | n + 3, hu => simp at hu⟩
theorem box4 {w : World} {b off : Nat} {x y z t : Int} (h0 : w.cell? ⟨b, off, none⟩ = some (.int .i64 x)) (h1 : w.cell? ⟨b, off + 1, none⟩ = some (.int .i64 y)) (h2 : w.cell? ⟨b, off + 2, none⟩ = some (.int .i64 z)) (h3 : w.cell? ⟨b, off + 3, none⟩ = some (.int .i64 t)) : Arr 1 encI w w.heap.size (some ⟨b, off, none⟩) [x, y, z, t] := fun _ =>
  ⟨b, off, rfl, World.block_lt_of_cell? w _ h0, fun i u hu j v hv => by
    obtain rfl : j = 0 := by
      have := (List.getElem?_eq_some_iff.1 hv).1
      simp [encI] at this
      exact this
    match i, hu with
    | 0, hu => obtain rfl : x = u := by simpa using hu
               obtain rfl : Value.int .i64 x = v := by simpa [encI] using hv
               exact h0
    | 1, hu => obtain rfl : y = u := by simpa using hu
               obtain rfl : Value.int .i64 y = v := by simpa [encI] using hv
               exact h1
    | 2, hu => obtain rfl : z = u := by simpa using hu
               obtain rfl : Value.int .i64 z = v := by simpa [encI] using hv
               exact h2
    | 3, hu => obtain rfl : t = u := by simpa using hu
               obtain rfl : Value.int .i64 t = v := by simpa [encI] using hv
               exact h3
    | n + 4, hu => simp at hu⟩

set_option maxRecDepth 100000 in
set_option maxHeartbeats 8000000 in
theorem oCheck_any (o : Opt) (w : World) : Calls Tryz.prog 50 #[o.val] w fun e w' => e = .returned (.int .i64 (optE o)) ∧ Below w.heap.size w w' := by
  have hb0 := below_alloc (below_alloc (Below.refl w.heap.size w) (.cells o.cs 68)) (.cells #[.int .i64 256, .int .i64 0, .int .i64 0, .int .i64 0] 65)
  unfold Opt.val Opt.cs at *
  go_enter Tryz.func50, Tryz.ntmps50
  go_upto_region 2 with fail
  obtain ⟨W, hW⟩ : ∃ W, (w.alloc (.cells #[.int .i64 o.k, .int .i64 o.c0, .int .i64 o.c1, .int .i64 o.c2, .int .i64 o.v0, .int .i64 o.v1, .int .i64 o.v2, .int .i64 o.v3, .int .i64 o.w0, .int .i64 o.w1, .int .i64 o.w2, .int .i64 o.w3, .int .i64 o.s0, .int .i64 o.s1, .int .i64 o.s2, .int .i64 o.s3, .int .i64 o.eta, .int .i64 o.dark] 68)).alloc (.cells #[.int .i64 256, .int .i64 0, .int .i64 0, .int .i64 0] 65) = W := ⟨_, rfl⟩
  have x0 : W.cell? ⟨w.heap.size, 0, none⟩ = some (.int .i64 o.k) := by subst hW; go_simp
  have x1 : W.cell? ⟨w.heap.size, 1, none⟩ = some (.int .i64 o.c0) := by subst hW; go_simp
  have x2 : W.cell? ⟨w.heap.size, 2, none⟩ = some (.int .i64 o.c1) := by subst hW; go_simp
  have x3 : W.cell? ⟨w.heap.size, 3, none⟩ = some (.int .i64 o.c2) := by subst hW; go_simp
  have x4 : W.cell? ⟨w.heap.size, 4, none⟩ = some (.int .i64 o.v0) := by subst hW; go_simp
  have x5 : W.cell? ⟨w.heap.size, 5, none⟩ = some (.int .i64 o.v1) := by subst hW; go_simp
  have x6 : W.cell? ⟨w.heap.size, 6, none⟩ = some (.int .i64 o.v2) := by subst hW; go_simp
  have x7 : W.cell? ⟨w.heap.size, 7, none⟩ = some (.int .i64 o.v3) := by subst hW; go_simp
  have x8 : W.cell? ⟨w.heap.size, 8, none⟩ = some (.int .i64 o.w0) := by subst hW; go_simp
  have x9 : W.cell? ⟨w.heap.size, 9, none⟩ = some (.int .i64 o.w1) := by subst hW; go_simp
  have x10 : W.cell? ⟨w.heap.size, 10, none⟩ = some (.int .i64 o.w2) := by subst hW; go_simp
  have x11 : W.cell? ⟨w.heap.size, 11, none⟩ = some (.int .i64 o.w3) := by subst hW; go_simp
  have x12 : W.cell? ⟨w.heap.size, 12, none⟩ = some (.int .i64 o.s0) := by subst hW; go_simp
  have x13 : W.cell? ⟨w.heap.size, 13, none⟩ = some (.int .i64 o.s1) := by subst hW; go_simp
  have x14 : W.cell? ⟨w.heap.size, 14, none⟩ = some (.int .i64 o.s2) := by subst hW; go_simp
  have x15 : W.cell? ⟨w.heap.size, 15, none⟩ = some (.int .i64 o.s3) := by subst hW; go_simp
  have x16 : W.cell? ⟨w.heap.size, 16, none⟩ = some (.int .i64 o.eta) := by subst hW; go_simp
  have x17 : W.cell? ⟨w.heap.size, 17, none⟩ = some (.int .i64 o.dark) := by subst hW; go_simp
  have y0 : W.cell? ⟨w.heap.size + 1, 0, none⟩ = some (.int .i64 256) := by subst hW; go_simp
  have y1 : W.cell? ⟨w.heap.size + 1, 1, none⟩ = some (.int .i64 0) := by subst hW; go_simp
  have y2 : W.cell? ⟨w.heap.size + 1, 2, none⟩ = some (.int .i64 0) := by subst hW; go_simp
  have y3 : W.cell? ⟨w.heap.size + 1, 3, none⟩ = some (.int .i64 0) := by subst hW; go_simp
  rw [hW] at hb0 ⊢
  clear hW
  have aC := box3 x1 x2 x3
  have cW := weights_any (some ⟨w.heap.size, 1, none⟩) 3 3 _ W aC rfl (by decide)
  have cE := oPart_any o.eta W
  have cD := oPart_any o.dark W
  have hh : headB o = (decide (0 ≤ o.k ∧ o.k ≤ 2) && (wtB [o.c0, o.c1, o.c2] && (partB o.eta && partB o.dark))) := rfl
  generalize wtB [o.c0, o.c1, o.c2] = h2 at *
  generalize partB o.eta = h3 at *
  generalize partB o.dark = h4 at *
  have Hh := Lib.hid hh
  clear hh
  go_cut [4] (fun v wx => v = .bool (headB o) ∧ wx = W)
  case first =>
    have go1 : ∀ (b : Bool), b = (decide (0 ≤ o.k ∧ o.k ≤ 2) && (h2 && (h3 && h4))) → headB o = b := fun b hb => by rw [Hh.out, hb]
    have Go1 := Lib.hid go1
    clear go1
    by_cases k0 : 0 ≤ o.k
    · by_cases k2 : o.k ≤ 2
      · have kk : decide (0 ≤ o.k ∧ o.k ≤ 2) = true := decide_eq_true ⟨k0, k2⟩
        have Kk := Lib.hid kk
        clear kk
        cases h2 <;> cases h3 <;> cases h4
        all_goals (
          go_wp2_with (first
            | (go_at_call 95; refine (cW).mono ?_; rintro e w' ⟨rfl, rfl⟩)
            | (go_at_call 96; refine Calls.on (args' := #[.int .i64 o.eta]) rfl ?_; refine cE.mono ?_; rintro e w' ⟨rfl, rfl⟩)
            | (go_at_call 96; refine Calls.on (args' := #[.int .i64 o.dark]) rfl ?_; refine cD.mono ?_; rintro e w' ⟨rfl, rfl⟩))
          go_meet
          case rel => exact ⟨congrArg Value.bool (Go1.out _ (by rw [Kk.out]; rfl)).symm, rfl⟩)
      · have kk : decide (0 ≤ o.k ∧ o.k ≤ 2) = false := decide_eq_false (by omega)
        have Kk := Lib.hid kk
        clear kk
        go_wp2_with fail
        go_meet
        case rel => exact ⟨congrArg Value.bool (Go1.out _ (by rw [Kk.out]; rfl)).symm, rfl⟩
    · have kk : decide (0 ≤ o.k ∧ o.k ≤ 2) = false := decide_eq_false (by omega)
      have Kk := Lib.hid kk
      clear kk
      go_wp2_with fail
      go_meet
      case rel => exact ⟨congrArg Value.bool (Go1.out _ (by rw [Kk.out]; rfl)).symm, rfl⟩
  obtain ⟨rfl, rfl⟩ := hcut
  go_wp2_with fail
  go_loopw [4, 33] (fun bv iv wr => ∃ (k : Nat) (b : Bool), k ≤ 3 ∧ iv = .int .i64 k ∧ bv = .bool b ∧ Hid (b = okTo o k) ∧ Below wc.heap.size wc wr) (fun _ iv _ => 3 - (intOf iv).toNat)
  case atStart => exact ⟨0, headB o, by omega, rfl, rfl, Lib.hid rfl, Below.refl _ _⟩
  case round =>
    obtain ⟨k, b, hk, rfl, rfl, hB, hbr⟩ := hrel
    obtain ⟨w6, rfl⟩ : ∃ w6, w6 = wr := ⟨_, rfl⟩
    rcases (show k = 0 ∨ k = 1 ∨ k = 2 ∨ k = 3 by omega) with rfl | rfl | rfl | rfl
    · have cB := weights_any (some ⟨w6.heap.size, 0, none⟩) 4 4 [o.v0, o.v1, o.v2, o.v3] (w6.alloc (.cells #[.int .i64 o.v0, .int .i64 o.v1, .int .i64 o.v2, .int .i64 o.v3] 65)) (box4 (by go_simp) (by go_simp) (by go_simp) (by go_simp)) rfl (by decide)
      have nx : Hid (okTo o (0 + 1) = (b && wtB [o.v0, o.v1, o.v2, o.v3])) := Lib.hid (by rw [hB.out]; rfl)
      generalize wtB [o.v0, o.v1, o.v2, o.v3] = r at *
      have hbn := below_alloc hbr (.cells #[.int .i64 o.v0, .int .i64 o.v1, .int .i64 o.v2, .int .i64 o.v3] 65)
      simp only [show ((0 : Nat) : Int) = 0 from rfl]
      cases b
      · go_wp2_with fail
        exact ⟨⟨0 + 1, false, by omega, rfl, rfl, Lib.hid (by rw [nx.out]; rfl), hbn⟩, by simp [intOf]⟩
      · go_wp2_with (go_at_call 95; refine (cB).mono ?_; rintro e w' ⟨rfl, rfl⟩)
        exact ⟨⟨0 + 1, r, by omega, rfl, rfl, Lib.hid (by rw [nx.out]; rfl), hbn⟩, by simp [intOf]⟩
    · have cB := weights_any (some ⟨w6.heap.size, 0, none⟩) 4 4 [o.w0, o.w1, o.w2, o.w3] (w6.alloc (.cells #[.int .i64 o.w0, .int .i64 o.w1, .int .i64 o.w2, .int .i64 o.w3] 65)) (box4 (by go_simp) (by go_simp) (by go_simp) (by go_simp)) rfl (by decide)
      have nx : Hid (okTo o (1 + 1) = (b && wtB [o.w0, o.w1, o.w2, o.w3])) := Lib.hid (by rw [hB.out]; rfl)
      generalize wtB [o.w0, o.w1, o.w2, o.w3] = r at *
      have hbn := below_alloc hbr (.cells #[.int .i64 o.w0, .int .i64 o.w1, .int .i64 o.w2, .int .i64 o.w3] 65)
      simp only [show ((1 : Nat) : Int) = 1 from rfl]
      cases b
      · go_wp2_with fail
        exact ⟨⟨1 + 1, false, by omega, rfl, rfl, Lib.hid (by rw [nx.out]; rfl), hbn⟩, by simp [intOf]⟩
      · go_wp2_with (go_at_call 95; refine (cB).mono ?_; rintro e w' ⟨rfl, rfl⟩)
        exact ⟨⟨1 + 1, r, by omega, rfl, rfl, Lib.hid (by rw [nx.out]; rfl), hbn⟩, by simp [intOf]⟩
    · have cB := weights_any (some ⟨w6.heap.size, 0, none⟩) 4 4 [o.s0, o.s1, o.s2, o.s3] (w6.alloc (.cells #[.int .i64 o.s0, .int .i64 o.s1, .int .i64 o.s2, .int .i64 o.s3] 65)) (box4 (by go_simp) (by go_simp) (by go_simp) (by go_simp)) rfl (by decide)
      have nx : Hid (okTo o (2 + 1) = (b && wtB [o.s0, o.s1, o.s2, o.s3])) := Lib.hid (by rw [hB.out]; rfl)
      generalize wtB [o.s0, o.s1, o.s2, o.s3] = r at *
      have hbn := below_alloc hbr (.cells #[.int .i64 o.s0, .int .i64 o.s1, .int .i64 o.s2, .int .i64 o.s3] 65)
      simp only [show ((2 : Nat) : Int) = 2 from rfl]
      cases b
      · go_wp2_with fail
        exact ⟨⟨2 + 1, false, by omega, rfl, rfl, Lib.hid (by rw [nx.out]; rfl), hbn⟩, by simp [intOf]⟩
      · go_wp2_with (go_at_call 95; refine (cB).mono ?_; rintro e w' ⟨rfl, rfl⟩)
        exact ⟨⟨2 + 1, r, by omega, rfl, rfl, Lib.hid (by rw [nx.out]; rfl), hbn⟩, by simp [intOf]⟩
    · have q9 := below_trans hb0 hbr
      have z0 := bel_cell hbr x0
      have z1 := bel_cell hbr x1
      have z2 := bel_cell hbr x2
      have z3 := bel_cell hbr x3
      have z4 := bel_cell hbr x4
      have z5 := bel_cell hbr x5
      have z6 := bel_cell hbr x6
      have z7 := bel_cell hbr x7
      have z8 := bel_cell hbr x8
      have z9 := bel_cell hbr x9
      have z10 := bel_cell hbr x10
      have z11 := bel_cell hbr x11
      have t0 := bel_cell hbr y0
      have t1 := bel_cell hbr y1
      have t2 := bel_cell hbr y2
      have t3 := bel_cell hbr y3
      have fin : Hid (optB o = (b && ((o.v0 == 256 && (o.v1 == 0 && (o.v2 == 0 && o.v3 == 0))) && (decide (o.k = 1) || ((o.c0 == 0 && (o.c1 == 0 && o.c2 == 256)) && (o.w0 == 256 && (o.w1 == 0 && (o.w2 == 0 && o.w3 == 0)))))))) := Lib.hid (by rw [hB.out]; rfl)
      have Ev := fun w => eqArr4 o.v0 o.v1 o.v2 o.v3 256 0 0 0 w
      have Ec := fun w => eqArr3 o.c0 o.c1 o.c2 0 0 256 w
      have Ew := fun w => eqArr4 o.w0 o.w1 o.w2 o.w3 256 0 0 0 w
      clear x0 x1 x2 x3 x4 x5 x6 x7 x8 x9 x10 x11 x12 x13 x14 x15 x16 x17 y0 y1 y2 y3 cW cE cD aC Hh hB
      simp only [show ((3 : Nat) : Int) = 3 from rfl]
      obtain ⟨dv, hdv⟩ : ∃ dv, (o.v0 == 256 && (o.v1 == 0 && (o.v2 == 0 && o.v3 == 0))) = dv := ⟨_, rfl⟩
      obtain ⟨dc, hdc⟩ : ∃ dc, (o.c0 == 0 && (o.c1 == 0 && o.c2 == 256)) = dc := ⟨_, rfl⟩
      obtain ⟨dw, hdw⟩ : ∃ dw, (o.w0 == 256 && (o.w1 == 0 && (o.w2 == 0 && o.w3 == 0))) = dw := ⟨_, rfl⟩
      simp only [hdv] at Ev
      simp only [hdc] at Ec
      simp only [hdw] at Ew
      have fin2 : Hid (optB o = (b && (dv && (decide (o.k = 1) || (dc && dw))))) := Lib.hid (by rw [fin.out, hdv, hdc, hdw])
      clear hdv hdc hdw fin
      by_cases hk1 : o.k = 1
      · have kb : (o.k == 1) = true := by simpa using hk1
        have Kd := Lib.hid (decide_eq_true hk1)
        clear hk1
        cases b <;> cases dv
        all_goals (
          go_wp2_with fail
          go_ret
          exact ⟨ret_int (by unfold optE; rw [fin2.out, Kd.out]; rfl), q9⟩)
      · have kb : (o.k == 1) = false := by simpa using hk1
        have Kd := Lib.hid (decide_eq_false hk1)
        clear hk1
        cases b <;> cases dv <;> cases dc <;> cases dw
        all_goals (
          go_wp2_with fail
          go_ret
          exact ⟨ret_int (by unfold optE; rw [fin2.out, Kd.out]; rfl), q9⟩)

end Go.Proofs.YteoaaphjbggobaaGreat
