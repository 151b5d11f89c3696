/- Contracts of sift.checkGains and of the reference's gains. For any arrangement and gains. -/
import Derived.Test.YtbobbcfjjdmdgaaOptD
namespace Go.Proofs.Ytbobbcfjjdmdgaa
open Go.RowKit
set_option linter.unusedVariables false
set_option linter.unusedSimpArgs false

/-- Gains: a what was sent, h what was heard, x what was wrong. -/
structure Gn where
  a0 : Int
  h0 : Int
  x0 : Int
  a1 : Int
  h1 : Int
  x1 : Int
  a2 : Int
  h2 : Int
  x2 : Int
def Gn.val (g : Gn) : Value := .agg #[.int .i64 g.a0, .int .i64 g.h0, .int .i64 g.x0, .int .i64 g.a1, .int .i64 g.h1, .int .i64 g.x1, .int .i64 g.a2, .int .i64 g.h2, .int .i64 g.x2]
def okG (a h x : Int) : Prop := 0 ≤ x ∧ x ≤ h ∧ h ≤ a ∧ a ≤ 4096
instance (a h x : Int) : Decidable (okG a h x) := by unfold okG; infer_instance
def allG (g : Gn) : Nat → Prop
  | 0 => True
  | 1 => okG g.a0 g.h0 g.x0
  | 2 => okG g.a0 g.h0 g.x0 ∧ okG g.a1 g.h1 g.x1
  | _ => okG g.a0 g.h0 g.x0 ∧ okG g.a1 g.h1 g.x1 ∧ okG g.a2 g.h2 g.x2
def someG (g : Gn) : Nat → Prop
  | 0 => True
  | 1 => g.a0 ≠ 0
  | 2 => g.a0 ≠ 0 ∧ g.a1 ≠ 0
  | _ => g.a0 ≠ 0 ∧ g.a1 ≠ 0 ∧ g.a2 ≠ 0
def gainsE (o : Opt) (g : Gn) : Int := if suitE o ≠ 0 then suitE o else if ¬ (okG g.a0 g.h0 g.x0 ∧ okG g.a1 g.h1 g.x1 ∧ okG g.a2 g.h2 g.x2) then 2 else if ¬ (g.a0 ≠ 0 ∧ g.a1 ≠ 0 ∧ g.a2 ≠ 0) then 9 else 0
theorem okG_no {a h x : Int} (h0 : ¬ okG a h x) : x < 0 ∨ (¬ x < 0 ∧ h < x) ∨ (¬ x < 0 ∧ ¬ h < x ∧ a < h) ∨ (¬ x < 0 ∧ ¬ h < x ∧ ¬ a < h ∧ 4096 < a) := by
  unfold okG at h0
  omega
@[go_sem] theorem idxG0 (b0 b1 b2 b3 b4 b5 b6 b7 b8 : Value) (w : World) : (Instr.index 35 (.agg #[b0, b1, b2, b3, b4, b5, b6, b7, b8]) (.int .i64 0)).run Try.prog w = .ok (.agg #[b0, b1, b2]) w := by kernel_rfl
@[go_sem] theorem idxG1 (b0 b1 b2 b3 b4 b5 b6 b7 b8 : Value) (w : World) : (Instr.index 35 (.agg #[b0, b1, b2, b3, b4, b5, b6, b7, b8]) (.int .i64 1)).run Try.prog w = .ok (.agg #[b3, b4, b5]) w := by kernel_rfl
@[go_sem] theorem idxG2 (b0 b1 b2 b3 b4 b5 b6 b7 b8 : Value) (w : World) : (Instr.index 35 (.agg #[b0, b1, b2, b3, b4, b5, b6, b7, b8]) (.int .i64 2)).run Try.prog w = .ok (.agg #[b6, b7, b8]) w := by kernel_rfl
/-- Gains in a box. -/
def GnAt (w : World) (b : Nat) (g : Gn) : Prop := w.heap[b]? = some (.cells #[.int .i64 g.a0, .int .i64 g.h0, .int .i64 g.x0, .int .i64 g.a1, .int .i64 g.h1, .int .i64 g.x1, .int .i64 g.a2, .int .i64 g.h2, .int .i64 g.x2] 35 (0, 0))
theorem GnAt.on {w w' : World} {b : Nat} {g : Gn} (h : GnAt w b g) (hb : Below w.heap.size w w') : GnAt w' b g :=
  (hb.block b (Array.getElem?_eq_some_iff.1 h).1).trans h
theorem GnAt.y0 {w : World} {b : Nat} {g : Gn} (h : GnAt w b g) : w.cell? ⟨b, 0, none⟩ = some (.int .i64 g.a0) := cell_of_row w b 0 _ _ _ h
theorem GnAt.y1 {w : World} {b : Nat} {g : Gn} (h : GnAt w b g) : w.cell? ⟨b, 1, none⟩ = some (.int .i64 g.h0) := cell_of_row w b 1 _ _ _ h
theorem GnAt.y2 {w : World} {b : Nat} {g : Gn} (h : GnAt w b g) : w.cell? ⟨b, 2, none⟩ = some (.int .i64 g.x0) := cell_of_row w b 2 _ _ _ h
theorem GnAt.y3 {w : World} {b : Nat} {g : Gn} (h : GnAt w b g) : w.cell? ⟨b, 3, none⟩ = some (.int .i64 g.a1) := cell_of_row w b 3 _ _ _ h
theorem GnAt.y4 {w : World} {b : Nat} {g : Gn} (h : GnAt w b g) : w.cell? ⟨b, 4, none⟩ = some (.int .i64 g.h1) := cell_of_row w b 4 _ _ _ h
theorem GnAt.y5 {w : World} {b : Nat} {g : Gn} (h : GnAt w b g) : w.cell? ⟨b, 5, none⟩ = some (.int .i64 g.x1) := cell_of_row w b 5 _ _ _ h
theorem GnAt.y6 {w : World} {b : Nat} {g : Gn} (h : GnAt w b g) : w.cell? ⟨b, 6, none⟩ = some (.int .i64 g.a2) := cell_of_row w b 6 _ _ _ h
theorem GnAt.y7 {w : World} {b : Nat} {g : Gn} (h : GnAt w b g) : w.cell? ⟨b, 7, none⟩ = some (.int .i64 g.h2) := cell_of_row w b 7 _ _ _ h
theorem GnAt.y8 {w : World} {b : Nat} {g : Gn} (h : GnAt w b g) : w.cell? ⟨b, 8, none⟩ = some (.int .i64 g.x2) := cell_of_row w b 8 _ _ _ h

set_option maxRecDepth 100000 in
set_option maxHeartbeats 8000000 in
theorem checkGains_any (o : Opt) (g : Gn) (w : World) : Calls Try.prog 47 #[o.val, g.val] w fun e w' => e = .returned (.int .i64 (gainsE o g)) ∧ Below w.heap.size w w' := by
  have hb0 := below_alloc (below_alloc (Below.refl w.heap.size w) (.cells #[.int .i64 o.k, .int .i64 o.c0, .int .i64 o.c1, .int .i64 o.c2, .int .i64 o.v0, .int .i64 o.v1, .int .i64 o.v2, .int .i64 o.v3, .int .i64 o.w0, .int .i64 o.w1, .int .i64 o.w2, .int .i64 o.w3, .int .i64 o.s0, .int .i64 o.s1, .int .i64 o.s2, .int .i64 o.s3, .int .i64 o.eta, .int .i64 o.dark] 26)) (.cells #[.int .i64 g.a0, .int .i64 g.h0, .int .i64 g.x0, .int .i64 g.a1, .int .i64 g.h1, .int .i64 g.x1, .int .i64 g.a2, .int .i64 g.h2, .int .i64 g.x2] 35)
  have cK := fun w' => oSuits_any o w'
  have at0 : OptAt ((w.alloc (.cells #[.int .i64 o.k, .int .i64 o.c0, .int .i64 o.c1, .int .i64 o.c2, .int .i64 o.v0, .int .i64 o.v1, .int .i64 o.v2, .int .i64 o.v3, .int .i64 o.w0, .int .i64 o.w1, .int .i64 o.w2, .int .i64 o.w3, .int .i64 o.s0, .int .i64 o.s1, .int .i64 o.s2, .int .i64 o.s3, .int .i64 o.eta, .int .i64 o.dark] 26)).alloc (.cells #[.int .i64 g.a0, .int .i64 g.h0, .int .i64 g.x0, .int .i64 g.a1, .int .i64 g.h1, .int .i64 g.x1, .int .i64 g.a2, .int .i64 g.h2, .int .i64 g.x2] 35)) w.heap.size o := heap_alloc2_old w _ _
  have gt0 : GnAt ((w.alloc (.cells #[.int .i64 o.k, .int .i64 o.c0, .int .i64 o.c1, .int .i64 o.c2, .int .i64 o.v0, .int .i64 o.v1, .int .i64 o.v2, .int .i64 o.v3, .int .i64 o.w0, .int .i64 o.w1, .int .i64 o.w2, .int .i64 o.w3, .int .i64 o.s0, .int .i64 o.s1, .int .i64 o.s2, .int .i64 o.s3, .int .i64 o.eta, .int .i64 o.dark] 26)).alloc (.cells #[.int .i64 g.a0, .int .i64 g.h0, .int .i64 g.x0, .int .i64 g.a1, .int .i64 g.h1, .int .i64 g.x1, .int .i64 g.a2, .int .i64 g.h2, .int .i64 g.x2] 35)) (w.heap.size + 1) g := heap_alloc2_new w _ _
  unfold Opt.val Opt.cs at *
  unfold Gn.val
  obtain ⟨E, hE⟩ : ∃ E, suitE o = E := ⟨_, rfl⟩
  have gE : gainsE o g = if E ≠ 0 then E else if ¬ (okG g.a0 g.h0 g.x0 ∧ okG g.a1 g.h1 g.x1 ∧ okG g.a2 g.h2 g.x2) then 2 else if ¬ (g.a0 ≠ 0 ∧ g.a1 ≠ 0 ∧ g.a2 ≠ 0) then 9 else 0 := by rw [← hE]; rfl
  rw [hE] at cK
  have GE := Lib.hid gE
  clear hE gE
  have At0 := Lib.hid at0; have Gt0 := Lib.hid gt0
  clear at0 gt0
  go_enter Try.func47, Try.ntmps47
  go_upto_region 1 with fail
  obtain ⟨W, hW⟩ : ∃ W, (w.alloc (.cells #[.int .i64 o.k, .int .i64 o.c0, .int .i64 o.c1, .int .i64 o.c2, .int .i64 o.v0, .int .i64 o.v1, .int .i64 o.v2, .int .i64 o.v3, .int .i64 o.w0, .int .i64 o.w1, .int .i64 o.w2, .int .i64 o.w3, .int .i64 o.s0, .int .i64 o.s1, .int .i64 o.s2, .int .i64 o.s3, .int .i64 o.eta, .int .i64 o.dark] 26)).alloc (.cells #[.int .i64 g.a0, .int .i64 g.h0, .int .i64 g.x0, .int .i64 g.a1, .int .i64 g.h1, .int .i64 g.x1, .int .i64 g.a2, .int .i64 g.h2, .int .i64 g.x2] 35) = W := ⟨_, rfl⟩
  rw [hW] at hb0 At0 Gt0 ⊢
  clear hW
  go_wp2_with (refine wpList_load_row rfl 26 _ rfl w.heap.size rfl 26 _ (0, 0) _ At0.out Try.underlying26 rfl (by kernel_rfl) ?_)
  refine (cK _).mono ?_
  rintro e w2 ⟨rfl, hb2⟩
  have q2 := below_trans hb0 hb2
  have Gt2 := Lib.hid (Gt0.out.on hb2)
  by_cases hE0 : E = 0
  · subst hE0
    go_wp2_with (refine wpList_load_row rfl 35 _ rfl (w.heap.size + 1) rfl 35 _ (0, 0) _ Gt2.out Try.underlying35 rfl (by kernel_rfl) ?_)
    go_loopw [16] (fun iv wr => ∃ k : Nat, k ≤ 3 ∧ iv = .int .i64 k ∧ Hid (allG g k) ∧ Below w2.heap.size w2 wr) (fun iv _ => 3 - (intOf iv).toNat)
    case atStart => exact ⟨0, by omega, rfl, Lib.hid trivial, Below.refl _ _⟩
    case round =>
      obtain ⟨k, hk, rfl, hal, hbr⟩ := hrel
      obtain ⟨w6, rfl⟩ : ∃ w6, w6 = wr := ⟨_, rfl⟩
      have q6 := below_trans q2 hbr
      rcases (show k = 0 ∨ k = 1 ∨ k = 2 ∨ k = 3 by omega) with rfl | rfl | rfl | rfl
      · have hbn := below_alloc hbr (.cells #[.int .i64 g.a0, .int .i64 g.h0, .int .i64 g.x0] 34)
        have qn := below_alloc q6 (.cells #[.int .i64 g.a0, .int .i64 g.h0, .int .i64 g.x0] 34)
        simp only [show ((0 : Nat) : Int) = 0 from rfl]
        by_cases hok : okG g.a0 g.h0 g.x0
        · have nx : Hid (allG g (0 + 1)) := Lib.hid ((fun h => h) hok)
          obtain ⟨e1, e2, e3, e4⟩ := hok
          go_wp2_with fail
          exact ⟨⟨0 + 1, by omega, rfl, nx, hbn⟩, by simp [intOf]⟩
        · have E2 : Hid (gainsE o g = 2) := Lib.hid (by rw [GE.out, if_neg (by simp), if_pos (fun h => hok h.1)])
          rcases okG_no hok with h1 | ⟨h1, h2⟩ | ⟨h1, h2, h3⟩ | ⟨h1, h2, h3, h4⟩
          all_goals (
            clear hok
            go_wp2_with fail
            go_ret
            exact ⟨ret_int E2.out.symm, qn⟩)
      · have hbn := below_alloc hbr (.cells #[.int .i64 g.a1, .int .i64 g.h1, .int .i64 g.x1] 34)
        have qn := below_alloc q6 (.cells #[.int .i64 g.a1, .int .i64 g.h1, .int .i64 g.x1] 34)
        simp only [show ((1 : Nat) : Int) = 1 from rfl]
        by_cases hok : okG g.a1 g.h1 g.x1
        · have nx : Hid (allG g (1 + 1)) := Lib.hid ((fun h => ⟨hal.out, h⟩) hok)
          obtain ⟨e1, e2, e3, e4⟩ := hok
          go_wp2_with fail
          exact ⟨⟨1 + 1, by omega, rfl, nx, hbn⟩, by simp [intOf]⟩
        · have E2 : Hid (gainsE o g = 2) := Lib.hid (by rw [GE.out, if_neg (by simp), if_pos (fun h => hok h.2.1)])
          rcases okG_no hok with h1 | ⟨h1, h2⟩ | ⟨h1, h2, h3⟩ | ⟨h1, h2, h3, h4⟩
          all_goals (
            clear hok
            go_wp2_with fail
            go_ret
            exact ⟨ret_int E2.out.symm, qn⟩)
      · have hbn := below_alloc hbr (.cells #[.int .i64 g.a2, .int .i64 g.h2, .int .i64 g.x2] 34)
        have qn := below_alloc q6 (.cells #[.int .i64 g.a2, .int .i64 g.h2, .int .i64 g.x2] 34)
        simp only [show ((2 : Nat) : Int) = 2 from rfl]
        by_cases hok : okG g.a2 g.h2 g.x2
        · have nx : Hid (allG g (2 + 1)) := Lib.hid ((fun h => ⟨hal.out.1, hal.out.2, h⟩) hok)
          obtain ⟨e1, e2, e3, e4⟩ := hok
          go_wp2_with fail
          exact ⟨⟨2 + 1, by omega, rfl, nx, hbn⟩, by simp [intOf]⟩
        · have E2 : Hid (gainsE o g = 2) := Lib.hid (by rw [GE.out, if_neg (by simp), if_pos (fun h => hok h.2.2)])
          rcases okG_no hok with h1 | ⟨h1, h2⟩ | ⟨h1, h2, h3⟩ | ⟨h1, h2, h3, h4⟩
          all_goals (
            clear hok
            go_wp2_with fail
            go_ret
            exact ⟨ret_int E2.out.symm, qn⟩)
      · have Gt6 := Lib.hid (Gt2.out.on hbr)
        have HA : Hid (okG g.a0 g.h0 g.x0 ∧ okG g.a1 g.h1 g.x1 ∧ okG g.a2 g.h2 g.x2) := hal
        simp only [show ((3 : Nat) : Int) = 3 from rfl]
        go_wp2_with (refine wpList_load_row rfl 35 _ rfl (w.heap.size + 1) rfl 35 _ (0, 0) _ Gt6.out Try.underlying35 rfl (by kernel_rfl) ?_)
        go_loopw [43] (fun iv wr => ∃ k : Nat, k ≤ 3 ∧ iv = .int .i64 k ∧ Hid (someG g k) ∧ Below w6.heap.size w6 wr) (fun iv _ => 3 - (intOf iv).toNat)
        case atStart => exact ⟨0, by omega, rfl, Lib.hid trivial, Below.refl _ _⟩
        case round =>
          obtain ⟨k, hk, rfl, hso, hbs⟩ := hrel
          obtain ⟨w8, rfl⟩ : ∃ w8, w8 = wr := ⟨_, rfl⟩
          have q8 := below_trans q6 hbs
          rcases (show k = 0 ∨ k = 1 ∨ k = 2 ∨ k = 3 by omega) with rfl | rfl | rfl | rfl
          · have hbn := below_alloc hbs (.cells #[.int .i64 g.a0, .int .i64 g.h0, .int .i64 g.x0] 34)
            have qn := below_alloc q8 (.cells #[.int .i64 g.a0, .int .i64 g.h0, .int .i64 g.x0] 34)
            simp only [show ((0 : Nat) : Int) = 0 from rfl]
            by_cases hz : g.a0 = 0
            · have E9 : Hid (gainsE o g = 9) := Lib.hid (by rw [GE.out, if_neg (by simp), if_neg (by simp [HA.out]), if_pos (fun h => h.1 hz)])
              have hzb : (g.a0 == 0) = true := by simpa using hz
              clear hz
              go_wp2_with fail
              go_ret
              exact ⟨ret_int E9.out.symm, qn⟩
            · have nx : Hid (someG g (0 + 1)) := Lib.hid ((fun h => h) hz)
              have hzb : (g.a0 == 0) = false := by simpa using hz
              clear hz
              go_wp2_with fail
              exact ⟨⟨0 + 1, by omega, rfl, nx, hbn⟩, by simp [intOf]⟩
          · have hbn := below_alloc hbs (.cells #[.int .i64 g.a1, .int .i64 g.h1, .int .i64 g.x1] 34)
            have qn := below_alloc q8 (.cells #[.int .i64 g.a1, .int .i64 g.h1, .int .i64 g.x1] 34)
            simp only [show ((1 : Nat) : Int) = 1 from rfl]
            by_cases hz : g.a1 = 0
            · have E9 : Hid (gainsE o g = 9) := Lib.hid (by rw [GE.out, if_neg (by simp), if_neg (by simp [HA.out]), if_pos (fun h => h.2.1 hz)])
              have hzb : (g.a1 == 0) = true := by simpa using hz
              clear hz
              go_wp2_with fail
              go_ret
              exact ⟨ret_int E9.out.symm, qn⟩
            · have nx : Hid (someG g (1 + 1)) := Lib.hid ((fun h => ⟨hso.out, h⟩) hz)
              have hzb : (g.a1 == 0) = false := by simpa using hz
              clear hz
              go_wp2_with fail
              exact ⟨⟨1 + 1, by omega, rfl, nx, hbn⟩, by simp [intOf]⟩
          · have hbn := below_alloc hbs (.cells #[.int .i64 g.a2, .int .i64 g.h2, .int .i64 g.x2] 34)
            have qn := below_alloc q8 (.cells #[.int .i64 g.a2, .int .i64 g.h2, .int .i64 g.x2] 34)
            simp only [show ((2 : Nat) : Int) = 2 from rfl]
            by_cases hz : g.a2 = 0
            · have E9 : Hid (gainsE o g = 9) := Lib.hid (by rw [GE.out, if_neg (by simp), if_neg (by simp [HA.out]), if_pos (fun h => h.2.2 hz)])
              have hzb : (g.a2 == 0) = true := by simpa using hz
              clear hz
              go_wp2_with fail
              go_ret
              exact ⟨ret_int E9.out.symm, qn⟩
            · have nx : Hid (someG g (2 + 1)) := Lib.hid ((fun h => ⟨hso.out.1, hso.out.2, h⟩) hz)
              have hzb : (g.a2 == 0) = false := by simpa using hz
              clear hz
              go_wp2_with fail
              exact ⟨⟨2 + 1, by omega, rfl, nx, hbn⟩, by simp [intOf]⟩
          · have E0 : Hid (gainsE o g = 0) := Lib.hid (by rw [GE.out, if_neg (by simp), if_neg (by simp [HA.out]), if_neg (fun hn => hn hso.out)])
            simp only [show ((3 : Nat) : Int) = 3 from rfl]
            go_wp2_with fail
            go_ret
            exact ⟨ret_int E0.out.symm, q8⟩
  · have E1 : Hid (gainsE o g = E) := Lib.hid (by rw [GE.out, if_pos hE0])
    have hne : (E != 0) = true := by rw [bne_iff_ne]; exact hE0
    clear hE0
    go_wp2_with fail
    go_ret
    exact ⟨ret_int E1.out.symm, q2⟩

end Go.Proofs.Ytbobbcfjjdmdgaa
