/- Contract of the reference's Check. For any arrangement. -/
import Derived.Test.YteoaaphjbggobaaOptB
namespace Go.Proofs.Yteoaaphjbggobaa
open Go.RowKit
set_option linter.unusedVariables false
set_option linter.unusedSimpArgs false

theorem no_two {k w : Int} (hk : ¬ k = 1) (hw : ¬ w = 256) : ¬ ((k != 1) = false ∨ (w != 256) = false) := by simp [hk, hw]
theorem wt_dull {a b c d : Int} (h : wtB [a, b, c, d] = true) : dullB a b c d = (a == 256) := by
  unfold wtB partB at h
  simp at h
  unfold dullB
  rw [Bool.eq_iff_iff]
  simp
  omega
theorem wt_cls {a b c : Int} (h : wtB [a, b, c] = true) : (a == 0 && (b == 0 && c == 256)) = (c == 256) := by
  unfold wtB partB at h
  simp at h
  rw [Bool.eq_iff_iff]
  simp
  omega
theorem opt_ref (o : Opt) : optB o = (headB o && (wtB [o.v0, o.v1, o.v2, o.v3] && (wtB [o.w0, o.w1, o.w2, o.w3] && (wtB [o.s0, o.s1, o.s2, o.s3] && (o.v0 == 256 && (decide (o.k = 1) || (o.c2 == 256 && o.w0 == 256))))))) := by
  have e : okTo o 3 = (((headB o && wtB [o.v0, o.v1, o.v2, o.v3]) && wtB [o.w0, o.w1, o.w2, o.w3]) && wtB [o.s0, o.s1, o.s2, o.s3]) := rfl
  unfold optB
  rw [e]
  cases hv : wtB [o.v0, o.v1, o.v2, o.v3]
  · simp
  · cases hw : wtB [o.w0, o.w1, o.w2, o.w3]
    · simp
    · cases hs : wtB [o.s0, o.s1, o.s2, o.s3]
      · simp
      · rw [wt_dull hv, wt_dull hw]
        cases hh : headB o
        · simp
        · have hc : wtB [o.c0, o.c1, o.c2] = true := by
            unfold headB at hh
            simp at hh
            exact hh.2.1
          rw [wt_cls hc]
          simp

set_option maxRecDepth 100000 in
set_option maxHeartbeats 8000000 in
theorem rCheck_any (o : Opt) (w : World) : Calls Try.prog 6 #[o.val] w fun e w' => e = .returned (.int .i64 (optE o)) ∧ Below w.heap.size w w' := by
  have hb0 := below_alloc (Below.refl w.heap.size w) (.cells o.cs 26)
  unfold Opt.val Opt.cs at *
  go_enter Try.func6, Try.ntmps6
  go_upto_region 1 with fail
  obtain ⟨W, hW⟩ : ∃ W, (w.alloc (.cells #[.int .i64 o.k, .int .i64 o.c0, .int .i64 o.c1, .int .i64 o.c2, .int .i64 o.v0, .int .i64 o.v1, .int .i64 o.v2, .int .i64 o.v3, .int .i64 o.w0, .int .i64 o.w1, .int .i64 o.w2, .int .i64 o.w3, .int .i64 o.s0, .int .i64 o.s1, .int .i64 o.s2, .int .i64 o.s3, .int .i64 o.eta, .int .i64 o.dark] 26)) = W := ⟨_, rfl⟩
  have x0 : W.cell? ⟨w.heap.size, 0, none⟩ = some (.int .i64 o.k) := by subst hW; go_simp
  have x1 : W.cell? ⟨w.heap.size, 1, none⟩ = some (.int .i64 o.c0) := by subst hW; go_simp
  have x2 : W.cell? ⟨w.heap.size, 2, none⟩ = some (.int .i64 o.c1) := by subst hW; go_simp
  have x3 : W.cell? ⟨w.heap.size, 3, none⟩ = some (.int .i64 o.c2) := by subst hW; go_simp
  have x4 : W.cell? ⟨w.heap.size, 4, none⟩ = some (.int .i64 o.v0) := by subst hW; go_simp
  have x5 : W.cell? ⟨w.heap.size, 5, none⟩ = some (.int .i64 o.v1) := by subst hW; go_simp
  have x6 : W.cell? ⟨w.heap.size, 6, none⟩ = some (.int .i64 o.v2) := by subst hW; go_simp
  have x7 : W.cell? ⟨w.heap.size, 7, none⟩ = some (.int .i64 o.v3) := by subst hW; go_simp
  have x8 : W.cell? ⟨w.heap.size, 8, none⟩ = some (.int .i64 o.w0) := by subst hW; go_simp
  have x9 : W.cell? ⟨w.heap.size, 9, none⟩ = some (.int .i64 o.w1) := by subst hW; go_simp
  have x10 : W.cell? ⟨w.heap.size, 10, none⟩ = some (.int .i64 o.w2) := by subst hW; go_simp
  have x11 : W.cell? ⟨w.heap.size, 11, none⟩ = some (.int .i64 o.w3) := by subst hW; go_simp
  have x12 : W.cell? ⟨w.heap.size, 12, none⟩ = some (.int .i64 o.s0) := by subst hW; go_simp
  have x13 : W.cell? ⟨w.heap.size, 13, none⟩ = some (.int .i64 o.s1) := by subst hW; go_simp
  have x14 : W.cell? ⟨w.heap.size, 14, none⟩ = some (.int .i64 o.s2) := by subst hW; go_simp
  have x15 : W.cell? ⟨w.heap.size, 15, none⟩ = some (.int .i64 o.s3) := by subst hW; go_simp
  have x16 : W.cell? ⟨w.heap.size, 16, none⟩ = some (.int .i64 o.eta) := by subst hW; go_simp
  have x17 : W.cell? ⟨w.heap.size, 17, none⟩ = some (.int .i64 o.dark) := by subst hW; go_simp
  rw [hW] at hb0 ⊢
  clear hW
  have aC := box3 x1 x2 x3
  have cW := rowR_any (some ⟨w.heap.size, 1, none⟩) 3 3 _ W aC rfl (by decide)
  have cE := rPart_any o.eta W
  have cD := rPart_any o.dark W
  have fin : optB o = (headB o && (wtB [o.v0, o.v1, o.v2, o.v3] && (wtB [o.w0, o.w1, o.w2, o.w3] && (wtB [o.s0, o.s1, o.s2, o.s3] && (o.v0 == 256 && (decide (o.k = 1) || (o.c2 == 256 && o.w0 == 256))))))) := opt_ref o
  have hh : headB o = (decide (0 ≤ o.k ∧ o.k ≤ 2) && (wtB [o.c0, o.c1, o.c2] && (partB o.eta && partB o.dark))) := rfl
  generalize wtB [o.c0, o.c1, o.c2] = h2 at *
  generalize partB o.eta = h3 at *
  generalize partB o.dark = h4 at *
  have Hh := Lib.hid hh
  clear hh
  by_cases hgood : (0 ≤ o.k ∧ o.k ≤ 2) ∧ h2 = true ∧ h3 = true ∧ h4 = true
  · obtain ⟨⟨k0, k2⟩, rfl, rfl, rfl⟩ := hgood
    have hd : Hid (okTo o 0 = true) := Lib.hid (by show headB o = true; rw [Hh.out, decide_eq_true ⟨k0, k2⟩]; rfl)
    have Fin := Lib.hid fin
    clear fin
    go_wp2_with (first
          | (go_at_call 33; refine (cW).mono ?_; rintro e w' ⟨rfl, rfl⟩)
          | (go_at_call 34; refine Calls.on (args' := #[.int .i64 o.eta]) rfl ?_; refine cE.mono ?_; rintro e w' ⟨rfl, rfl⟩)
          | (go_at_call 34; refine Calls.on (args' := #[.int .i64 o.dark]) rfl ?_; refine cD.mono ?_; rintro e w' ⟨rfl, rfl⟩))
    have fin := Fin.out
    go_loop [3] (fun iv => ∃ k : Nat, k ≤ 3 ∧ iv = .int .i64 k ∧ Hid (okTo o k = true)) (fun iv => 3 - (intOf iv).toNat)
    case atStart => exact ⟨0, by omega, rfl, hd⟩
    case round =>
      obtain ⟨k, hk, rfl, hk2⟩ := hrel
      rcases (show k = 0 ∨ k = 1 ∨ k = 2 ∨ k = 3 by omega) with rfl | rfl | rfl | rfl
      · have cB := rowR_any (some ⟨w.heap.size, 4, none⟩) 4 4 [o.v0, o.v1, o.v2, o.v3] W (box4 x4 x5 x6 x7) rfl (by decide)
        cases hr : wtB [o.v0, o.v1, o.v2, o.v3]
        · rw [hr] at cB
          have E2 : Hid (optE o = 2) := Lib.hid (by unfold optE; rw [fin, hr]; simp)
          clear fin hr
          simp only [show ((0 : Nat) : Int) = 0 from rfl]
          go_wp2_with (go_at_call 33; refine (cB).mono ?_; rintro e w' ⟨rfl, rfl⟩)
          go_ret
          exact ⟨ret_int E2.out.symm, hb0⟩
        · rw [hr] at cB
          have nx : Hid (okTo o (0 + 1) = true) := Lib.hid (by show (okTo o 0 && wtB [o.v0, o.v1, o.v2, o.v3]) = true; rw [hk2.out, hr]; rfl)
          clear fin hr
          simp only [show ((0 : Nat) : Int) = 0 from rfl]
          go_wp2_with (go_at_call 33; refine (cB).mono ?_; rintro e w' ⟨rfl, rfl⟩)
          exact ⟨⟨0 + 1, by omega, rfl, nx⟩, by simp [intOf]⟩
      · have cB := rowR_any (some ⟨w.heap.size, 8, none⟩) 4 4 [o.w0, o.w1, o.w2, o.w3] W (box4 x8 x9 x10 x11) rfl (by decide)
        cases hr : wtB [o.w0, o.w1, o.w2, o.w3]
        · rw [hr] at cB
          have E2 : Hid (optE o = 2) := Lib.hid (by unfold optE; rw [fin, hr]; simp)
          clear fin hr
          simp only [show ((1 : Nat) : Int) = 1 from rfl]
          go_wp2_with (go_at_call 33; refine (cB).mono ?_; rintro e w' ⟨rfl, rfl⟩)
          go_ret
          exact ⟨ret_int E2.out.symm, hb0⟩
        · rw [hr] at cB
          have nx : Hid (okTo o (1 + 1) = true) := Lib.hid (by show (okTo o 1 && wtB [o.w0, o.w1, o.w2, o.w3]) = true; rw [hk2.out, hr]; rfl)
          clear fin hr
          simp only [show ((1 : Nat) : Int) = 1 from rfl]
          go_wp2_with (go_at_call 33; refine (cB).mono ?_; rintro e w' ⟨rfl, rfl⟩)
          exact ⟨⟨1 + 1, by omega, rfl, nx⟩, by simp [intOf]⟩
      · have cB := rowR_any (some ⟨w.heap.size, 12, none⟩) 4 4 [o.s0, o.s1, o.s2, o.s3] W (box4 x12 x13 x14 x15) rfl (by decide)
        cases hr : wtB [o.s0, o.s1, o.s2, o.s3]
        · rw [hr] at cB
          have E2 : Hid (optE o = 2) := Lib.hid (by unfold optE; rw [fin, hr]; simp)
          clear fin hr
          simp only [show ((2 : Nat) : Int) = 2 from rfl]
          go_wp2_with (go_at_call 33; refine (cB).mono ?_; rintro e w' ⟨rfl, rfl⟩)
          go_ret
          exact ⟨ret_int E2.out.symm, hb0⟩
        · rw [hr] at cB
          have nx : Hid (okTo o (2 + 1) = true) := Lib.hid (by show (okTo o 2 && wtB [o.s0, o.s1, o.s2, o.s3]) = true; rw [hk2.out, hr]; rfl)
          clear fin hr
          simp only [show ((2 : Nat) : Int) = 2 from rfl]
          go_wp2_with (go_at_call 33; refine (cB).mono ?_; rintro e w' ⟨rfl, rfl⟩)
          exact ⟨⟨2 + 1, by omega, rfl, nx⟩, by simp [intOf]⟩
      · have e3 : headB o = true ∧ wtB [o.v0, o.v1, o.v2, o.v3] = true ∧ wtB [o.w0, o.w1, o.w2, o.w3] = true ∧ wtB [o.s0, o.s1, o.s2, o.s3] = true := by
          have h : (((headB o && wtB [o.v0, o.v1, o.v2, o.v3]) && wtB [o.w0, o.w1, o.w2, o.w3]) && wtB [o.s0, o.s1, o.s2, o.s3]) = true := hk2.out
          simp at h
          exact ⟨h.1.1.1, h.1.1.2, h.1.2, h.2⟩
        rw [e3.1, e3.2.1, e3.2.2.1, e3.2.2.2] at fin
        clear e3 cW cE cD aC
        have EV : Hid (optE o = (if o.v0 = 256 ∧ (o.k = 1 ∨ (o.c2 = 256 ∧ o.w0 = 256)) then 0 else 2)) := Lib.hid (by unfold optE; rw [fin]; simp)
        clear fin
        simp only [show ((3 : Nat) : Int) = 3 from rfl]
        by_cases pv : o.v0 = 256 <;> by_cases hk1 : o.k = 1 <;> by_cases pc : o.c2 = 256 <;> by_cases pw : o.w0 = 256
        all_goals (
          go_wp2_with fail
          all_goals first
            | (rename_i hx hy
               first
               | exact absurd hx (no_two hk1 pw)
               | exact absurd hy (no_two hk1 pw))
            | (go_ret
               exact ⟨ret_int (by rw [EV.out]; simp [pv, pc, pw, hk1]), hb0⟩))
  · have E2 : Hid (optE o = 2) := Lib.hid (by
      have hf : headB o = false := by
        rw [Hh.out]
        cases hd : (decide (0 ≤ o.k ∧ o.k ≤ 2) && (h2 && (h3 && h4)))
        · rfl
        · simp at hd
          exact (hgood ⟨hd.1, hd.2.1, hd.2.2.1, hd.2.2.2⟩).elim
      unfold optE
      rw [fin, hf]
      rfl)
    have Hg := Lib.hid hgood
    clear hgood fin Hh
    by_cases k0 : 0 ≤ o.k
    · by_cases k2 : o.k ≤ 2
      · cases h2 <;> cases h3 <;> cases h4
        all_goals first
          | (exact absurd ⟨⟨k0, k2⟩, rfl, rfl, rfl⟩ Hg.out)
          | (go_wp2_with (first
          | (go_at_call 33; refine (cW).mono ?_; rintro e w' ⟨rfl, rfl⟩)
          | (go_at_call 34; refine Calls.on (args' := #[.int .i64 o.eta]) rfl ?_; refine cE.mono ?_; rintro e w' ⟨rfl, rfl⟩)
          | (go_at_call 34; refine Calls.on (args' := #[.int .i64 o.dark]) rfl ?_; refine cD.mono ?_; rintro e w' ⟨rfl, rfl⟩))
             go_ret
             exact ⟨ret_int E2.out.symm, hb0⟩)
      · go_wp2_with fail
        go_ret
        exact ⟨ret_int E2.out.symm, hb0⟩
    · go_wp2_with fail
      go_ret
      exact ⟨ret_int E2.out.symm, hb0⟩

end Go.Proofs.Yteoaaphjbggobaa
