/- Contract of the reference's brought. For 64-bit numbers with a positive denominator. -/
import Derived.Test.YtbobbcfjjdmdgaaRcdA
import Derived.Test.YtbobbcfjjdmdgaaRefJ
import Derived.Test.YtbobbcfjjdmdgaaRefAll
namespace Go.Proofs.Ytbobbcfjjdmdgaa
open Go.RowKit
set_option linter.unusedVariables false
set_option linter.unusedSimpArgs false

theorem results_cell1 {fn : Func} {p : Tmp} {ty : TypeId} (h : fn.results = #[.cell p ty]) (tmps : Array Value) (P : Program) (w : World) :
    (results fn tmps).run P w =
      ((asAddr (tmps.getD p undef)).run P w).andThen fun a w₁ => (loadVar ty a).run P w₁ := by
  simp only [results, h]
  simp [Sem.run_bind, Result.andThen]
/-- The numerator that brought takes. -/
def brtN (num : Int) (D : Nat) : Nat := (max 0 (min num (D : Int))).toNat
theorem one_valid {f : Frc} (h1 : f.l.length ≤ 64) (h2 : f.m.length ≤ 64) (h5 : 0 < V f.m) : validE [f] = 0 := by
  refine validE_zero.2 ⟨?_, ?_⟩
  · simp [Frc.lng]; omega
  · simp [Frc.zro]; omega
theorem small_64 {n : Nat} (h : n < 18446744073709551616) : (limbs n).length ≤ 64 ∧ (dg n).length ≤ 256 :=
  ⟨Nat.le_trans (limbs_le_of (k := 2) (Nat.lt_of_lt_of_le h (by decide))) (by decide), Nat.le_trans (dg_len (m := 64) (k := 8) h (by decide)) (by decide)⟩

set_option maxRecDepth 100000 in
set_option maxHeartbeats 4000000 in
theorem brought_any (num : Int) (D : Nat) (w : World) (hD : 0 < D) (hD2 : D < 9223372036854775808) (hn : -9223372036854775808 ≤ num ∧ num < 9223372036854775808) :
    Calls Try.prog 58 #[.int .i64 num, .int .i64 (D : Int)] w fun e w' => ∃ v1 v2, e = .returned (.agg #[v1, v2]) ∧ Big w' w.heap.size v1 (rdN (brtN num D) D) ∧ Big w' w.heap.size v2 (rdD (brtN num D) D) ∧ Below w.heap.size w w' := by
  have hm : brtN num D ≤ D := by unfold brtN; omega
  obtain ⟨M, hM⟩ : ∃ M, brtN num D = M := ⟨_, rfl⟩
  have hMi : (if 0 < if (D : Int) < num then (D : Int) else num then if (D : Int) < num then (D : Int) else num else 0) = (M : Int) := by
    rw [← hM]; unfold brtN
    split <;> split <;> (try split) <;> omega
  rw [hM] at hm ⊢
  have c1 := fun w' => rOf_any M w' (by omega)
  have c2 := fun w' => rOf_any D w' (by omega)
  have rl := rd_le M D
  have sM := small_64 (n := M) (by omega)
  have sD := small_64 (n := D) (by omega)
  have sN := small_64 (n := rdN M D) (by omega)
  have sE := small_64 (n := rdD M D) (by omega)
  have cR := fun w' A a C c (h1 : Nt w' A a (limbs M)) (h2 : Nt w' C c (limbs D)) => rReduce_any ⟨A, a, limbs M, C, c, limbs D⟩ w' ⟨h1, h2⟩ (one_valid sM.1 sD.1 (by simp only [V_limbs]; exact hD)) (by simp only [V_limbs]; exact hD) (by simp only [V_limbs]; exact sN.2) (by simp only [V_limbs]; exact sE.2)
  unfold FrR Frc.val at cR
  simp only [V_limbs] at cR
  have wM : IntKind.u64.wrap (M : Int) = (M : Int) := wrapU rfl (by omega)
  have wD : IntKind.u64.wrap (D : Int) = (D : Int) := wrapU rfl (by omega)
  obtain ⟨N1, hN1⟩ : ∃ N1, rdN M D = N1 := ⟨_, rfl⟩
  obtain ⟨D1, hD1⟩ : ∃ D1, rdD M D = D1 := ⟨_, rfl⟩
  simp only [hN1, hD1] at cR ⊢
  clear sM sD sN sE rl hN1 hD1 hM
  have HMI := Lib.hid hMi
  clear hMi
  have end_ : True := trivial
  go_enter Try.func58, Try.ntmps58
  go_upto_region 2 with fail
  rw [HMI.out]
  clear HMI
  generalize (if (D : Int) < num then (D : Int) else num) = zz
  have al := below_alloc (Below.refl w.heap.size w) (.cells #[.slice none 0 0, .slice none 0 0] 39)
  obtain ⟨W, hW⟩ : ∃ W, w.alloc (.cells #[.slice none 0 0, .slice none 0 0] 39) = W := ⟨_, rfl⟩
  have r0 : W.cell? ⟨w.heap.size, 0, none⟩ = some (.slice none 0 0) ∧ W.frozen? ⟨w.heap.size, 0, none⟩ = false := by subst hW; exact ⟨by go_simp, by go_simp⟩
  have r1 : W.cell? ⟨w.heap.size, 1, none⟩ = some (.slice none 0 0) ∧ W.frozen? ⟨w.heap.size, 1, none⟩ = false := by subst hW; exact ⟨by go_simp, by go_simp⟩
  rw [hW] at al ⊢
  clear hW hn hm
  go_wp2_with fail
  refine (c1 _).mono ?_
  rintro e y1 ⟨v1, rfl, b1, hx1⟩
  obtain ⟨A1, a1, rfl, n1⟩ := b1.nt
  go_wp2_with fail
  refine (c2 _).mono ?_
  rintro e y2 ⟨v2, rfl, b2, hx2⟩
  obtain ⟨A2, a2, rfl, n2⟩ := b2.nt
  go_wp2_with fail
  refine (cR y2 A1 a1 A2 a2 (n1.on hx2) n2).mono ?_
  rintro e y3 ⟨v3, v4, rfl, b3, b4, hx3⟩
  obtain ⟨A3, a3, rfl, n3⟩ := b3.nt
  obtain ⟨A4, a4, rfl, n4⟩ := b4.nt
  have q3 := below_trans hx1 (below_trans hx2 hx3)
  have s0 : w.heap.size < W.heap.size := World.block_lt_of_cell? _ _ r0.1
  have s2 : W.heap.size ≤ y2.heap.size := (below_trans hx1 hx2).size
  have k0 := bel_cell q3 r0.1
  have k1 := bel_cell q3 r1.1
  have z0 := (q3.frozen (p := ⟨w.heap.size, 0, none⟩) s0).trans r0.2
  have z1 := (q3.frozen (p := ⟨w.heap.size, 1, none⟩) s0).trans r1.2
  have sz3 : w.heap.size < y3.heap.size := World.block_lt_of_cell? _ _ k0
  have sl : w.heap.size < y2.heap.size := Nat.lt_of_lt_of_le s0 s2
  have F1 := Big.down (base' := w.heap.size) (Own.alloc (big_set2 b3 (g := w.heap.size) sl (.slice A3 (limbs N1).length a3) (.slice A4 (limbs D1).length a4)) (.cells #[.slice A3 (limbs N1).length a3, .slice A4 (limbs D1).length a4] 39)) (Nat.le_of_lt sl)
  have F2 := Big.down (base' := w.heap.size) (Own.alloc (big_set2 b4 (g := w.heap.size) sl (.slice A3 (limbs N1).length a3) (.slice A4 (limbs D1).length a4)) (.cells #[.slice A3 (limbs N1).length a3, .slice A4 (limbs D1).length a4] 39)) (Nat.le_of_lt sl)
  have F3 := below_alloc (((below_trans al q3).setCell (p := ⟨w.heap.size, 0, none⟩) (Nat.le_refl _) (.slice A3 (limbs N1).length a3)).setCell (p := ⟨w.heap.size, 1, none⟩) (Nat.le_refl _) (.slice A4 (limbs D1).length a4)) (.cells #[.slice A3 (limbs N1).length a3, .slice A4 (limbs D1).length a4] 39)
  go_wp2_with fail
  (try simp only [Exit.inBlock, Exit.then])
  refine bodyPost_ret (v := .agg #[.slice A3 (limbs N1).length a3, .slice A4 (limbs D1).length a4]) ?_ rfl ⟨_, _, rfl, F1, F2, F3⟩
  rw [results_cell1 rfl]
  go_simp

end Go.Proofs.Ytbobbcfjjdmdgaa
