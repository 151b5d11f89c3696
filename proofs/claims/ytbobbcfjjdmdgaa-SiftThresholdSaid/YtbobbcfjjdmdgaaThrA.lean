/- What SiftThreshold is about, in numbers: what Test answers for fractions of small numbers. No condition. -/
import Derived.Test.YtbobbcfjjdmdgaaOpen
import Derived.Test.YtbobbcfjjdmdgaaKnown
import Derived.Test.YtbobbcfjjdmdgaaTstC
import Derived.Test.YtbobbcfjjdmdgaaBits2
import Derived.Laws.StructEq
import Derived.Deep.DeepCutAuto
namespace Go.Proofs.Ytbobbcfjjdmdgaa
open Go.RowKit Go.Deep Go.Joins
set_option linter.unusedVariables false
set_option linter.unusedSimpArgs false

@[go_sem] theorem eqEst (a b c d e : Int) (w : World) : (Op.equalIn 10000 104 (.agg #[.int .i64 a, .int .i64 b, .int .i64 c, .int .i64 d, .int .i64 e]) (.agg #[.int .i64 a, .int .i64 b, .int .i64 c, .int .i64 d, .int .i64 e])).run Try.prog w = .ok true w := by
  have u3 := Try.underlying3
  have hS : Try.prog.underlying 104 = some (.struct (Try.prog.fieldsOf 104)) := by kernel_rfl
  rw [show (10000 : Nat) = 9999 + 1 from rfl, run_equalIn_agg w 9999 104 _ _ hS (by kernel_rfl)]
  simp only [Program.fieldsOf, Try.underlying104]
  go_simp

/-- What the law is about, in numbers: the sample's length, the rest's, what the sample shows and what is left. -/
theorem thr_facts {a b : List Bool} {n m s : Nat} (ha : a.length = n) (hb : b.length = n) (hm : m ≤ n) (hn : n ≤ 40) :
    smE n m = 0 ∧ (smL s n m).length = m ∧ (rsL s n m).length = n - m ∧ (smL s n m).Pairwise (fun x y => x < y) ∧ seenN a b m s = cntL (pickL (xorL a b) (smL s n m)) ∧ seenN a b m s ≤ m ∧
    cntL (xorL (pickL a (rsL s n m)) (pickL b (rsL s n m))) + seenN a b m s = cntL (xorL a b) := by
  have hE : smE n m = 0 := by unfold smE betwB; simp; omega
  have hS : smL s n m = smpL s n m := by unfold smL; rw [if_pos hE]; simp
  have hR : rsL s n m = rstL (smpL s n m) n := by unfold rsL; rw [if_pos hE]; simp
  have hmem : ∀ x ∈ smpL s n m, 0 ≤ x ∧ x < n := fun x hx => smpL_mem hx
  have hsn : seenN a b m s = cntL (pickL (xorL a b) (smL s n m)) := by unfold seenN; rw [ha]
  refine ⟨hE, by rw [sm_len hE]; simp, ?_, by rw [hS]; exact smpL_strict s n m, hsn, ?_, ?_⟩
  · have := (up_parts (smpL_nodup s n m) hmem).length_eq
    rw [List.length_append, smpL_len hm, upL_len] at this
    rw [hR]; omega
  · have := seen_le (a := a) (b := b) (k := m) (s := s) (by rw [ha]; exact hE)
    simpa using this
  · have hD : (xorL a b).length = n := by rw [xor_len (by omega), ha]
    rw [pick_xor (by omega) (fun x hx => by have := rs_mem hx; omega), hsn, hS, hR, Nat.add_comm]
    exact cnt_parts hD (smpL_nodup s n m) hmem

theorem lim_valid (A : Option Addr) (c : Nat) (C : Option Addr) (d p q : Nat) (hp : p < 4294967296) (hq : q < 4294967296) (h0 : 0 < q) : validE [⟨A, c, limbs p, C, d, limbs q⟩] = 0 := by
  have l1 := limbs_small (n := p) hp
  have l2 := limbs_small (n := q) hq
  refine validE_zero.2 ⟨?_, ?_⟩
  · simp [Frc.lng]; omega
  · simp [Frc.zro, V_limbs]; omega
/-- What Test answers here. -/
theorem thr_test {a b : List Bool} {n m s part : Nat} (ha : a.length = n) (hb : b.length = n) (hm : m ≤ n) (hn : n ≤ 40) (hp : part < 256) (A1 A2 A3 A4 : Option Addr) (c1 c2 c3 c4 : Nat) :
    ∃ bd : Int, (if part * m < 256 * seenN a b m s then
      tstE a b m s ⟨A1, c1, limbs 1, A2, c2, limbs 10⟩ ⟨A3, c3, limbs part, A4, c4, limbs 256⟩ = 18 ∧ tstV a b m s ⟨A1, c1, limbs 1, A2, c2, limbs 10⟩ ⟨A3, c3, limbs part, A4, c4, limbs 256⟩ = zero5 ∧ (∀ x, tstP x a b m s ⟨A1, c1, limbs 1, A2, c2, limbs 10⟩ ⟨A3, c3, limbs part, A4, c4, limbs 256⟩ = [])
    else tstE a b m s ⟨A1, c1, limbs 1, A2, c2, limbs 10⟩ ⟨A3, c3, limbs part, A4, c4, limbs 256⟩ = 0 ∧ 0 ≤ bd ∧ bd ≤ 512 ∧ tstV a b m s ⟨A1, c1, limbs 1, A2, c2, limbs 10⟩ ⟨A3, c3, limbs part, A4, c4, limbs 256⟩ = .agg #[.int .i64 n, .int .i64 m, .int .i64 (seenN a b m s), .int .i64 bd, .int .i64 (bd - seenN a b m s)] ∧ (∀ x, tstP x a b m s ⟨A1, c1, limbs 1, A2, c2, limbs 10⟩ ⟨A3, c3, limbs part, A4, c4, limbs 256⟩ = pickL x (rsL s n m))) := by
  obtain ⟨hE, _, _, _, _, hsm, _⟩ := thr_facts (s := s) ha hb hm hn
  have v1 := lim_valid A1 c1 A2 c2 1 10 (by decide) (by decide) (by decide)
  have v2 := lim_valid A3 c3 A4 c4 part 256 (by omega) (by decide) (by decide)
  have hTE := test_case a b m s n ⟨A1, c1, limbs 1, A2, c2, limbs 10⟩ ⟨A3, c3, limbs part, A4, c4, limbs 256⟩ ha hb hE
  have hV : tstV a b m s ⟨A1, c1, limbs 1, A2, c2, limbs 10⟩ ⟨A3, c3, limbs part, A4, c4, limbs 256⟩ = if tstE a b m s ⟨A1, c1, limbs 1, A2, c2, limbs 10⟩ ⟨A3, c3, limbs part, A4, c4, limbs 256⟩ = 0 then rateV n m (seenN a b m s) ⟨A1, c1, limbs 1, A2, c2, limbs 10⟩ else zero5 := by unfold tstV; rw [ha]
  have hP : ∀ x, tstP x a b m s ⟨A1, c1, limbs 1, A2, c2, limbs 10⟩ ⟨A3, c3, limbs part, A4, c4, limbs 256⟩ = if tstE a b m s ⟨A1, c1, limbs 1, A2, c2, limbs 10⟩ ⟨A3, c3, limbs part, A4, c4, limbs 256⟩ = 0 then pickL x (rsL s n m) else [] := fun x => by unfold tstP; rw [ha]
  generalize seenN a b m s = N at *
  have hB : boundE n m N ⟨A1, c1, limbs 1, A2, c2, limbs 10⟩ = 0 := (boundE4 v1 (by omega) (by simp [V_limbs])).1
  have hJ : judgeE m N ⟨A3, c3, limbs part, A4, c4, limbs 256⟩ = if part * m < 256 * N then 18 else 0 := by
    by_cases h0 : m = 0
    · subst h0
      have : N = 0 := by omega
      subst this
      have e0 : ((0 : Nat) : Int) = 0 := rfl
      rw [e0, judgeE3 v2 (by omega) rfl]; simp
    · rw [judgeE4 v2 (by omega) (by omega), V_limbs, V_limbs, Nat.mul_comm 256]
      simp
  rw [hB, if_neg (by simp), hJ] at hTE
  have hbd := bound_ok hB
  refine ⟨boundI n m N ⟨A1, c1, limbs 1, A2, c2, limbs 10⟩, ?_⟩
  by_cases hlt : part * m < 256 * N
  · rw [if_pos hlt] at hTE ⊢
    refine ⟨hTE, ?_, fun x => ?_⟩
    · rw [hV, hTE, if_neg (by decide)]
    · rw [hP, hTE, if_neg (by decide)]
  · rw [if_neg hlt] at hTE ⊢
    refine ⟨hTE, by omega, by omega, ?_, fun x => ?_⟩
    · rw [hV, hTE, if_pos rfl]; unfold rateV; rw [if_pos hB]
    · rw [hP, hTE, if_pos rfl]

end Go.Proofs.Ytbobbcfjjdmdgaa
