/- Contracts of optics' part and weights, of the reference's part and row; equality of rows of numbers. For at most 1000 numbers. -/
import Derived.Test.YteoaaphjbggobaaGreatNumAll
import Derived.Laws.StructEq
namespace Go.Proofs.YteoaaphjbggobaaGreat
open Go.RowKit
set_option linter.unusedVariables false
set_option linter.unusedSimpArgs false

theorem eqArr_d (P : Program) (d n : Nat) (t e : TypeId) (xs ys : Array Value) (w : World) (ht : P.underlying t = some (.array n e)) : (Op.equalIn (d + 1) t (.agg xs) (.agg ys)).run P w = ((do
      let z ← sizeOf e
      for i in [0:n] do
        if !(← Op.equalIn d e (← part e xs (i * z)) (← part e ys (i * z))) then return false
      pure true : Sem Bool)).run P w := by
  simp only [Op.equalIn, Sem.run_bind, run_underlying ht, Result.andThen_ok]
@[go_sem] theorem eqArr4 (a b c d a' b' c' d' : Int) (w : World) : (Op.equalIn 10000 65 (.agg #[.int .i64 a, .int .i64 b, .int .i64 c, .int .i64 d]) (.agg #[.int .i64 a', .int .i64 b', .int .i64 c', .int .i64 d'])).run Tryz.prog w = .ok (a == a' && (b == b' && (c == c' && d == d'))) w := by
  have u3 := Tryz.underlying3
  have u4 := Tryz.underlying65
  have z3 := Tryz.sizeOf3
  have g3 := Tryz.isAgg3
  rw [show (10000 : Nat) = 9999 + 1 from rfl, eqArr_d Tryz.prog 9999 4 65 3 _ _ w u4]
  have e : ∀ (x y : Int) (w : World), (Op.equalIn 9999 3 (.int .i64 x) (.int .i64 y)).run Tryz.prog w = .ok (x == y) w := fun x y w => run_equalIn_int w 9998 3 .i64 _ x y u3
  simp [List.range', Sem.run_bind, z3, part, g3, Sem.run_ite, Sem.run_pure, e]
  cases h1 : a == a' <;> cases h2 : b == b' <;> cases h3 : c == c' <;> cases h4 : d == d' <;> simp_all
@[go_sem] theorem eqArr3 (a b c a' b' c' : Int) (w : World) : (Op.equalIn 10000 64 (.agg #[.int .i64 a, .int .i64 b, .int .i64 c]) (.agg #[.int .i64 a', .int .i64 b', .int .i64 c'])).run Tryz.prog w = .ok (a == a' && (b == b' && c == c')) w := by
  have u3 := Tryz.underlying3
  have u4 := Tryz.underlying64
  have z3 := Tryz.sizeOf3
  have g3 := Tryz.isAgg3
  rw [show (10000 : Nat) = 9999 + 1 from rfl, eqArr_d Tryz.prog 9999 3 64 3 _ _ w u4]
  have e : ∀ (x y : Int) (w : World), (Op.equalIn 9999 3 (.int .i64 x) (.int .i64 y)).run Tryz.prog w = .ok (x == y) w := fun x y w => run_equalIn_int w 9998 3 .i64 _ x y u3
  simp [List.range', Sem.run_bind, z3, part, g3, Sem.run_ite, Sem.run_pure, e]
  cases h1 : a == a' <;> cases h2 : b == b' <;> cases h3 : c == c' <;> simp_all

def partB (x : Int) : Bool := decide (0 ≤ x ∧ x ≤ 256)
/-- Parts of 256 with the sum 256. -/
def wtB (l : List Int) : Bool := l.all partB && decide (l.sum = 256)
set_option maxHeartbeats 400000 in
theorem oPart_any (x : Int) (w : World) : Calls Tryz.prog 96 #[.int .i64 x] w fun e w' => e = .returned (.bool (partB x)) ∧ w = w' := by
  go_enter Tryz.func96, Tryz.ntmps96
  go_wp2
  all_goals (go_ret; exact ⟨ret_bool (by unfold partB; rw [Bool.eq_iff_iff]; simp; try omega), rfl⟩)
set_option maxHeartbeats 1000000 in
theorem weights_any (A : Option Addr) (c n : Nat) (l : List Int) (w : World) (hA : Arr 1 encI w w.heap.size A l) (hl : l.length = n) (hn : n ≤ 1000) :
    Calls Tryz.prog 95 #[.slice A n c] w fun e w' => e = .returned (.bool (wtB l)) ∧ w = w' := by
  have HL := Lib.hid hl
  go_enter Tryz.func95, Tryz.ntmps95
  go_wp2_with fail
  go_loop [3, 8] (fun s i => ∃ (k : Nat) (S : Int), k ≤ n ∧ i = .int .i64 k ∧ s = .int .i64 S ∧ 0 ≤ S ∧ S ≤ 256 * k ∧ Hid (S = (l.take k).sum ∧ (l.take k).all partB = true)) (fun s i => n - (intOf i).toNat)
  case atStart => exact ⟨0, 0, Nat.zero_le _, rfl, rfl, by omega, by omega, Lib.hid ⟨by simp, by simp⟩⟩
  case round =>
    obtain ⟨k, S, hk, rfl, rfl, S0, S1, hS⟩ := hrel
    by_cases hlt : k < n
    · obtain ⟨b1, off, x, rfl, hbb, hq, c0⟩ := hA.int (k := k) (by omega) (Below.refl _ _)
      by_cases hp : partB x = true
      · have hp2 : 0 ≤ x ∧ x ≤ 256 := of_decide_eq_true hp
        have Hp := Lib.hid hp
        clear hp
        have hS2 : Hid (S + x = (l.take (k + 1)).sum ∧ (l.take (k + 1)).all partB = true) := Lib.hid (by
          rw [take_snoc hq.out]
          exact ⟨by rw [List.sum_append, ← hS.out.1]; simp, by rw [List.all_append, hS.out.2]; simp [Hp.out]⟩)
        have cP := oPart_any x w
        rw [Hp.out] at cP
        go_wp2_with (go_at_call 96; refine (cP).mono ?_; rintro e w' ⟨rfl, rfl⟩)
        go_round
        case rel => exact ⟨k + 1, S + x, by omega, by go_num, rfl, by omega, by omega, hS2⟩
        case measure => simp [intOf]; omega
      · have hp2 : partB x = false := by simpa using hp
        have hW : Hid (wtB l = false) := Lib.hid (by
          unfold wtB
          rw [List.all_eq_false.2 ⟨x, List.mem_of_getElem? hq.out, by rw [hp2]; decide⟩]
          rfl)
        have cP := oPart_any x w
        rw [hp2] at cP
        clear hp hp2
        go_wp2_with (go_at_call 96; refine (cP).mono ?_; rintro e w' ⟨rfl, rfl⟩)
        go_ret
        exact ⟨ret_bool hW.out.symm, rfl⟩
    · obtain rfl : k = n := by omega
      have hW : Hid (wtB l = decide (S = 256)) := Lib.hid (by
        have h1 := hS.out
        rw [← HL.out, List.take_length] at h1
        unfold wtB
        rw [h1.2, ← h1.1]; rfl)
      go_wp2_with fail
      go_ret
      exact ⟨ret_bool (by rw [hW.out, Bool.eq_iff_iff]; simp), rfl⟩

end Go.Proofs.YteoaaphjbggobaaGreat
