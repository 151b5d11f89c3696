/- Contracts of exact's Bound for any numbers, of sift's Rate and Judge. For fractions of at most 900000 limbs. -/
import Derived.Test.YteoaaphjbggobaaNatK
import Derived.Test.YteoaaphjbggobaaChk
import Derived.Laws.ResultCell
namespace Go.Proofs.Yteoaaphjbggobaa
open Go.RowKit
set_option linter.unusedVariables false
set_option linter.unusedSimpArgs false

theorem boundE1 {t s n : Int} {f : Frc} (h : validE [f] ≠ 0) : boundE t s n f = validE [f] ∧ boundI t s n f = 0 := by
  have e : boundE t s n f = validE [f] := by unfold boundE; rw [if_pos h]
  exact ⟨e, by unfold boundI; rw [e, if_neg h]⟩
theorem boundE2 {t s n : Int} {f : Frc} (h : validE [f] = 0) (h2 : ¬ (0 ≤ t ∧ t ≤ 512 ∧ 0 ≤ s ∧ s ≤ t ∧ 0 ≤ n ∧ n ≤ s)) : boundE t s n f = 3 ∧ boundI t s n f = 0 := by
  have e : boundE t s n f = 3 := by unfold boundE; rw [if_neg (by simp [h]), if_pos h2]
  exact ⟨e, by unfold boundI; rw [e]; rfl⟩
theorem boundE3 {t s n : Int} {f : Frc} (h : validE [f] = 0) (h2 : 0 ≤ t ∧ t ≤ 512 ∧ 0 ≤ s ∧ s ≤ t ∧ 0 ≤ n ∧ n ≤ s) (h3 : V f.m ≤ V f.l) : boundE t s n f = 2 ∧ boundI t s n f = 0 := by
  have e : boundE t s n f = 2 := by unfold boundE; rw [if_neg (by simp [h]), if_neg (by simp [h2]), if_pos h3]
  exact ⟨e, by unfold boundI; rw [e]; rfl⟩
theorem boundE4 {t s n : Int} {f : Frc} (h : validE [f] = 0) (h2 : 0 ≤ t ∧ t ≤ 512 ∧ 0 ≤ s ∧ s ≤ t ∧ 0 ≤ n ∧ n ≤ s) (h3 : ¬ V f.m ≤ V f.l) : boundE t s n f = 0 ∧ boundI t s n f = (bs (possB t.toNat s.toNat n.toNat (V f.l) (V f.m)) n.toNat t.toNat : Nat) := by
  have e : boundE t s n f = 0 := by unfold boundE; rw [if_neg (by simp [h]), if_neg (by simp [h2]), if_neg h3]
  exact ⟨e, by unfold boundI; rw [e]; rfl⟩

theorem blk_new {w y : World} {cs : Array Value} {T : TypeId} (h : Below (w.alloc (.cells cs T)).heap.size (w.alloc (.cells cs T)) y) {g : Nat} (hg : g = w.heap.size) {j : Nat} {v : Value} (hj : cs[j]? = some v) : y.cell? ⟨g, j, none⟩ = some v ∧ y.frozen? ⟨g, j, none⟩ = false := by
  subst hg
  exact ⟨bel_cell h (new_cell hj), (h.frozen (p := ⟨w.heap.size, j, none⟩) (by simp)).trans (World.frozen?_alloc_at _ _ _ _ rfl)⟩
def zero5 : Value := .agg #[.int .i64 0, .int .i64 0, .int .i64 0, .int .i64 0, .int .i64 0]
/-- The estimate. -/
def rateV (t s n : Int) (f : Frc) : Value := if boundE t s n f = 0 then .agg #[.int .i64 t, .int .i64 s, .int .i64 n, .int .i64 (boundI t s n f), .int .i64 (boundI t s n f - n)] else zero5

theorem bound_ok {t s n : Int} {f : Frc} (h : boundE t s n f = 0) : 0 ≤ n ∧ n ≤ boundI t s n f ∧ boundI t s n f ≤ t ∧ t ≤ 512 := by
  have h1 : validE [f] = 0 := by
    refine Classical.byContradiction fun h1 => ?_
    rw [(boundE1 h1).1] at h; exact h1 h
  have h2 : 0 ≤ t ∧ t ≤ 512 ∧ 0 ≤ s ∧ s ≤ t ∧ 0 ≤ n ∧ n ≤ s := by
    refine Classical.byContradiction fun h2 => ?_
    rw [(boundE2 h1 h2).1] at h; cases h
  have h3 : ¬ V f.m ≤ V f.l := fun h3 => by rw [(boundE3 h1 h2 h3).1] at h; cases h
  rw [(boundE4 h1 h2 h3).2]
  have := bs_between (p := possB t.toNat s.toNat n.toNat (V f.l) (V f.m)) (lo := n.toNat) (hi := t.toNat) (by omega)
  omega

/-- The verdict: the error of a limit, or of the numbers, or 18. -/
def judgeE (s n : Int) (f : Frc) : Int := if validE [f] ≠ 0 then validE [f] else if ¬ (0 ≤ s ∧ s ≤ 512 ∧ 0 ≤ n ∧ n ≤ s) then 3 else if s = 0 then 0 else if V f.l * s.toNat < n.toNat * V f.m then 18 else 0

end Go.Proofs.Yteoaaphjbggobaa
