/- Contract of exact's Bound. For any three numbers, a fraction of at most a million limbs. -/
import Derived.Test.YteoaaphjbggobaaNatJ
import Derived.Deep.DeepCutAuto
namespace Go.Proofs.Yteoaaphjbggobaa
open Go.RowKit
set_option linter.unusedVariables false
set_option linter.unusedSimpArgs false

/-- The greatest number up to hi, from lo on, that a search by halves finds. -/
def bs (p : Nat → Bool) (lo hi : Nat) : Nat :=
  if h : lo < hi then (if p ((lo + hi + 1) / 2) = true then bs p ((lo + hi + 1) / 2) hi else bs p lo ((lo + hi + 1) / 2 - 1)) else lo
termination_by hi - lo
theorem bs_yes {p : Nat → Bool} {lo hi : Nat} (h : lo < hi) (hp : p ((lo + hi + 1) / 2) = true) : bs p lo hi = bs p ((lo + hi + 1) / 2) hi := by rw [bs, dif_pos h, if_pos hp]
theorem bs_no {p : Nat → Bool} {lo hi : Nat} (h : lo < hi) (hp : p ((lo + hi + 1) / 2) = false) : bs p lo hi = bs p lo ((lo + hi + 1) / 2 - 1) := by rw [bs, dif_pos h, if_neg (by simp [hp])]
theorem bs_end {p : Nat → Bool} {lo hi : Nat} (h : hi ≤ lo) : bs p lo hi = lo := by rw [bs, dif_neg (by omega)]
theorem bs_between {p : Nat → Bool} {lo hi : Nat} (h : lo ≤ hi) : lo ≤ bs p lo hi ∧ bs p lo hi ≤ hi := by
  obtain ⟨n, hn⟩ : ∃ n, hi - lo = n := ⟨_, rfl⟩
  induction n using Nat.strongRecOn generalizing lo hi with
  | ind n ih =>
    rcases Nat.lt_or_ge lo hi with hlt | hge
    · cases hp : p ((lo + hi + 1) / 2)
      · rw [bs_no hlt hp]
        have := ih (((lo + hi + 1) / 2 - 1) - lo) (by omega) (by omega) rfl
        omega
      · rw [bs_yes hlt hp]
        have := ih (hi - (lo + hi + 1) / 2) (by omega) (by omega) rfl
        omega
    · rw [bs_end hge]; omega

def possB (total sample seen num den : Nat) (bad : Nat) : Bool := decide (num * ch total sample < waysN total bad sample seen * den)
/-- The error of a bound. -/
def boundE (t s n : Int) (f : Frc) : Int := if validE [f] ≠ 0 then validE [f] else if ¬ (0 ≤ t ∧ t ≤ 512 ∧ 0 ≤ s ∧ s ≤ t ∧ 0 ≤ n ∧ n ≤ s) then 3 else if V f.m ≤ V f.l then 2 else 0
def boundI (t s n : Int) (f : Frc) : Int := if boundE t s n f = 0 then (bs (possB t.toNat s.toNat n.toNat (V f.l) (V f.m)) n.toNat t.toNat : Nat) else 0

theorem box_new {w y : World} {v : Value} {T : TypeId} (h : Below (w.alloc (.cells #[v] T)).heap.size (w.alloc (.cells #[v] T)) y) : y.cell? ⟨w.heap.size, 0, none⟩ = some v ∧ y.frozen? ⟨w.heap.size, 0, none⟩ = false :=
  ⟨bel_cell h (new_cell rfl), (h.frozen (p := ⟨w.heap.size, 0, none⟩) (by simp)).trans (World.frozen?_alloc_at _ _ _ _ rfl)⟩
theorem box_newd {w y : World} {v : Value} {T : TypeId} (h : Below (w.alloc (.cells #[v] T)).drew.heap.size (w.alloc (.cells #[v] T)).drew y) : y.cell? ⟨w.heap.size, 0, none⟩ = some v ∧ y.frozen? ⟨w.heap.size, 0, none⟩ = false :=
  ⟨bel_cell h (new_cell (w := w) rfl), (h.frozen (p := ⟨w.heap.size, 0, none⟩) (by simp)).trans (World.frozen?_alloc_at (w := w) _ _ _ _ rfl)⟩
theorem box_on {w y : World} {v : Value} {a : Addr} (h : Below w.heap.size w y) (hc : w.cell? a = some v ∧ w.frozen? a = false) : y.cell? a = some v ∧ y.frozen? a = false :=
  ⟨bel_cell h hc.1, (h.frozen (World.block_lt_of_cell? w a hc.1)).trans hc.2⟩
theorem cell_set {w : World} {g : Nat} {v : Value} (h : w.cell? ⟨g, 0, none⟩ = some v) (u : Value) : (w.setCell ⟨g, 0, none⟩ u).cell? ⟨g, 0, none⟩ = some u := by
  go_simp
theorem nt_set {w : World} {base : Nat} {v : Value} {A : Option Addr} {k c n g : Nat} (hv : v = .slice A k c) (b : Big w base v n) (hlt : g < base) (u : Value) : Nt (w.setCell ⟨g, 0, none⟩ u) A c (limbs n) := by
  subst hv
  exact own_nt2 (Own.keep_lt b (grown_set _ _ _ _) hlt) (limbs_dig _)
theorem cell_al {w : World} {a : Addr} {v : Value} (h : w.cell? a = some v) (o : Obj) : (w.alloc o).cell? a = some v := by
  rw [World.cell?_alloc_lt w o a (World.block_lt_of_cell? w a h)]; exact h

end Go.Proofs.Yteoaaphjbggobaa
