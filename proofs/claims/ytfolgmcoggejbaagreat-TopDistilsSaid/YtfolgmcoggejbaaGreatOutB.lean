/- What lies in no other block than two of them is as it was. No condition. -/
import Derived.Test.YtfolgmcoggejbaaGreatBase
namespace Go.Proofs.YtfolgmcoggejbaaGreat
open Go.RowKit
set_option linter.unusedVariables false
set_option linter.unusedSimpArgs false

/-- What lies in no other block than two of them is as it was. -/
structure Out2 (w w' : World) (b m : Nat) : Prop where
  os : w'.os = w.os
  tape : w'.tape = w.tape
  output : w'.output = w.output
  size : w.heap.size ≤ w'.heap.size
  block : ∀ k, k < w.heap.size → k ≠ b → k ≠ m → w'.heap[k]? = w.heap[k]?
theorem Out2.of {w w' : World} (b m : Nat) (h : Below w.heap.size w w') : Out2 w w' b m := ⟨h.os, h.tape, h.output, h.size, fun k hk _ _ => h.block k hk⟩
theorem Out2.grown {w w' : World} {b m g : Nat} (h : w.grownBy w' (some g)) (hg : g = b ∨ g = m ∨ w.heap.size ≤ g) : Out2 w w' b m := ⟨h.os, h.tape, h.output, h.size, fun k hk h1 h2 => h.block k hk (by simp; omega)⟩
theorem Out2.trans {x y z : World} {b m : Nat} (h : Out2 x y b m) (k : Out2 y z b m) : Out2 x z b m := ⟨k.os.trans h.os, k.tape.trans h.tape, k.output.trans h.output, Nat.le_trans h.size k.size, fun i hi h1 h2 => (k.block i (Nat.lt_of_lt_of_le hi h.size) h1 h2).trans (h.block i hi h1 h2)⟩
theorem Out2.below {w w' : World} {b m base : Nat} (h : Out2 w w' b m) (hs : base ≤ w.heap.size) (h1 : base ≤ b) (h2 : base ≤ m) : Below base w w' :=
  ⟨h.os, h.tape, h.output, h.size, fun k hk => h.block k (by omega) (by omega) (by omega)⟩
theorem arr_out2 {α : Type} {sz : Nat} {enc : α → List Value} {w w' : World} {b m : Nat} {A : Option Addr} {l : List α} (h : Arr sz enc w w.heap.size A l) (ho : Out2 w w' b m) (hA : ∀ a, A = some a → a.block ≠ b ∧ a.block ≠ m) : Arr sz enc w' w'.heap.size A l := fun hl => by
  obtain ⟨g, off, rfl, hg, hc⟩ := h hl
  obtain ⟨n1, n2⟩ := hA _ rfl
  exact ⟨g, off, rfl, Nat.lt_of_lt_of_le hg ho.size, fun i x hx j u hu => (World.cell?_of_block (a := ⟨g, off + i * sz + j, none⟩) (ho.block g hg n1 n2)).trans (hc i x hx j u hu)⟩

/-- What lies in none of the blocks S is as it was. -/
structure OutS (S : Nat → Prop) (w w' : World) : Prop where
  os : w'.os = w.os
  tape : w'.tape = w.tape
  output : w'.output = w.output
  size : w.heap.size ≤ w'.heap.size
  block : ∀ k, k < w.heap.size → ¬ S k → w'.heap[k]? = w.heap[k]?
section
variable {S : Nat → Prop} {w w' : World}
theorem OutS.refl (S : Nat → Prop) (w : World) : OutS S w w := ⟨rfl, rfl, rfl, Nat.le_refl _, fun _ _ _ => rfl⟩
theorem OutS.of (h : Below w.heap.size w w') : OutS S w w' := ⟨h.os, h.tape, h.output, h.size, fun k hk _ => h.block k hk⟩
theorem OutS.grown {row : Option Nat} (h : w.grownBy w' row) (hg : ∀ g, row = some g → S g ∨ w.heap.size ≤ g) : OutS S w w' :=
  ⟨h.os, h.tape, h.output, h.size, fun k hk h1 => h.block k hk (fun e => by
    rcases hg k e.symm with h2 | h2
    · exact h1 h2
    · omega)⟩
theorem OutS.trans {x y z : World} (h : OutS S x y) (k : OutS S y z) : OutS S x z := ⟨k.os.trans h.os, k.tape.trans h.tape, k.output.trans h.output, Nat.le_trans h.size k.size, fun i hi h1 => (k.block i (Nat.lt_of_lt_of_le hi h.size) h1).trans (h.block i hi h1)⟩
theorem OutS.mono {T : Nat → Prop} (h : OutS S w w') (hs : ∀ k, k < w.heap.size → S k → T k) : OutS T w w' := ⟨h.os, h.tape, h.output, h.size, fun k hk h1 => h.block k hk (fun e => h1 (hs k hk e))⟩
theorem OutS.below {base : Nat} (h : OutS S w w') (hb : base ≤ w.heap.size) (hs : ∀ k, S k → base ≤ k) : Below base w w' :=
  ⟨h.os, h.tape, h.output, h.size, fun k hk => h.block k (by omega) (fun e => by have := hs k e; omega)⟩
theorem OutS.set {b o : Nat} {v : Value} (hb : S b) : OutS S w (w.setCell ⟨b, o, none⟩ v) :=
  OutS.grown (row := some b) ⟨(Below.refl 0 w |>.setCell (Nat.zero_le _) v).os, (Below.refl 0 w |>.setCell (Nat.zero_le _) v).tape, (Below.refl 0 w |>.setCell (Nat.zero_le _) v).output, (Below.refl 0 w |>.setCell (Nat.zero_le _) v).size, fun j _ hn => Below.heap_setCell w _ _ j (by simpa using hn)⟩ (fun g hg => by cases hg; exact .inl hb)
theorem OutS.cell (h : OutS S w w') {a : Addr} {v : Value} (hc : w.cell? a = some v) (hs : ¬ S a.block) : w'.cell? a = some v :=
  (World.cell?_of_block (h.block a.block (World.block_lt_of_cell? w a hc) hs)).trans hc
theorem OutS.row (h : OutS S w w') {b : Nat} {o : Obj} (hc : w.heap[b]? = some o) (hs : ¬ S b) : w'.heap[b]? = some o :=
  (h.block b (Array.getElem?_eq_some_iff.1 hc).1 hs).trans hc
theorem OutS.arr {α : Type} {sz : Nat} {enc : α → List Value} {A : Option Addr} {l : List α} (ho : OutS S w w') (h : Arr sz enc w w.heap.size A l) (hA : ∀ a, A = some a → ¬ S a.block) : Arr sz enc w' w'.heap.size A l := fun hl => by
  obtain ⟨g, off, rfl, hg, hc⟩ := h hl
  exact ⟨g, off, rfl, Nat.lt_of_lt_of_le hg ho.size, fun i x hx j u hu => ho.cell (hc i x hx j u hu) (show ¬ S g from hA ⟨g, off, none⟩ rfl)⟩
theorem OutS.own {α : Type} {base e sz : Nat} {enc : α → List Value} {v : Value} {l : List α} (ho : OutS S w w') (h : Own w base e sz enc v l) (hA : ∀ k, v.ownBlock = some k → ¬ S k) : Own w' base e sz enc v l := by
  refine ⟨h.1, ?_⟩
  rcases h.2 with hn | ⟨g, cap, cur, hv, hb, hg, rest⟩
  · exact .inl hn
  · exact .inr ⟨g, cap, cur, hv, hb, ho.row hg (hA g (by rw [hv]; rfl)), rest⟩
end

/-- A slice in blocks from lo on, below hi. -/
def Rw {α : Type} (sz : Nat) (enc : α → List Value) (w : World) (lo hi : Nat) (A : Option Addr) (l : List α) : Prop :=
  l ≠ [] → ∃ b off, A = some ⟨b, off, none⟩ ∧ lo ≤ b ∧ b < hi ∧ ∀ i x, l[i]? = some x → ∀ j u, (enc x)[j]? = some u → w.cell? ⟨b, off + i * sz + j, none⟩ = some u
section
variable {α : Type} {sz : Nat} {enc : α → List Value} {w w' : World} {lo hi : Nat} {A : Option Addr} {l : List α}
theorem Rw.keep (h : Rw sz enc w lo hi A l) (hk : ∀ k, lo ≤ k → k < hi → w'.heap[k]? = w.heap[k]?) : Rw sz enc w' lo hi A l := fun hl => by
  obtain ⟨b, off, e, h1, h2, hc⟩ := h hl
  exact ⟨b, off, e, h1, h2, fun i x hx j u hu => (World.cell?_of_block (a := ⟨b, off + i * sz + j, none⟩) (hk b h1 h2)).trans (hc i x hx j u hu)⟩
theorem Rw.arr (h : Rw sz enc w lo hi A l) (hh : hi ≤ w.heap.size) : Arr sz enc w w.heap.size A l := fun hl => by
  obtain ⟨b, off, e, _, h2, hc⟩ := h hl
  exact ⟨b, off, e, Nat.lt_of_lt_of_le h2 hh, hc⟩
end

end Go.Proofs.YtfolgmcoggejbaaGreat
