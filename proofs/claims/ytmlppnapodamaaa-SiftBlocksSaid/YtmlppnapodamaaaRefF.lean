/- Words for a slice of slices of digits that a call makes: what it reads as, and how it grows. No condition. -/
import Derived.Test.YtmlppnapodamaaaRefE
import Derived.Deep.AppendLies
import Derived.Deep.RegionLaw
namespace Go.Proofs.Ytmlppnapodamaaa
open Go.RowKit
set_option linter.unusedVariables false
set_option linter.unusedSimpArgs false

/-- A slice as it lies in a cell. -/
structure It where
  A : Option Addr
  n : Nat
  c : Nat
def It.enc (x : It) : Value := .slice x.A x.n x.c
theorem It.one (x : It) : ∀ u ∈ [x.enc], u.oneCell' = true := by simp [It.enc, Value.oneCell']
theorem ints_info : (Try.prog.info? 22).map (fun i => (i.zero, i.size, i.bytes)) = some (some (.slice none 0 0), 1, 24) := by kernel_rfl

/-- n slices, the k-th one the digits of f k; the call's own, from base on. -/
def Rows (w : World) (base : Nat) (v : Value) (f : Nat → Nat) (n : Nat) : Prop :=
  ∃ g cap, ∃ items : List It, v = .slice (some ⟨g, 0, none⟩) n cap ∧ items.length = n ∧ Own w base 22 1 (fun x => [It.enc x]) v items ∧
    ∀ (k : Nat) (it : It), items[k]? = some it → it.n = (dg (f k)).length ∧ Dn w it.A it.c (dg (f k)) ∧ ∀ a, it.A = some a → a.block ≠ g ∧ a.block < w.heap.size

theorem Rows.on {w w' : World} {base : Nat} {v : Value} {f : Nat → Nat} {n : Nat} (h : Rows w base v f n) (hb : Below w.heap.size w w') : Rows w' base v f n := by
  obtain ⟨g, cap, items, hv, hl, ho, hi⟩ := h
  exact ⟨g, cap, items, hv, hl, ho.below hb, fun k it hk => ⟨(hi k it hk).1, (hi k it hk).2.1.on hb, fun a ha => ⟨((hi k it hk).2.2 a ha).1, Nat.lt_of_lt_of_le ((hi k it hk).2.2 a ha).2 hb.size⟩⟩⟩
theorem Rows.down {w : World} {base base' : Nat} {v : Value} {f : Nat → Nat} {n : Nat} (h : Rows w base v f n) (hb : base' ≤ base) : Rows w base' v f n := by
  obtain ⟨g, cap, items, hv, hl, ho, hi⟩ := h
  exact ⟨g, cap, items, hv, hl, ho.down hb, hi⟩
/-- The value, and its elements. -/
theorem Rows.form {w : World} {base : Nat} {v : Value} {f : Nat → Nat} {n : Nat} (h : Rows w base v f n) :
    ∃ g cap, v = .slice (some ⟨g, 0, none⟩) n cap ∧ g < w.heap.size ∧ base ≤ g ∧ ∀ k, k < n → ∃ A c, w.cell? ⟨g, k, none⟩ = some (.slice A (dg (f k)).length c) ∧ Dn w A c (dg (f k)) := by
  obtain ⟨g, cap, items, rfl, hl, ho, hi⟩ := h
  refine ⟨g, cap, rfl, ho.g_lt, ho.base_le, fun k hk => ?_⟩
  obtain ⟨it, hit⟩ : ∃ it, items[k]? = some it := ⟨_, List.getElem?_eq_getElem (by omega)⟩
  obtain ⟨h1, h2, _⟩ := hi k it hit
  have h3 := Own.at1 (f := It.enc) ho hl hit
  refine ⟨it.A, it.c, ?_, h2⟩
  rw [h3, It.enc, h1]
theorem dn_grown {w w' : World} {A : Option Addr} {c : Nat} {l : List Nat} {row : Option Nat} (h : Dn w A c l) (hg : w.grownBy w' row) (hne : ∀ a, A = some a → some a.block ≠ row) : Dn w' A c l := by
  refine ⟨fun hl => ?_, h.len, h.cap, h.dig, h.nil⟩
  obtain ⟨b, off, hA, hb, hc⟩ := h.arr hl
  exact ⟨b, off, hA, Nat.lt_of_lt_of_le hb hg.size, fun i x hx j u hu => hg.cell (hc i x hx j u hu) (show some b ≠ row from hne _ hA)⟩

/-- What an append makes of it. -/
theorem Rows.snoc {w w' : World} {base g : Nat} {f : Nat → Nat} {n : Nat} {items : List It} {A : Option Addr} {c : Nat} {v : Value} (hv : v.ownBlock = some g)
    (hl : items.length = n) (hi : ∀ (k : Nat) (it : It), items[k]? = some it → it.n = (dg (f k)).length ∧ Dn w it.A it.c (dg (f k)) ∧ ∀ a, it.A = some a → a.block ≠ g ∧ a.block < w.heap.size)
    (hA : Dn w A c (dg (f n))) (hA2 : ∀ a, A = some a → a.block ≠ g ∧ a.block < w.heap.size)
    {g' cap' : Nat} (ho : w'.ownsRow base 22 1 (.slice (some ⟨g', 0, none⟩) (n + 1) cap') (n + 1) (items.map It.enc ++ [.slice A (dg (f n)).length c])) (hg : w.grownBy w' v.ownBlock) (hat : v.ownBlock = some g' ∨ g' = w.heap.size) :
    Rows w' base (.slice (some ⟨g', 0, none⟩) (n + 1) cap') f (n + 1) := by
  rw [hv] at hg hat
  have hgg : ∀ b : Nat, b ≠ g → b < w.heap.size → b ≠ g' := fun b h1 h2 => by
    rcases hat with h | h
    · cases h; exact h1
    · omega
  refine ⟨g', cap', items ++ [⟨A, (dg (f n)).length, c⟩], rfl, by rw [List.length_append, hl]; rfl, ?_, ?_⟩
  · unfold Own
    rw [flat1, List.map_append, List.length_append, hl]
    exact ho
  · intro k it hk
    rcases Nat.lt_or_ge k n with h | h
    · rw [List.getElem?_append_left (by omega)] at hk
      obtain ⟨h1, h2, h3⟩ := hi k it hk
      exact ⟨h1, dn_grown h2 hg (fun a ha h' => (h3 a ha).1 (by simpa using h')), fun a ha => ⟨hgg _ (h3 a ha).1 (h3 a ha).2, Nat.lt_of_lt_of_le (h3 a ha).2 hg.size⟩⟩
    · have hkn : k = n := by
        have := (List.getElem?_eq_some_iff.1 hk).1
        rw [List.length_append, hl] at this
        simp at this; omega
      subst hkn
      rw [List.getElem?_append_right (by omega), hl, Nat.sub_self] at hk
      obtain rfl : (⟨A, (dg (f k)).length, c⟩ : It) = it := by simpa using hk
      exact ⟨rfl, dn_grown hA hg (fun a ha h' => (hA2 a ha).1 (by simpa using h')), fun a ha => ⟨hgg _ (hA2 a ha).1 (hA2 a ha).2, Nat.lt_of_lt_of_le (hA2 a ha).2 hg.size⟩⟩

/-- The new element: the call's own, made behind all that lay. -/
theorem dg_far {w : World} {base : Nat} {A : Option Addr} {k c n g : Nat} (h : Dg w base (.slice A k c) n) (hg : g < base) : ∀ a, A = some a → a.block ≠ g ∧ a.block < w.heap.size := by
  rintro a rfl
  have := World.ownsRow.lt h a.block rfl
  omega

/-- 'out = append(out, x)' at a plain list. -/
theorem wpList_row {ops : Array Oper} {rest : List Oper} {o : Oper} {a : Act} {Q : Exit → Act → World → Prop} {W : World} (hgd : o.guard = none) (s x : Operand)
    (ho : o.op = .call { callee := .builtin .append, args := #[s, x], argTypes := #[27, 27] }) (base : Nat) {v : Value} {f : Nat → Nat} {n : Nat} (hr : Rows W base v f n) (hs : a.eval s = v) (hn : n ≤ 1000000)
    {A : Option Addr} {c bx k : Nat} (hx : a.eval x = .slice (some ⟨bx, 0, none⟩) 1 1) (hc : W.cell? ⟨bx, 0, none⟩ = some (.slice A k c)) (hk : k = (dg (f n)).length) (hA : Dn W A c (dg (f n))) (hA2 : ∀ g, v.ownBlock = some g → ∀ a, A = some a → a.block ≠ g ∧ a.block < W.heap.size) (hbase : base ≤ W.heap.size)
    (h : ∀ v' w', Rows w' base v' f (n + 1) → Below base W w' → wpList Try.prog ops Q rest (a.put o.dst v') w') : wpList Try.prog ops Q (o :: rest) a W := by
  subst hk
  obtain ⟨i0, hi, hz0, hz1, hz2⟩ := info_parts ints_info
  obtain ⟨g, cap, items, rfl, hl, hown, hit⟩ := hr
  have hown2 : W.ownsRow base 22 1 (.slice (some ⟨g, 0, none⟩) n cap) n (items.map It.enc) := by
    have := hown; unfold Own at this; rw [flat1, hl] at this; exact this
  refine wpList_append_lies (P := Try.prog) W hgd s x 27 ho base 22 i0 _ 1 24 Try.underlying27 hi hz0 hz1 hz2 rfl (by decide) _ n _ hs hown2 ⟨bx, 0, none⟩ 1 1 [.slice A (dg (f n)).length c] hx rfl ?_ (by simp [Value.oneCell']) (by decide) (by unfold maxLen; omega) (by omega) hbase _ rfl ?_
  · intro j u hu
    cases j with
    | zero => obtain rfl : Value.slice A (dg (f n)).length c = u := by simpa using hu
              exact hc
    | succ j => simp at hu
  · intro g' cap' w' h2 h3 h4 h5
    refine h _ w' (Rows.snoc rfl hl hit hA (hA2 g rfl) h2 h3 h4) ?_
    exact (Below.refl _ _).grown h3 hbase (fun q hq => by cases hq; exact hown.base_le)
/-- The same at a step of a region that draws its order. -/
theorem step_row {ops : Array Oper} {o : Oper} {a : Act} {K : Act → World → Prop} {Q : Exit → Act → World → Prop} {E : Prop} {W : World} (hgd : o.guard = none) (s x : Operand)
    (ho : o.op = .call { callee := .builtin .append, args := #[s, x], argTypes := #[27, 27] }) (base : Nat) {v : Value} {f : Nat → Nat} {n : Nat} (hr : Rows W base v f n) (hs : a.eval s = v) (hn : n ≤ 1000000)
    {A : Option Addr} {c bx k : Nat} (hx : a.eval x = .slice (some ⟨bx, 0, none⟩) 1 1) (hc : W.cell? ⟨bx, 0, none⟩ = some (.slice A k c)) (hk : k = (dg (f n)).length) (hA : Dn W A c (dg (f n))) (hA2 : ∀ g, v.ownBlock = some g → ∀ a, A = some a → a.block ≠ g ∧ a.block < W.heap.size) (hbase : base ≤ W.heap.size)
    (h : ∀ v' w', Rows w' base v' f (n + 1) → Below base W w' → K (a.put o.dst v') w') : if Region.wanted o (yielded ops a.tmps) = true then Oper.wp Try.prog o a W K Q else E := by
  subst hk
  obtain ⟨i0, hi, hz0, hz1, hz2⟩ := info_parts ints_info
  obtain ⟨g, cap, items, rfl, hl, hown, hit⟩ := hr
  have hown2 : W.ownsRow base 22 1 (.slice (some ⟨g, 0, none⟩) n cap) n (items.map It.enc) := by
    have := hown; unfold Own at this; rw [flat1, hl] at this; exact this
  refine step_append_lies (P := Try.prog) W hgd s x 27 ho base 22 i0 _ 1 24 Try.underlying27 hi hz0 hz1 hz2 rfl (by decide) _ n _ hs hown2 ⟨bx, 0, none⟩ 1 1 [.slice A (dg (f n)).length c] hx rfl ?_ (by simp [Value.oneCell']) (by decide) (by unfold maxLen; omega) (by omega) hbase _ rfl ?_
  · intro j u hu
    cases j with
    | zero => obtain rfl : Value.slice A (dg (f n)).length c = u := by simpa using hu
              exact hc
    | succ j => simp at hu
  · intro g' cap' w' h2 h3 h4 h5
    refine h _ w' (Rows.snoc rfl hl hit hA (hA2 g rfl) h2 h3 h4) ?_
    exact (Below.refl _ _).grown h3 hbase (fun q hq => by cases hq; exact hown.base_le)
/-- One slice, laid. -/
theorem rows_lit (w : World) (base : Nat) (A : Option Addr) (c : Nat) (f : Nat → Nat) (h : Dn w A c (dg (f 0))) (hA : ∀ a, A = some a → a.block < w.heap.size) (hb : base ≤ w.heap.size) :
    Rows (w.alloc (.cells #[.slice A (dg (f 0)).length c] 22)) base (.slice (some ⟨w.heap.size, 0, none⟩) 1 1) f 1 := by
  refine ⟨w.heap.size, 1, [⟨A, (dg (f 0)).length, c⟩], rfl, rfl, ?_, ?_⟩
  · exact World.ownsRow_lit (size := 1) w #[.slice A (dg (f 0)).length c] 1 hb (by unfold maxLen; omega) rfl
  · intro k it hk
    have hk0 : k = 0 := by have := (List.getElem?_eq_some_iff.1 hk).1; simp at this; exact this
    subst hk0
    obtain rfl : (⟨A, (dg (f 0)).length, c⟩ : It) = it := by simpa using hk
    exact ⟨rfl, h.on (below_alloc (Below.refl _ _) _), fun a ha => ⟨by have := hA a ha; omega, by have := hA a ha; simp; omega⟩⟩

end Go.Proofs.Ytmlppnapodamaaa
