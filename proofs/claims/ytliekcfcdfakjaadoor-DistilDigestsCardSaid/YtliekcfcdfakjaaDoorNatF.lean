/- Contract of exact's split. For numbers of at most a million limbs. -/
import Derived.Test.YtliekcfcdfakjaaDoorNatE
namespace Go.Proofs.YtliekcfcdfakjaaDoor
open Go.RowKit
set_option linter.unusedVariables false
set_option linter.unusedSimpArgs false

theorem own_ntf {w : World} {base g n : Nat} {l : List Nat} (h : Own w base 98 1 enc32 (.slice (some ⟨g, 0, none⟩) n n) l) (hd : Dig B32 l) : Nt w (some ⟨g, 0, none⟩) n l := by
  obtain ⟨A1, c1, hv1, hn1⟩ := own_nt h hd
  simp only [Value.slice.injEq] at hv1
  obtain ⟨rfl, _, rfl⟩ := hv1
  exact hn1
theorem grown_setRow (w : World) (g : Nat) (cs : Array Value) : w.grownBy (w.setRow g cs) (some g) :=
  ⟨rfl, rfl, rfl, by simp [World.setRow], fun k _ hn => setRow_other w g k cs (by rintro rfl; exact hn rfl)⟩
/-- The cells of an own slice that is as long as its block. -/
theorem own_full {α : Type} {w : World} {base e g n : Nat} {f : α → Value} {l : List α} (hown : Own w base e 1 (fun x => [f x]) (.slice (some ⟨g, 0, none⟩) n n) l) (hl : l.length = n) : w.heap[g]? = some (.cells (l.map f).toArray e (0, 0)) ∧ base ≤ g ∧ n ≤ maxLen := by
  subst hl
  rcases hown.2 with ⟨hv, _⟩ | ⟨g', cap, cur, hv, hg, hh, hn, hmx, hc, ht⟩
  · simp at hv
  simp only [Value.slice.injEq, Option.some.injEq, Addr.mk.injEq] at hv
  obtain ⟨⟨rfl, _⟩, _, rfl⟩ := hv
  rw [flat1, Nat.mul_one] at ht
  rw [Nat.mul_one] at hc
  have hcur : cur.toList = l.map f := by rw [← ht, List.take_of_length_le (by simp [hc])]
  exact ⟨by rw [hh, ← hcur], hg, hmx⟩
theorem own_of_full {α : Type} {w : World} {base e g n : Nat} {f : α → Value} {l : List α} (hh : w.heap[g]? = some (.cells (l.map f).toArray e (0, 0))) (hg : base ≤ g) (hn : n ≤ maxLen) (hl : l.length = n) : Own w base e 1 (fun x => [f x]) (.slice (some ⟨g, 0, none⟩) n n) l := by
  subst hl
  refine ⟨by rw [flat1]; simp, .inr ⟨g, _, _, rfl, hg, hh, Nat.le_refl _, hn, by simp, ?_⟩⟩
  rw [flat1, Nat.mul_one, List.take_of_length_le (by simp)]

/-- 'copy(out, xs)': out is the call's own, known whole; xs reads as a list not longer than it. -/
theorem wpList_cp2 {P : Program} {w : World} {ops : Array Oper} {rest : List Oper} {o : Oper} {a : Act} {Q : Exit → Act → World → Prop} (hgd : o.guard = none) (d s : Operand) (dT sT : TypeId)
    (ho : o.op = .call { callee := .builtin .copy, args := #[d, s], argTypes := #[dT, sT] }) (e : TypeId) (hu : P.underlying dT = some (.slice e)) (hsz : (P.info? e).map (·.size) = some 1)
    {α : Type} {f : α → Value} (h1 : ∀ x, (f x).oneCell' = true) {base : Nat} {g n : Nat} {l m : List α} {A : Option Addr} {B c : Nat} (hd : a.eval d = .slice (some ⟨g, 0, none⟩) n n) (hs : a.eval s = .slice A m.length c)
    (hown : Own w base e 1 (fun x => [f x]) (.slice (some ⟨g, 0, none⟩) n n) l) (hl : l.length = n) (hA : Arr 1 (fun x => [f x]) w B A m) (hm : m.length ≤ n)
    (h : ∀ w', Own w' base e 1 (fun x => [f x]) (.slice (some ⟨g, 0, none⟩) n n) (m ++ l.drop m.length) → w.grownBy w' (some g) → wpList P ops Q rest (a.put o.dst (goInt m.length)) w') : wpList P ops Q (o :: rest) a w := by
  obtain ⟨hh, hg, hmx⟩ := own_full hown hl
  by_cases h0 : m = []
  · subst h0
    refine wpList_copy_nothing hgd d s dT sT ho e hu hsz _ _ _ _ _ _ hd hs (by simp) ?_
    exact h w (by simpa using hown) (grown_refl _ _)
  · obtain ⟨b, off, rfl, hbb, hc'⟩ := hA h0
    have hfc := flat_cell (sz := 1) (enc := fun x => [f x]) (fun _ => rfl) (by decide) hc'
    rw [flat1] at hfc
    refine wpList_copy_own hgd d s dT sT ho e hu hsz g 0 n n _ _ _ hd hs (l.map f).toArray e hh (m.map f) ?_ hfc (by simp; omega) ?_ ?_
    · simp [Nat.min_def]; omega
    · intro v hv
      obtain ⟨x, _, rfl⟩ := List.mem_map.1 hv
      exact h1 x
    · have e1 : (((l.map f).toArray.toList.take 0 ++ (m.map f ++ (l.map f).toArray.toList.drop (0 + (m.map f).length))).toArray) = ((m ++ l.drop m.length).map f).toArray := by simp [List.map_drop]
      rw [e1]
      have h2 := h (w.setRow g ((m ++ l.drop m.length).map f).toArray) (own_of_full (setRow_heap w g _ _ e _ hh) hg hmx (by simp; omega)) (grown_setRow _ _ _)
      simpa using h2

/-- 'clear(out)': out is the call's own, known whole. -/
theorem wpList_clr {P : Program} {w : World} {ops : Array Oper} {rest : List Oper} {o : Oper} {a : Act} {Q : Exit → Act → World → Prop} (hgd : o.guard = none) (s : Operand) (t : TypeId)
    (ho : o.op = .call { callee := .builtin .clear, args := #[s], argTypes := #[t] }) (e : TypeId) (ht : P.underlying t = some (.slice e)) (z : Value) (hz : ∀ w, (zeroValue e).run P w = .ok z w) (hzc : z.cells = #[z]) (hz1 : z.oneCell' = true)
    {α : Type} {f : α → Value} (dflt : α) (hfd : f dflt = z) {base g n : Nat} {l : List α} (hs : a.eval s = .slice (some ⟨g, 0, none⟩) n n) (hown : Own w base e 1 (fun x => [f x]) (.slice (some ⟨g, 0, none⟩) n n) l) (hl : l.length = n) (hn : 0 < n)
    (h : ∀ w', Own w' base e 1 (fun x => [f x]) (.slice (some ⟨g, 0, none⟩) n n) (List.replicate n dflt) → w.grownBy w' (some g) → wpList P ops Q rest (a.put o.dst (.tuple #[])) w') : wpList P ops Q (o :: rest) a w := by
  obtain ⟨hh, hg, hmx⟩ := own_full hown hl
  refine wpList_plain hgd fun K hK => ?_
  have hzc' : (Builtin.zeroCells z.cells n).toList = List.replicate n z := by
    rw [hzc]
    simp [Builtin.zeroCells]
    apply List.ext_getElem
    · simp
    · intro i h1 h2
      simp [Nat.mod_one]
  have hst := run_storeCells_at P g 0 e (List.replicate n z) 0 (l.map f).toArray w hh (by simp; omega) (by intro v hv'; rw [List.eq_of_mem_replicate hv']; exact hz1)
  have e1 : (((l.map f).toArray.toList.take (0 + 0) ++ List.replicate n z ++ (l.map f).toArray.toList.drop (0 + 0 + (List.replicate n z).length)).toArray) = ((List.replicate n dflt).map f).toArray := by rw [List.drop_of_length_le (by simp [hl])]; simp [hfd]
  rw [e1] at hst
  have h2 := h (w.setRow g ((List.replicate n dflt).map f).toArray) (own_of_full (setRow_heap w g _ _ e _ hh) hg hmx (by simp)) (grown_setRow _ _ _)
  obtain ⟨m, rfl⟩ : ∃ m, n = m + 1 := ⟨n - 1, by omega⟩
  unfold Oper.wp
  simp [execOp, ho, resolve, invoke, builtin, hs, Builtin.clear_, run_underlying ht, hz, hzc', hst, Result.andThen]
  exact hK _ _ (by simpa using h2)

theorem u32_zero (w : World) : (zeroValue 98).run Tryd.prog w = .ok (.int .u32 0) w := by kernel_rfl

/-! One step of a division, bit by bit. -/
theorem div_more {a d e : Nat} (hd : 0 < d) (h : d ≤ 2 * (a % d) + e) (he : e ≤ 1) : (2 * a + e) / d = 2 * (a / d) + 1 ∧ (2 * a + e) % d = 2 * (a % d) + e - d := by
  have h1 := Nat.mod_add_div a d
  have h2 := Nat.mod_lt a hd
  have e1 : 2 * a + e = (2 * (a % d) + e - d) + d * (2 * (a / d) + 1) := by rw [Nat.mul_add, Nat.mul_left_comm d 2]; omega
  constructor
  · rw [e1, Nat.add_mul_div_left _ _ hd, Nat.div_eq_of_lt (by omega)]; omega
  · rw [e1, Nat.add_mul_mod_self_left, Nat.mod_eq_of_lt (by omega)]
theorem div_less {a d e : Nat} (hd : 0 < d) (h : 2 * (a % d) + e < d) : (2 * a + e) / d = 2 * (a / d) ∧ (2 * a + e) % d = 2 * (a % d) + e := by
  have h1 := Nat.mod_add_div a d
  have e1 : 2 * a + e = (2 * (a % d) + e) + d * (2 * (a / d)) := by rw [Nat.mul_left_comm d 2]; omega
  constructor
  · rw [e1, Nat.add_mul_div_left _ _ hd, Nat.div_eq_of_lt h]; omega
  · rw [e1, Nat.add_mul_mod_self_left, Nat.mod_eq_of_lt h]
theorem half_bit (n j : Nat) : n / 2 ^ j = 2 * (n / 2 ^ (j + 1)) + n / 2 ^ j % 2 := by
  rw [Nat.pow_succ, ← Nat.div_div_eq_div_mul]; omega
theorem or_pow {z s : Nat} (h : z / 2 ^ s % 2 = 0) : z ||| 2 ^ s = z + 2 ^ s := by
  have hp : 0 < 2 ^ s := Nat.pow_pos (by decide)
  have h1 := Nat.mod_add_div z (2 ^ (s + 1))
  have h2 : z % 2 ^ (s + 1) < 2 ^ s := by
    have h3 := Nat.mod_add_div z (2 ^ s)
    have h4 := Nat.mod_lt z hp
    have h5 : z / 2 ^ s = 2 * (z / 2 ^ s / 2) := by omega
    have h6 : z = z % 2 ^ s + 2 ^ (s + 1) * (z / 2 ^ s / 2) := by
      rw [Nat.pow_succ, Nat.mul_assoc, ← h5]; exact h3.symm
    rw [h6, Nat.add_mul_mod_self_left]
    exact Nat.lt_of_le_of_lt (Nat.mod_le _ _) h4
  have hx : (2 ^ (s + 1) * (z / 2 ^ (s + 1))) % 2 ^ (s + 1) = 0 := Nat.mul_mod_right _ _
  have e1 := nat_join (s + 1) (2 ^ (s + 1) * (z / 2 ^ (s + 1))) (z % 2 ^ (s + 1)) hx (Nat.mod_lt _ (Nat.pow_pos (by decide)))
  have e2 := nat_join s (2 ^ s) (z % 2 ^ (s + 1)) (Nat.mod_self _) h2
  have e3 := nat_join (s + 1) (2 ^ (s + 1) * (z / 2 ^ (s + 1))) (2 ^ s + z % 2 ^ (s + 1)) hx (by have hp2 : 2 ^ (s + 1) = 2 ^ s * 2 := Nat.pow_succ ..; omega)
  have ez : z = 2 ^ (s + 1) * (z / 2 ^ (s + 1)) ||| z % 2 ^ (s + 1) := by rw [e1]; omega
  generalize hX : 2 ^ (s + 1) * (z / 2 ^ (s + 1)) = X at *
  generalize hY : z % 2 ^ (s + 1) = Y at *
  rw [ez, Nat.or_assoc, Nat.or_comm Y, e2, e3]
  rw [← ez]; omega
/-- The bit j of a number that is a multiple of 2^(j+1). -/
theorem bit_free {n j t : Nat} (h : n = t * 2 ^ (j + 1)) : n / 2 ^ j % 2 = 0 := by
  rw [h, Nat.pow_succ, Nat.mul_comm (2 ^ j), ← Nat.mul_assoc, Nat.mul_div_cancel _ (Nat.pow_pos (by decide))]; omega
theorem set_bit {l : List Nat} {j z : Nat} (hz : l[j / 32]? = some z) : V (l.set (j / 32) (z + 2 ^ (j % 32))) = V l + 2 ^ j := by
  have h := valB_set (b := B32) (y := z + 2 ^ (j % 32)) hz
  have e1 : (2 : Nat) ^ j = B32 ^ (j / 32) * 2 ^ (j % 32) := by
    rw [b32_pow, ← Nat.pow_add]; congr 1; omega
  rw [Nat.mul_add] at h
  unfold V
  omega
theorem bit_lt {z s : Nat} (hz : z < 4294967296) (hs : s < 32) (h : z / 2 ^ s % 2 = 0) : z + 2 ^ s < 4294967296 := by
  rw [← or_pow h]
  exact Nat.or_lt_two_pow (n := 32) hz (Nat.pow_lt_pow_right (by decide) hs)

end Go.Proofs.YtliekcfcdfakjaaDoor
