/- Contracts of the reference's trim, small, digits, nat, compare of numbers. For at most a million digits. Contracts of the reference's compare, add, sub of numbers. For at most a million digits. Contracts of the reference's sub, mul, nat. For at most a million digits. Contract of the reference's mul. For at most a million digits. Contract of the reference's nat. For at most a million digits. Words for a slice of slices of digits that a call makes: what it reads as, and how it grows. No condition. Contract of the reference's divide: the doubles of the divisor. For at most a million digits. Contracts of the reference's divide and row. For at most a million digits; for at most 512 things. -/
import Derived.Test.YtfolgmcoggejbaaGreatNumAll
import Derived.Deep.AppendLies
import Derived.Deep.RegionLaw
import Derived.Deep.DeepCutAuto
namespace Go.Proofs.YtfolgmcoggejbaaGreat
open Go.RowKit
set_option linter.unusedVariables false
set_option linter.unusedSimpArgs false

/-- The slice at A with capacity c reads as digits to the base 256. -/
structure Dn (w : World) (A : Option Addr) (c : Nat) (l : List Nat) : Prop where
  arr : Arr 1 encD w w.heap.size A l
  len : l.length ≤ c
  cap : c ≤ maxLen
  dig : Dig 256 l
  nil : A = none → c = 0
theorem Dn.on {w w' : World} {A : Option Addr} {c : Nat} {l : List Nat} (h : Dn w A c l) (hb : Below w.heap.size w w') : Dn w' A c l := ⟨h.arr.on hb, h.len, h.cap, h.dig, h.nil⟩
theorem Dn.lt {w : World} {A : Option Addr} {c : Nat} {l : List Nat} (h : Dn w A c l) {k x : Nat} (hx : l[k]? = some x) : x < 256 := h.dig.get hx
theorem b8 : 2 ≤ 256 := by decide
def dg (n : Nat) : List Nat := digB 256 n
theorem dg_val (n : Nat) : valB 256 (dg n) = n := digB_val b8 n
theorem dg_dig (n : Nat) : Dig 256 (dg n) := digB_dig b8 n
/-- The call's own, normal. -/
def Dg (w : World) (base : Nat) (v : Value) (n : Nat) : Prop := Own w base 3 1 encD v (dg n)
theorem own_dn {w : World} {base : Nat} {v : Value} {l : List Nat} (h : Own w base 3 1 encD v l) (hd : Dig 256 l) : ∃ A c, v = .slice A l.length c ∧ Dn w A c l := by
  obtain ⟨A, c, hv, h1, h2, h3, h4⟩ := Own.form h encD_len
  exact ⟨A, c, hv, h4, h1, h2, hd, h3⟩
theorem own_dn2 {w : World} {base : Nat} {A : Option Addr} {n c : Nat} {l : List Nat} (h : Own w base 3 1 encD (.slice A n c) l) (hd : Dig 256 l) : Dn w A c l := by
  obtain ⟨A1, c1, hv1, hn1⟩ := own_dn h hd
  simp only [Value.slice.injEq] at hv1
  obtain ⟨rfl, _, rfl⟩ := hv1
  exact hn1
theorem Dg.dn {w : World} {base : Nat} {v : Value} {n : Nat} (h : Dg w base v n) : ∃ A c, v = .slice A (dg n).length c ∧ Dn w A c (dg n) := own_dn h (dg_dig n)
theorem Dg.below {w w' : World} {base : Nat} {v : Value} {n : Nat} (h : Dg w base v n) (hb : Below w.heap.size w w') : Dg w' base v n := Own.below h hb
theorem Dg.down {w : World} {base base' : Nat} {v : Value} {n : Nat} (h : Dg w base v n) (hb : base' ≤ base) : Dg w base' v n := Own.down h hb
theorem Own.trimD {w : World} {base : Nat} {A : Option Addr} {n c : Nat} {l : List Nat} (h : Own w base 3 1 encD (.slice A n c) l) (hd : Dig 256 l) : Dg w base (.slice A (dg (valB 256 l)).length c) (valB 256 l) := by
  have := Own.take h encD_len (trimL_le l)
  rw [← trimL_take, trimL_eq b8 hd] at this
  exact this
theorem int_info : (Tryz.prog.info? 3).map (fun i => (i.zero, i.size, i.bytes)) = some (some (.int .i64 0), 1, 8) := by kernel_rfl

section
variable {b : Nat}
theorem digB_at (hb : 2 ≤ b) {n k : Nat} (h : b ^ k ≤ n) : (digB b n)[k]? = some (n / b ^ k % b) := by
  induction k generalizing n with
  | zero =>
    rw [Nat.pow_zero] at h
    rw [digB_pos hb h]; simp
  | succ k ih =>
    have hp : 0 < b ^ (k + 1) := Nat.pow_pos (by omega)
    rw [digB_pos hb (by omega), List.getElem?_cons_succ, ih (by rw [Nat.le_div_iff_mul_le (by omega), ← Nat.pow_succ]; exact h), Nat.div_div_eq_div_mul, ← Nat.pow_succ']
theorem digB_lt_len (hb : 2 ≤ b) {n k : Nat} : k < (digB b n).length ↔ b ^ k ≤ n := by
  constructor
  · intro h
    rcases Nat.lt_or_ge n (b ^ k) with h1 | h1
    · have := digB_len_le hb h1; omega
    · exact h1
  · intro h
    exact (List.getElem?_eq_some_iff.1 (digB_at hb h)).1
end

/-- The four digits of a limb. -/
theorem limb_digits {x : Nat} (hx : x < 4294967296) : ∃ d0 d1 d2 d3 q1 q2 : Nat, (x : Int) % 256 = (d0 : Int) ∧ (x : Int) / 256 = (q1 : Int) ∧ (q1 : Int) % 256 = (d1 : Int) ∧ (x : Int) / 65536 = (q2 : Int) ∧ (q2 : Int) % 256 = (d2 : Int) ∧ (x : Int) / 16777216 = (d3 : Int) ∧
    Hid (Dig 256 [d0, d1, d2, d3] ∧ valB 256 [d0, d1, d2, d3] = x) := by
  refine ⟨x % 256, x / 256 % 256, x / 65536 % 256, x / 16777216, x / 256, x / 65536, by omega, by omega, by omega, by omega, by omega, by omega, Lib.hid ⟨?_, ?_⟩⟩
  · exact Dig.cons (by omega) (Dig.cons (by omega) (Dig.cons (by omega) (Dig.cons (by omega) Dig.nil)))
  · simp only [valB]; omega
theorem b8_pow (k : Nat) : 256 ^ (4 * k) = B32 ^ k := by rw [Nat.pow_mul]

end Go.Proofs.YtfolgmcoggejbaaGreat

namespace Go.Proofs.YtfolgmcoggejbaaGreat
open Go.RowKit
set_option linter.unusedVariables false
set_option linter.unusedSimpArgs false

theorem byte2 (t : Nat) : ∃ q r : Nat, (t : Int) / 256 = (q : Int) ∧ (t : Int) % 256 = (r : Int) ∧ Hid (q = t / 256 ∧ r = t % 256) :=
  ⟨t / 256, t % 256, by omega, by omega, Lib.hid ⟨rfl, rfl⟩⟩
theorem radd_step {l m O : List Nat} {k s t : Nat} (hk : O.length = k) (h : valB 256 O + 256 ^ k * s = valB 256 (l.take k) + valB 256 (m.take k)) (ht : t = s + l[k]?.getD 0 + m[k]?.getD 0) :
    valB 256 (O ++ [t % 256]) + 256 ^ (k + 1) * (t / 256) = valB 256 (l.take (k + 1)) + valB 256 (m.take (k + 1)) := by
  rw [valB_app, valB_one, hk, getD_take, getD_take, Nat.pow_succ, Nat.mul_assoc, Nat.add_assoc, ← Nat.mul_add, Nat.mod_add_div, ht, Nat.mul_add, Nat.mul_add]
  omega

end Go.Proofs.YtfolgmcoggejbaaGreat

namespace Go.Proofs.YtfolgmcoggejbaaGreat
open Go.RowKit
set_option linter.unusedVariables false
set_option linter.unusedSimpArgs false

theorem rsub_step {l m O : List Nat} {k s q r : Nat} (hk : O.length = k) (h : valB 256 O + valB 256 (m.take k) = valB 256 (l.take k) + 256 ^ k * s) (hs : r + m[k]?.getD 0 + s = l[k]?.getD 0 + 256 * q) :
    valB 256 (O ++ [r]) + valB 256 (m.take (k + 1)) = valB 256 (l.take (k + 1)) + 256 ^ (k + 1) * q := by
  rw [valB_app, valB_one, hk, getD_take, getD_take, Nat.pow_succ, Nat.mul_assoc]
  have := congrArg (256 ^ k * ·) hs
  simp only [Nat.mul_add] at this
  omega
theorem rsub_end {l m O : List Nat} {s : Nat} (h : valB 256 O + valB 256 (m.take O.length) = valB 256 l + 256 ^ O.length * s) (dl : Dig 256 l) (do_ : Dig 256 O) (ho : O.length = l.length) (hle : valB 256 m ≤ valB 256 l) : valB 256 O = valB 256 l - valB 256 m := by
  have a1 := valB_lt dl
  have a2 := valB_lt do_
  rw [← ho] at a1
  have e : valB 256 (m.take O.length) = valB 256 m := by
    by_cases hm : O.length ≤ m.length
    · have := valB_split (b := 256) m O.length hm
      rcases Nat.eq_zero_or_pos (valB 256 (m.drop O.length)) with h0 | h0
      · rw [this, h0]; simp
      · have : 256 ^ O.length * 1 ≤ 256 ^ O.length * valB 256 (m.drop O.length) := Nat.mul_le_mul_left _ h0
        omega
    · rw [List.take_of_length_le (by omega)]
  rw [e] at h
  rcases Nat.eq_zero_or_pos s with rfl | hs
  · omega
  · have : 256 ^ O.length * 1 ≤ 256 ^ O.length * s := Nat.mul_le_mul_left _ hs
    omega

end Go.Proofs.YtfolgmcoggejbaaGreat

namespace Go.Proofs.YtfolgmcoggejbaaGreat
open Go.RowKit
set_option linter.unusedVariables false
set_option linter.unusedSimpArgs false

theorem rmul_step {m o : List Nat} {I k s x y z q r P : Nat} (hz : o[I + k]? = some z) (hy : m[k]? = some y) (h : valB 256 o + 256 ^ (I + k) * s = P + 256 ^ I * (x * valB 256 (m.take k))) (ht : r + 256 * q = z + x * y + s) :
    valB 256 (o.set (I + k) r) + 256 ^ (I + (k + 1)) * q = P + 256 ^ I * (x * valB 256 (m.take (k + 1))) := by
  have h1 := valB_set (b := 256) (y := r) hz
  rw [valB_snoc hy]
  have e1 : 256 ^ (I + (k + 1)) * q = 256 ^ (I + k) * (256 * q) := by rw [show I + (k + 1) = I + k + 1 from by omega, Nat.pow_succ, Nat.mul_assoc]
  have e2 : 256 ^ I * (x * (valB 256 (m.take k) + 256 ^ k * y)) = 256 ^ I * (x * valB 256 (m.take k)) + 256 ^ (I + k) * (x * y) := by
    rw [Nat.mul_add, Nat.mul_add, Nat.pow_add]
    congr 1
    rw [Nat.mul_assoc, Nat.mul_left_comm x]
  rw [e1, e2]
  have := congrArg (256 ^ (I + k) * ·) ht
  simp only [Nat.mul_add] at this
  omega
theorem rmul_end {l m o : List Nat} {I s x : Nat} (hx : l[I]? = some x) (hz : o[I + m.length]? = some 0) (h : valB 256 o + 256 ^ (I + m.length) * s = valB 256 (l.take I) * valB 256 m + 256 ^ I * (x * valB 256 m)) :
    valB 256 (o.set (I + m.length) s) = valB 256 (l.take (I + 1)) * valB 256 m := by
  have h1 := valB_set (b := 256) (y := s) hz
  rw [valB_snoc hx, Nat.add_mul, Nat.mul_assoc]
  omega
theorem rmul_zero {l m o : List Nat} {I z : Nat} (hz : o[I + m.length]? = some z) (h : valB 256 o = valB 256 (l.take I) * valB 256 m) (hI : I ≤ l.length) (dl : Dig 256 l) (dm : Dig 256 m) : z = 0 := by
  refine valB_zero (b := 256) hz ?_
  rw [h, Nat.pow_add]
  have h1 := valB_lt (dl.take I)
  rw [List.length_take, Nat.min_eq_left hI] at h1
  have h2 := valB_lt dm
  exact Nat.mul_lt_mul'' h1 h2
theorem mul_byte {x y z s : Nat} (hx : x < 256) (hy : y < 256) (hz : z < 256) (hs : s < 256) :
    ∃ p t q r : Nat, (x : Int) * (y : Int) = (p : Int) ∧ (z : Int) + (p : Int) + (s : Int) = (t : Int) ∧ (t : Int) / 256 = (q : Int) ∧ (t : Int) % 256 = (r : Int) ∧ p ≤ 65025 ∧
      Hid (q < 256 ∧ r < 256 ∧ r + 256 * q = z + x * y + s) := by
  have h1 : x * y ≤ 255 * 255 := Nat.mul_le_mul (by omega) (by omega)
  refine ⟨x * y, z + x * y + s, (z + x * y + s) / 256, (z + x * y + s) % 256, by simp, by omega, by omega, by omega, h1, Lib.hid ⟨by omega, by omega, by omega⟩⟩

end Go.Proofs.YtfolgmcoggejbaaGreat

namespace Go.Proofs.YtfolgmcoggejbaaGreat
open Go.RowKit
set_option linter.unusedVariables false
set_option linter.unusedSimpArgs false

theorem dg_at (n k : Nat) : (dg n)[k]?.getD 0 = n / 256 ^ k % 256 := by
  unfold dg
  rcases Nat.lt_or_ge n (256 ^ k) with h | h
  · rw [List.getElem?_eq_none (digB_len_le b8 h), Nat.div_eq_of_lt h]; rfl
  · rw [digB_at b8 h]; rfl
theorem limb_step (n i t : Nat) : n / 256 ^ (i + t) % 256 ^ (3 - t + 1) = n / 256 ^ (i + (t + 1)) % 256 ^ (3 - t) * 256 + n / 256 ^ (i + t) % 256 := by
  rw [Nat.pow_succ', Nat.mod_mul, ← Nat.add_assoc, Nat.pow_succ 256 (i + t), ← Nat.div_div_eq_div_mul]
  omega
theorem limbs_at {n j : Nat} (h : B32 ^ j ≤ n) : (limbs n)[j]? = some (n / B32 ^ j % B32) := digB_at b32 h
theorem len_limbs {n j : Nat} : 4 * j < (dg n).length ↔ j < (limbs n).length := by
  unfold dg limbs
  rw [digB_lt_len b8, digB_lt_len b32, b8_pow]

end Go.Proofs.YtfolgmcoggejbaaGreat

namespace Go.Proofs.YtfolgmcoggejbaaGreat
open Go.RowKit
set_option linter.unusedVariables false
set_option linter.unusedSimpArgs false

/-- A slice as it lies in a cell. -/
structure It where
  A : Option Addr
  n : Nat
  c : Nat
def It.enc (x : It) : Value := .slice x.A x.n x.c
theorem It.one (x : It) : ∀ u ∈ [x.enc], u.oneCell' = true := by simp [It.enc, Value.oneCell']
theorem ints_info : (Tryz.prog.info? 76).map (fun i => (i.zero, i.size, i.bytes)) = some (some (.slice none 0 0), 1, 24) := by kernel_rfl

/-- n slices, the k-th one the digits of f k; the call's own, from base on. -/
def Rows (w : World) (base : Nat) (v : Value) (f : Nat → Nat) (n : Nat) : Prop :=
  ∃ g cap, ∃ items : List It, v = .slice (some ⟨g, 0, none⟩) n cap ∧ items.length = n ∧ Own w base 76 1 (fun x => [It.enc x]) v items ∧
    ∀ (k : Nat) (it : It), items[k]? = some it → it.n = (dg (f k)).length ∧ Dn w it.A it.c (dg (f k)) ∧ ∀ a, it.A = some a → a.block ≠ g ∧ a.block < w.heap.size

theorem Rows.on {w w' : World} {base : Nat} {v : Value} {f : Nat → Nat} {n : Nat} (h : Rows w base v f n) (hb : Below w.heap.size w w') : Rows w' base v f n := by
  obtain ⟨g, cap, items, hv, hl, ho, hi⟩ := h
  exact ⟨g, cap, items, hv, hl, ho.below hb, fun k it hk => ⟨(hi k it hk).1, (hi k it hk).2.1.on hb, fun a ha => ⟨((hi k it hk).2.2 a ha).1, Nat.lt_of_lt_of_le ((hi k it hk).2.2 a ha).2 hb.size⟩⟩⟩
theorem Rows.down {w : World} {base base' : Nat} {v : Value} {f : Nat → Nat} {n : Nat} (h : Rows w base v f n) (hb : base' ≤ base) : Rows w base' v f n := by
  obtain ⟨g, cap, items, hv, hl, ho, hi⟩ := h
  exact ⟨g, cap, items, hv, hl, ho.down hb, hi⟩
/-- The value, and its elements. -/
theorem Rows.form {w : World} {base : Nat} {v : Value} {f : Nat → Nat} {n : Nat} (h : Rows w base v f n) :
    ∃ g cap, v = .slice (some ⟨g, 0, none⟩) n cap ∧ g < w.heap.size ∧ base ≤ g ∧ ∀ k, k < n → ∃ A c, w.cell? ⟨g, k, none⟩ = some (.slice A (dg (f k)).length c) ∧ Dn w A c (dg (f k)) := by
  obtain ⟨g, cap, items, rfl, hl, ho, hi⟩ := h
  refine ⟨g, cap, rfl, ho.g_lt, ho.base_le, fun k hk => ?_⟩
  obtain ⟨it, hit⟩ : ∃ it, items[k]? = some it := ⟨_, List.getElem?_eq_getElem (by omega)⟩
  obtain ⟨h1, h2, _⟩ := hi k it hit
  have h3 := Own.at1 (f := It.enc) ho hl hit
  refine ⟨it.A, it.c, ?_, h2⟩
  rw [h3, It.enc, h1]
theorem dn_grown {w w' : World} {A : Option Addr} {c : Nat} {l : List Nat} {row : Option Nat} (h : Dn w A c l) (hg : w.grownBy w' row) (hne : ∀ a, A = some a → some a.block ≠ row) : Dn w' A c l := by
  refine ⟨fun hl => ?_, h.len, h.cap, h.dig, h.nil⟩
  obtain ⟨b, off, hA, hb, hc⟩ := h.arr hl
  exact ⟨b, off, hA, Nat.lt_of_lt_of_le hb hg.size, fun i x hx j u hu => hg.cell (hc i x hx j u hu) (show some b ≠ row from hne _ hA)⟩

/-- What an append makes of it. -/
theorem Rows.snoc {w w' : World} {base g : Nat} {f : Nat → Nat} {n : Nat} {items : List It} {A : Option Addr} {c : Nat} {v : Value} (hv : v.ownBlock = some g)
    (hl : items.length = n) (hi : ∀ (k : Nat) (it : It), items[k]? = some it → it.n = (dg (f k)).length ∧ Dn w it.A it.c (dg (f k)) ∧ ∀ a, it.A = some a → a.block ≠ g ∧ a.block < w.heap.size)
    (hA : Dn w A c (dg (f n))) (hA2 : ∀ a, A = some a → a.block ≠ g ∧ a.block < w.heap.size)
    {g' cap' : Nat} (ho : w'.ownsRow base 76 1 (.slice (some ⟨g', 0, none⟩) (n + 1) cap') (n + 1) (items.map It.enc ++ [.slice A (dg (f n)).length c])) (hg : w.grownBy w' v.ownBlock) (hat : v.ownBlock = some g' ∨ g' = w.heap.size) :
    Rows w' base (.slice (some ⟨g', 0, none⟩) (n + 1) cap') f (n + 1) := by
  rw [hv] at hg hat
  have hgg : ∀ b : Nat, b ≠ g → b < w.heap.size → b ≠ g' := fun b h1 h2 => by
    rcases hat with h | h
    · cases h; exact h1
    · omega
  refine ⟨g', cap', items ++ [⟨A, (dg (f n)).length, c⟩], rfl, by rw [List.length_append, hl]; rfl, ?_, ?_⟩
  · unfold Own
    rw [flat1, List.map_append, List.length_append, hl]
    exact ho
  · intro k it hk
    rcases Nat.lt_or_ge k n with h | h
    · rw [List.getElem?_append_left (by omega)] at hk
      obtain ⟨h1, h2, h3⟩ := hi k it hk
      exact ⟨h1, dn_grown h2 hg (fun a ha h' => (h3 a ha).1 (by simpa using h')), fun a ha => ⟨hgg _ (h3 a ha).1 (h3 a ha).2, Nat.lt_of_lt_of_le (h3 a ha).2 hg.size⟩⟩
    · have hkn : k = n := by
        have := (List.getElem?_eq_some_iff.1 hk).1
        rw [List.length_append, hl] at this
        simp at this; omega
      subst hkn
      rw [List.getElem?_append_right (by omega), hl, Nat.sub_self] at hk
      obtain rfl : (⟨A, (dg (f k)).length, c⟩ : It) = it := by simpa using hk
      exact ⟨rfl, dn_grown hA hg (fun a ha h' => (hA2 a ha).1 (by simpa using h')), fun a ha => ⟨hgg _ (hA2 a ha).1 (hA2 a ha).2, Nat.lt_of_lt_of_le (hA2 a ha).2 hg.size⟩⟩

/-- The new element: the call's own, made behind all that lay. -/
theorem dg_far {w : World} {base : Nat} {A : Option Addr} {k c n g : Nat} (h : Dg w base (.slice A k c) n) (hg : g < base) : ∀ a, A = some a → a.block ≠ g ∧ a.block < w.heap.size := by
  rintro a rfl
  have := World.ownsRow.lt h a.block rfl
  omega

/-- 'out = append(out, x)' at a plain list. -/
theorem wpList_row {ops : Array Oper} {rest : List Oper} {o : Oper} {a : Act} {Q : Exit → Act → World → Prop} {W : World} (hgd : o.guard = none) (s x : Operand)
    (ho : o.op = .call { callee := .builtin .append, args := #[s, x], argTypes := #[128, 128] }) (base : Nat) {v : Value} {f : Nat → Nat} {n : Nat} (hr : Rows W base v f n) (hs : a.eval s = v) (hn : n ≤ 1000000)
    {A : Option Addr} {c bx k : Nat} (hx : a.eval x = .slice (some ⟨bx, 0, none⟩) 1 1) (hc : W.cell? ⟨bx, 0, none⟩ = some (.slice A k c)) (hk : k = (dg (f n)).length) (hA : Dn W A c (dg (f n))) (hA2 : ∀ g, v.ownBlock = some g → ∀ a, A = some a → a.block ≠ g ∧ a.block < W.heap.size) (hbase : base ≤ W.heap.size)
    (h : ∀ v' w', Rows w' base v' f (n + 1) → Below base W w' → wpList Tryz.prog ops Q rest (a.put o.dst v') w') : wpList Tryz.prog ops Q (o :: rest) a W := by
  subst hk
  obtain ⟨i0, hi, hz0, hz1, hz2⟩ := info_parts ints_info
  obtain ⟨g, cap, items, rfl, hl, hown, hit⟩ := hr
  have hown2 : W.ownsRow base 76 1 (.slice (some ⟨g, 0, none⟩) n cap) n (items.map It.enc) := by
    have := hown; unfold Own at this; rw [flat1, hl] at this; exact this
  refine wpList_append_lies (P := Tryz.prog) W hgd s x 128 ho base 76 i0 _ 1 24 Tryz.underlying128 hi hz0 hz1 hz2 rfl (by decide) _ n _ hs hown2 ⟨bx, 0, none⟩ 1 1 [.slice A (dg (f n)).length c] hx rfl ?_ (by simp [Value.oneCell']) (by decide) (by unfold maxLen; omega) (by omega) hbase _ rfl ?_
  · intro j u hu
    cases j with
    | zero => obtain rfl : Value.slice A (dg (f n)).length c = u := by simpa using hu
              exact hc
    | succ j => simp at hu
  · intro g' cap' w' h2 h3 h4 h5
    refine h _ w' (Rows.snoc rfl hl hit hA (hA2 g rfl) h2 h3 h4) ?_
    exact (Below.refl _ _).grown h3 hbase (fun q hq => by cases hq; exact hown.base_le)
/-- The same at a step of a region that draws its order. -/
theorem step_row {ops : Array Oper} {o : Oper} {a : Act} {K : Act → World → Prop} {Q : Exit → Act → World → Prop} {E : Prop} {W : World} (hgd : o.guard = none) (s x : Operand)
    (ho : o.op = .call { callee := .builtin .append, args := #[s, x], argTypes := #[128, 128] }) (base : Nat) {v : Value} {f : Nat → Nat} {n : Nat} (hr : Rows W base v f n) (hs : a.eval s = v) (hn : n ≤ 1000000)
    {A : Option Addr} {c bx k : Nat} (hx : a.eval x = .slice (some ⟨bx, 0, none⟩) 1 1) (hc : W.cell? ⟨bx, 0, none⟩ = some (.slice A k c)) (hk : k = (dg (f n)).length) (hA : Dn W A c (dg (f n))) (hA2 : ∀ g, v.ownBlock = some g → ∀ a, A = some a → a.block ≠ g ∧ a.block < W.heap.size) (hbase : base ≤ W.heap.size)
    (h : ∀ v' w', Rows w' base v' f (n + 1) → Below base W w' → K (a.put o.dst v') w') : if Region.wanted o (yielded ops a.tmps) = true then Oper.wp Tryz.prog o a W K Q else E := by
  subst hk
  obtain ⟨i0, hi, hz0, hz1, hz2⟩ := info_parts ints_info
  obtain ⟨g, cap, items, rfl, hl, hown, hit⟩ := hr
  have hown2 : W.ownsRow base 76 1 (.slice (some ⟨g, 0, none⟩) n cap) n (items.map It.enc) := by
    have := hown; unfold Own at this; rw [flat1, hl] at this; exact this
  refine step_append_lies (P := Tryz.prog) W hgd s x 128 ho base 76 i0 _ 1 24 Tryz.underlying128 hi hz0 hz1 hz2 rfl (by decide) _ n _ hs hown2 ⟨bx, 0, none⟩ 1 1 [.slice A (dg (f n)).length c] hx rfl ?_ (by simp [Value.oneCell']) (by decide) (by unfold maxLen; omega) (by omega) hbase _ rfl ?_
  · intro j u hu
    cases j with
    | zero => obtain rfl : Value.slice A (dg (f n)).length c = u := by simpa using hu
              exact hc
    | succ j => simp at hu
  · intro g' cap' w' h2 h3 h4 h5
    refine h _ w' (Rows.snoc rfl hl hit hA (hA2 g rfl) h2 h3 h4) ?_
    exact (Below.refl _ _).grown h3 hbase (fun q hq => by cases hq; exact hown.base_le)
/-- One slice, laid. -/
theorem rows_lit (w : World) (base : Nat) (A : Option Addr) (c : Nat) (f : Nat → Nat) (h : Dn w A c (dg (f 0))) (hA : ∀ a, A = some a → a.block < w.heap.size) (hb : base ≤ w.heap.size) :
    Rows (w.alloc (.cells #[.slice A (dg (f 0)).length c] 76)) base (.slice (some ⟨w.heap.size, 0, none⟩) 1 1) f 1 := by
  refine ⟨w.heap.size, 1, [⟨A, (dg (f 0)).length, c⟩], rfl, rfl, ?_, ?_⟩
  · exact World.ownsRow_lit (size := 1) w #[.slice A (dg (f 0)).length c] 1 hb (by unfold maxLen; omega) rfl
  · intro k it hk
    have hk0 : k = 0 := by have := (List.getElem?_eq_some_iff.1 hk).1; simp at this; exact this
    subst hk0
    obtain rfl : (⟨A, (dg (f 0)).length, c⟩ : It) = it := by simpa using hk
    exact ⟨rfl, h.on (below_alloc (Below.refl _ _) _), fun a ha => ⟨by have := hA a ha; omega, by have := hA a ha; simp; omega⟩⟩

end Go.Proofs.YtfolgmcoggejbaaGreat

namespace Go.Proofs.YtfolgmcoggejbaaGreat
open Go.RowKit
set_option linter.unusedVariables false
set_option linter.unusedSimpArgs false

theorem dg_len_mul (y k : Nat) : (dg (y * 2 ^ k)).length ≤ (dg y).length + k := by
  refine digB_len_le b8 ?_
  rw [Nat.pow_add]
  have h1 : y < 256 ^ (dg y).length := digB_lt b8 y
  have h2 : 2 ^ k ≤ 256 ^ k := Nat.pow_le_pow_left (by decide) k
  exact Nat.lt_of_lt_of_le (Nat.mul_lt_mul_of_pos_right h1 (Nat.pow_pos (by decide))) (Nat.mul_le_mul_left _ h2)
theorem dbl_next (y j : Nat) : valB 256 (dg (y * 2 ^ j)) + valB 256 (dg (y * 2 ^ j)) = y * 2 ^ (j + 1) := by
  rw [dg_val, Nat.pow_succ, ← Nat.mul_assoc]; omega
theorem Dn.lt_size {w : World} {A : Option Addr} {c : Nat} {l : List Nat} (h : Dn w A c l) (hl : l ≠ []) : ∀ a, A = some a → a.block < w.heap.size := by
  intro a ha
  obtain ⟨b, off, hA, hb, _⟩ := h.arr hl
  rw [hA] at ha; cases ha; exact hb
theorem dg_ne {y : Nat} (h : 0 < y) : dg y ≠ [] := fun h0 => by
  have := (digB_nil b8 (n := y)).1 h0
  omega

theorem Arr.drop {α : Type} {sz : Nat} {enc : α → List Value} {w : World} {B b off : Nat} {l : List α} (h : Arr sz enc w B (some ⟨b, off, none⟩) l) (k : Nat) : Arr sz enc w B (some ⟨b, off + k * sz, none⟩) (l.drop k) := fun hl => by
  obtain ⟨b', off', he, hb, hc⟩ := h (by rintro rfl; simp at hl)
  cases he
  refine ⟨b, _, rfl, hb, fun i x hx j u hu => ?_⟩
  rw [List.getElem?_drop] at hx
  have := hc _ x hx j u hu
  rw [Nat.add_mul, ← Nat.add_assoc] at this
  exact this
theorem valB_drop {b : Nat} {l : List Nat} (h : Dig b l) {k : Nat} (hk : k ≤ l.length) : valB b (l.drop k) = valB b l / b ^ k := by
  have h1 := valB_split (b := b) l k hk
  have h2 := valB_lt (h.take k)
  rw [List.length_take, Nat.min_eq_left hk] at h2
  rw [h1, Nat.add_mul_div_left _ _ (by omega), Nat.div_eq_of_lt h2, Nat.zero_add]
theorem Dig.drop {b : Nat} {l : List Nat} (h : Dig b l) (k : Nat) : Dig b (l.drop k) := fun x hx => h x (List.mem_of_mem_drop hx)
theorem far_al {w : World} {A : Option Addr} {g : Nat} (h : ∀ a, A = some a → a.block ≠ g ∧ a.block < w.heap.size) (o : Obj) {n cap : Nat} : ∀ g', (Value.slice (some ⟨g, 0, none⟩) n cap).ownBlock = some g' → ∀ a, A = some a → a.block ≠ g' ∧ a.block < (w.alloc o).heap.size := by
  intro g' hg'
  cases hg'
  exact fun a ha => ⟨(h a ha).1, by have := (h a ha).2; simp; omega⟩

theorem digit_of {b : Nat} {l : List Nat} (h : Dig b l) {i z : Nat} (hz : l[i]? = some z) : valB b l / b ^ i % b = z := by
  have hi := (List.getElem?_eq_some_iff.1 hz).1
  rw [← valB_drop h (by omega), List.drop_eq_getElem_cons hi, valB, Nat.add_mul_mod_self_left, (List.getElem?_eq_some_iff.1 hz).2]
  exact Nat.mod_eq_of_lt (h.get hz)
theorem set_same {l : List Nat} {i z : Nat} (hz : l[i]? = some z) : l.set i z = l := by
  obtain ⟨hi, rfl⟩ := List.getElem?_eq_some_iff.1 hz
  exact List.set_getElem_self hi
theorem div_round {x y i xi R U z ρ : Nat} (hxi : xi = x / 256 ^ i % 256) (hR : x / 256 ^ (i + 1) % y = R) (hU : xi + 256 * R = U) (hz : z * y + ρ = U) (hρ : ρ < y) : x / 256 ^ i / y = 256 * (x / 256 ^ (i + 1) / y) + z ∧ x / 256 ^ i % y = ρ := by
  have h1 : x / 256 ^ (i + 1) = x / 256 ^ i / 256 := by rw [Nat.pow_succ, Nat.div_div_eq_div_mul]
  have h2 := Nat.mod_add_div (x / 256 ^ i) 256
  have h3 := Nat.mod_add_div (x / 256 ^ (i + 1)) y
  rw [hR] at h3
  generalize x / 256 ^ (i + 1) / y = q at *
  rw [← h1, ← h3, ← hxi] at h2
  have e : x / 256 ^ i = ρ + y * (256 * q + z) := by
    rw [← h2, Nat.mul_add y, Nat.mul_left_comm y 256, Nat.mul_comm y z, Nat.mul_add 256]
    omega
  constructor
  · rw [e, Nat.add_mul_div_left _ _ (by omega), Nat.div_eq_of_lt hρ, Nat.zero_add]
  · rw [e, Nat.add_mul_mod_self_left, Nat.mod_eq_of_lt hρ]
theorem pow_8 {j : Nat} (h : j < 8) : 2 ^ (8 - j) = 2 * 2 ^ (8 - (j + 1)) := by
  rw [← Nat.pow_succ']; congr 1; omega
theorem div_bit0 {y z z2 ρ U j : Nat} (hz : z < 2 ^ (8 - (j + 1))) (hU : z * (y * 2 ^ (j + 1)) + ρ = U) (h2 : z2 = 2 * z) (hj : j < 8) : z2 < 2 ^ (8 - j) ∧ z2 * (y * 2 ^ j) + ρ = U := by
  rw [pow_8 hj, h2]
  refine ⟨by omega, ?_⟩
  rw [← hU, Nat.pow_succ]
  congr 1
  simp only [Nat.mul_comm, Nat.mul_left_comm, Nat.mul_assoc]
theorem div_bit1 {y z z2 ρ U j : Nat} (hz : z < 2 ^ (8 - (j + 1))) (hU : z * (y * 2 ^ (j + 1)) + ρ = U) (h2 : z2 = 2 * z) (hρ : ρ < y * 2 ^ (j + 1)) (hge : y * 2 ^ j ≤ ρ) (hj : j < 8) : z2 + 1 < 2 ^ (8 - j) ∧ (z2 + 1) * (y * 2 ^ j) + (ρ - y * 2 ^ j) = U ∧ ρ - y * 2 ^ j < y * 2 ^ j ∧ z2 + 1 < 256 := by
  obtain ⟨h3, h4⟩ := div_bit0 hz hU h2 hj
  have h5 : 2 ^ (8 - j) ≤ 2 ^ 8 := Nat.pow_le_pow_right (by decide) (by omega)
  have h6 : y * 2 ^ (j + 1) = 2 * (y * 2 ^ j) := by rw [Nat.pow_succ]; simp only [Nat.mul_comm, Nat.mul_left_comm]
  have h7 := pow_8 hj
  have h8 : (2 : Nat) ^ 8 = 256 := by decide
  rw [Nat.add_mul, Nat.one_mul]
  omega
theorem div_first {x y T : Nat} {X Y : List Nat} (hX : dg x = X) (hY : dg y = Y) (hT : T + Y.length = X.length + 1) (hy : 0 < y) : x / 256 ^ T < y := by
  have h1 : x < 256 ^ X.length := by rw [← hX]; exact digB_lt b8 x
  have h2 : 0 < Y.length := by rw [← hY]; exact List.length_pos_iff.2 (dg_ne hy)
  have h3 : 256 ^ (Y.length - 1) ≤ y := (digB_lt_len b8).1 (by change _ < (dg y).length; rw [hY]; omega)
  have h4 : x / 256 ^ T < 256 ^ (Y.length - 1) := by
    rw [Nat.div_lt_iff_lt_mul (Nat.pow_pos (by decide)), ← Nat.pow_add, show Y.length - 1 + T = X.length from by omega]; exact h1
  omega

end Go.Proofs.YtfolgmcoggejbaaGreat

namespace Go.Proofs.YtfolgmcoggejbaaGreat
open Go.RowKit
set_option linter.unusedVariables false
set_option linter.unusedSimpArgs false

theorem dg_len {n k m : Nat} (h : n < 2 ^ m) (hm : m ≤ 8 * k) : (dg n).length ≤ k := digB_len_le b8 (by
  have e : (256 : Nat) ^ k = 2 ^ (8 * k) := by rw [Nat.pow_mul]
  rw [e]; exact Nat.lt_of_lt_of_le h (Nat.pow_le_pow_right (by decide) hm))
theorem dgch_len {n k : Nat} (h : n ≤ 512) : (dg (ch n k)).length ≤ 65 :=
  dg_len (m := n + 1) (Nat.lt_of_le_of_lt (ch_le n k) (Nat.pow_lt_pow_right (by decide) (by omega))) (by omega)
theorem dg_mul (a b : Nat) : (dg (a * b)).length ≤ (dg a).length + (dg b).length := by
  refine digB_len_le b8 ?_
  rw [Nat.pow_add]
  exact Nat.mul_lt_mul'' (digB_lt b8 a) (digB_lt b8 b)

end Go.Proofs.YtfolgmcoggejbaaGreat
