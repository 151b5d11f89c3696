/- Contracts of algebra's zip (with differ) and Toeplitz, and of the reference's Toeplitz. For at most 512 bits, a result of at most 512 bits, a seed that fits. -/
import Derived.Test.YtbobbcfjjdmdgaaDrwA
import Derived.Test.YtbobbcfjjdmdgaaBits2
import Derived.Test.YtbobbcfjjdmdgaaGfC
namespace Go.Proofs.Ytbobbcfjjdmdgaa
open Go.RowKit
set_option linter.unusedVariables false
set_option linter.unusedSimpArgs false

/-- The bit i of a Toeplitz hash, of the first columns. -/
def toC (seed a : List Bool) (i : Nat) : Nat → Bool
  | 0 => false
  | k + 1 => toC seed a i k != ((a[k]?).getD false && (seed[i + (a.length - 1 - k)]?).getD false)
def toepK (seed a : List Bool) (out k : Nat) : List Bool := (List.range out).map (fun i => toC seed a i k)
def toepL (seed a : List Bool) (out : Nat) : List Bool := toepK seed a out a.length
theorem toepK_len (seed a : List Bool) (out k : Nat) : (toepK seed a out k).length = out := by simp [toepK]
theorem toepK_zero (seed a : List Bool) (out : Nat) : toepK seed a out 0 = List.replicate out false := by
  refine List.ext_getElem? fun i => ?_
  simp only [toepK, List.getElem?_map, List.getElem?_replicate]
  by_cases h : i < out
  · rw [List.getElem?_range h, if_pos h]; rfl
  · rw [List.getElem?_eq_none (by simpa using h), if_neg h]; rfl
theorem toepK_no {seed a : List Bool} {out k : Nat} (h : a[k]? = some false) : toepK seed a out (k + 1) = toepK seed a out k := by
  unfold toepK
  congr 1
  funext i
  rw [toC, h]; simp
theorem toepK_yes {seed a : List Bool} {out k : Nat} (h : a[k]? = some true) (hs : a.length - 1 - k + out ≤ seed.length) : toepK seed a out (k + 1) = xorL (toepK seed a out k) ((seed.drop (a.length - 1 - k)).take out) := by
  refine List.ext_getElem? fun i => ?_
  simp only [toepK, xorL, List.getElem?_map, List.getElem?_zipWith, List.getElem?_take, List.getElem?_drop]
  by_cases hi : i < out
  · rw [List.getElem?_range hi, if_pos hi]
    have hlt : a.length - 1 - k + i < seed.length := by omega
    rw [List.getElem?_eq_getElem hlt]
    simp only [Option.map_some]
    rw [toC, h, Nat.add_comm i, List.getElem?_eq_getElem hlt]
    simp
  · rw [List.getElem?_eq_none (by simpa using hi)]; simp

set_option maxHeartbeats 400000 in
theorem differ_any (x y : Bool) (w : World) : Calls Try.prog 164 #[.bool x, .bool y] w fun e w' => e = .returned (.bool (x != y)) ∧ w = w' := by
  go_enter Try.func164, Try.ntmps164
  go_wp2
  go_ret
  exact ⟨rfl, rfl⟩

set_option maxRecDepth 100000 in
set_option maxHeartbeats 2000000 in
theorem zip_any (A B : Option Addr) (cA cB : Nat) (a b : List Bool) (w : World) (hA : Arr 1 encB w w.heap.size A a) (hB : Arr 1 encB w w.heap.size B b) (hl : a.length = b.length) (hm : a.length ≤ 65536) :
    Calls Try.prog 163 #[.slice A a.length cA, .slice B b.length cB, .func (.func 164) #[] #[]] w fun e w' => ∃ v, e = .returned v ∧ Own w' w.heap.size 4 1 encB v (xorL a b) ∧ Below w.heap.size w w' := by
  obtain ⟨i0, hi, hz0, hz1, hz2⟩ := info_parts bool_info3
  have Hi := Lib.hid hi; have Hz0 := Lib.hid hz0; have Hz1 := Lib.hid hz1; have Hz2 := Lib.hid hz2
  clear hi hz0 hz1 hz2
  have xl : (xorL a b).length = a.length := by unfold xorL; rw [List.length_zipWith]; omega
  have Hxl := Lib.hid xl
  have Hl := Lib.hid hl
  clear xl hl
  obtain ⟨n, hn⟩ : ∃ n, n = a.length := ⟨_, rfl⟩
  have Hn := Lib.hid hn
  rw [← hn]
  have hbl : b.length = n := by rw [hn, Hl.out]
  rw [hbl]
  have Hbl := Lib.hid hbl
  rw [← hn] at hm
  clear hn hbl
  go_enter Try.func163, Try.ntmps163
  go_wp2_with (at_make; refine wpList_mk rfl _ _ 72 rfl 4 i0 _ 1 Try.underlying72 Hi.out Hz0.out Hz1.out Hz2.out rfl (fun b : Bool => Value.bool b) false rfl _ _ _ _ n rfl rfl rfl rfl (by omega) (by unfold maxLen; omega) ?_; intro w1 own1 hb1)
  have hfl : Hid (fill (xorL a b) false 0 = List.replicate n false) := Lib.hid (by rw [fill_zero, Hxl.out, Hn.out])
  go_loopw [15] (fun i wr => ∃ k : Nat, k ≤ n ∧ i = .int .i64 k ∧ Own wr w.heap.size 4 1 (fun x => [Value.bool x]) (.slice (some ⟨w.heap.size, 0, none⟩) n n) (fill (xorL a b) false k) ∧ Below w.heap.size w wr) (fun i _ => n - (intOf i).toNat)
  case atStart => exact ⟨0, Nat.zero_le _, rfl, by rw [hfl.out]; exact own1, hb1⟩
  case round =>
    obtain ⟨k, hk, rfl, ow, hb⟩ := hrel
    have hlen : Hid ((fill (xorL a b) false k).length = n) := Lib.hid ((fill_len _ _ (by rw [Hxl.out, ← Hn.out]; exact hk)).trans (by rw [Hxl.out, Hn.out]))
    rcases Nat.lt_or_ge k n with hlt | hge
    · obtain ⟨p, o, x, rfl, hp, hx, c0⟩ := hA.bool (k := k) (by rw [← Hn.out]; exact hlt) hb
      obtain ⟨p2, o2, y, rfl, hp2, hy, c1⟩ := hB.bool (k := k) (by rw [Hbl.out]; exact hlt) hb
      have f0 := ow.at1 hlen.out (k := k) (fill_at false (by rw [Hxl.out, ← Hn.out]; exact hlt))
      have f1 := ow.fr1 hlen.out k
      have hxy : Hid ((xorL a b)[k]? = some (x != y)) := Lib.hid (by unfold xorL; rw [List.getElem?_zipWith, hx.out, hy.out])
      have ow3 := ow.set1 hlen.out k (x != y)
      rw [fill_set false hxy.out] at ow3
      clear hx hy
      go_wp2_with (go_at_call 164; refine (differ_any _ _ _).mono ?_; rintro e w' ⟨rfl, rfl⟩)
      exact ⟨⟨k + 1, by omega, by go_num, ow3, hb.setCell (Nat.le_refl _) _⟩, by simp [intOf]; omega⟩
    · obtain rfl : k = n := by omega
      rw [fill_all _ _ (by rw [Hxl.out, ← Hn.out]; exact Nat.le_refl _)] at ow
      go_wp2_with fail
      go_ret
      exact ⟨_, rfl, ow, hb⟩

end Go.Proofs.Ytbobbcfjjdmdgaa
