/- Contracts of the reference's Xor, Count and Same of bit strings. For at most 65536 bits. -/
import Derived.Test.YteoaaphjbggobaaGreatMade
import Derived.Test.YteoaaphjbggobaaGreatProg
namespace Go.Proofs.YteoaaphjbggobaaGreat
open Go.RowKit
set_option linter.unusedVariables false
set_option linter.unusedSimpArgs false

theorem bool_info2 : (Tryz.prog.info? 4).map (fun i => (i.zero, i.size, i.bytes)) = some (some (.bool false), 1, 1) := by kernel_rfl
def xorL (a b : List Bool) : List Bool := List.zipWith (fun x y => x != y) a b
def cntL (l : List Bool) : Nat := (l.filter id).length
theorem cntL_le (l : List Bool) : cntL l ≤ l.length := List.length_filter_le _ _
theorem cnt_snoc {l : List Bool} {k : Nat} {x : Bool} (h : l[k]? = some x) : cntL (l.take (k + 1)) = cntL (l.take k) + (if x = true then 1 else 0) := by
  unfold cntL; rw [take_snoc h, List.filter_append]; cases x <;> simp
theorem xor_snoc {a b : List Bool} {k : Nat} {x y : Bool} (ha : a[k]? = some x) (hb : b[k]? = some y) : xorL (a.take (k + 1)) (b.take (k + 1)) = xorL (a.take k) (b.take k) ++ [x != y] := by
  have h1 := (List.getElem?_eq_some_iff.1 ha).1
  have h2 := (List.getElem?_eq_some_iff.1 hb).1
  unfold xorL; rw [take_snoc ha, take_snoc hb, List.zipWith_append (by simp; omega)]; rfl
theorem xor_self (a : List Bool) : cntL (xorL a a) = 0 := by
  unfold cntL xorL
  induction a with
  | nil => rfl
  | cons x a ih => simp

set_option maxRecDepth 100000 in
set_option maxHeartbeats 1000000 in
theorem refXor_any (A B : Option Addr) (n m : Nat) (a b : List Bool) (w : World) (hA : Arr 1 encB w w.heap.size A a) (hB : Arr 1 encB w w.heap.size B b) (hl : a.length ≤ 65536) (he : a.length ≤ b.length) (hbl : b.length ≤ 9223372036854775807) :
    Calls Tryz.prog 67 #[.slice A a.length n, .slice B b.length m] w fun e w' => ∃ v, e = .returned v ∧ Own w' w.heap.size 4 1 encB v (xorL a (b.take a.length)) ∧ Below w.heap.size w w' := by
  obtain ⟨i0, hi, hz0, hz1, hz2⟩ := info_parts bool_info2
  go_enter Tryz.func67, Tryz.ntmps67
  go_wp2
  go_loopw [5, 6] (fun v i wr => ∃ k : Nat, k ≤ a.length ∧ i = .int .i64 k ∧ Own wr w.heap.size 4 1 encB v (xorL (a.take k) (b.take k)) ∧ Below w.heap.size w wr) (fun _ i _ => a.length - (intOf i).toNat)
  case atStart => exact ⟨0, Nat.zero_le _, rfl, Own.nil, Below.refl _ _⟩
  case round =>
    obtain ⟨k, hk, rfl, hown, hb⟩ := hrel
    have hle : (xorL (a.take k) (b.take k)).length ≤ k := by simp [xorL]; omega
    by_cases hlt : k < a.length
    · obtain ⟨b1, off, x, rfl, hbb, hq, c0⟩ := hA.bool hlt hb
      obtain ⟨b2, off', y, rfl, hbb', hq', c0'⟩ := hB.bool (k := k) (by omega) hb
      have g0 : (0 : Int) ≤ (k : Int) := by omega
      have g1 : (k : Int) < (a.length : Int) := by omega
      have g2 : (k : Int) < (b.length : Int) := by omega
      have hs := hb.size
      go_wp2
      go_region_held3 (fun w' => w'.cell? ⟨b1, off + k, none⟩ = some (.bool x) ∧ w'.cell? ⟨b2, off' + k, none⟩ = some (.bool y))
        (first | go_keep | (go_split_ands; exact ⟨(hb5.cell hbb).trans (by simp [go_sem, *]), (hb5.cell hbb').trans (by simp [go_sem, *])⟩))
        ((refine step_snoc (by rfl) _ _ 22 (by rfl) w.heap.size 4 i0 _ 1 1 Tryz.underlying22 hi hz0 hz1 hz2 rfl (by decide) _ (xorL (a.take k) (b.take k)) (x != y) (by rfl) ((hown.alloc _).drew) (by rfl) (news_new rfl) rfl (encB_one _) (by omega) (by decide) (by simp; omega) ?_; intro v' w5 hown5 hb5))
      go_wp2
      go_roundw
      case rel => exact ⟨k + 1, by omega, by go_num, by rw [xor_snoc hq.out hq'.out]; exact hown5, ((below_alloc hb _).drew).trans hb5⟩
      case measure => simp [intOf]; omega
    · go_wp2
      go_ret
      obtain rfl : k = a.length := by omega
      exact ⟨_, rfl, by rw [List.take_length] at hown; exact hown, hb⟩

set_option maxHeartbeats 1000000 in
theorem refCount_any (A : Option Addr) (n : Nat) (a : List Bool) (w : World) (hA : Arr 1 encB w w.heap.size A a) (hl : a.length ≤ 4611686018427387904) :
    Calls Tryz.prog 66 #[.slice A a.length n] w fun e w' => e = .returned (.int .i64 (cntL a)) ∧ w = w' := by
  go_enter Tryz.func66, Tryz.ntmps66
  go_wp2
  go_loop [3, 4] (fun t i => ∃ k : Nat, k ≤ a.length ∧ i = .int .i64 k ∧ t = .int .i64 (cntL (a.take k))) (fun _ i => a.length - (intOf i).toNat)
  case atStart => exact ⟨0, Nat.zero_le _, rfl, rfl⟩
  case round =>
    obtain ⟨k, hk, rfl, rfl⟩ := hrel
    have hle : cntL (a.take k) ≤ k := by have := cntL_le (a.take k); simp at this; omega
    by_cases hlt : k < a.length
    · obtain ⟨b1, off, x, rfl, hbb, hq, c0⟩ := hA.bool hlt (Below.refl _ _)
      have Hs := Lib.hid (cnt_snoc hq.out)
      cases x
      · go_wp2
        go_round
        case rel => exact ⟨k + 1, by omega, by go_num, by rw [Hs.out]; simp⟩
        case measure => simp [intOf]; omega
      · go_wp2
        go_round
        case rel => exact ⟨k + 1, by omega, by go_num, by rw [Hs.out]; simp⟩
        case measure => simp [intOf]; omega
    · go_wp2
      go_ret
      obtain rfl : k = a.length := by omega
      exact ⟨ret_int (by rw [List.take_length]), rfl⟩

set_option maxHeartbeats 1000000 in
theorem Bools_same (A B : Option Addr) (n m : Nat) (l : List Bool) (w : World) (hA : Arr 1 encB w w.heap.size A l) (hB : Arr 1 encB w w.heap.size B l) (hl : l.length ≤ 65536) :
    Calls Tryz.prog 26 #[.slice A l.length n, .slice B l.length m] w fun e w' => e = .returned (.bool true) ∧ Below w.heap.size w w' := by
  go_enter Tryz.func26, Tryz.ntmps26
  go_wp2_with fail
  refine (refXor_any A B n m l l _ hA hB hl (Nat.le_refl _) (by omega)).mono ?_
  rintro e w1 ⟨v, rfl, hown, hb1⟩
  rw [List.take_length] at hown
  obtain ⟨A1, c1, hv, _, _, _, hr1⟩ := Own.form hown encB_len
  rw [hv]
  have hxl : (xorL l l).length ≤ 65536 := by simp [xorL]; omega
  go_wp2_with fail
  refine (refCount_any A1 c1 _ _ hr1 (by omega)).mono ?_
  rintro e w' ⟨rfl, rfl⟩
  rw [xor_self]
  go_wp2_with fail
  go_ret
  exact ⟨rfl, hb1⟩

end Go.Proofs.YteoaaphjbggobaaGreat
