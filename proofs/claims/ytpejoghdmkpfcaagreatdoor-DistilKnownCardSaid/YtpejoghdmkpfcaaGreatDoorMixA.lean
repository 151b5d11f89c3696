/- Contract of the reference's Number. For at most 40 bits. -/
import Derived.Test.YtpejoghdmkpfcaaGreatDoorMixP
namespace Go.Proofs.YtpejoghdmkpfcaaGreatDoor
open Go.RowKit
set_option linter.unusedVariables false
set_option linter.unusedSimpArgs false

theorem set_rep (k : Nat) (b : Bool) (R : List Bool) : (List.replicate (k + 1) false ++ R).set k b = List.replicate k false ++ (b :: R) := by
  rw [List.replicate_succ', List.append_assoc, List.set_append, if_neg (by simp)]
  simp

set_option maxRecDepth 100000 in
set_option maxHeartbeats 2000000 in
theorem Number_any (x n : Nat) (w : World) (hn : n ≤ 40) (hx : x < 9223372036854775808) :
    Calls Tryz.prog 10 #[.int .u64 x, .int .i64 n] w fun e w' => ∃ v, e = .returned v ∧ Own w' w.heap.size 4 1 encB v (numL x n) ∧ Below w.heap.size w w' := by
  obtain ⟨i0, hi, hz0, hz1, hz2⟩ := info_parts bool_info3
  have Hi := Lib.hid hi; have Hz0 := Lib.hid hz0; have Hz1 := Lib.hid hz1; have Hz2 := Lib.hid hz2
  clear hi hz0 hz1 hz2
  go_enter Tryz.func10, Tryz.ntmps10
  go_wp2_with (at_make; refine wpList_mk rfl _ _ 22 rfl 4 i0 _ 1 Tryz.underlying22 Hi.out Hz0.out Hz1.out Hz2.out rfl (fun b : Bool => Value.bool b) false rfl _ _ _ _ n rfl rfl rfl rfl (by omega) (by unfold maxLen; omega) ?_; intro w1 own1 hb1)
  go_loopw [0, 6] (fun y i wr => ∃ (k c : Nat) (R : List Bool), k ≤ n ∧ c ≤ x ∧ y = .int .u64 c ∧ i = .int .i64 ((k : Int) - 1) ∧ Hid (R.length = n - k ∧ numL c k ++ R = numL x n) ∧ Own wr w.heap.size 4 1 (fun x => [Value.bool x]) (.slice (some ⟨w.heap.size, 0, none⟩) n n) (List.replicate k false ++ R) ∧ Below w.heap.size w wr) (fun _ i _ => (intOf i + 1).toNat)
  case atStart => exact ⟨n, x, [], Nat.le_refl _, Nat.le_refl _, rfl, rfl, Lib.hid ⟨by simp, by simp⟩, by simpa using own1, hb1⟩
  case round =>
    obtain ⟨k, c, R, hk, hc, rfl, rfl, hinv, ow, hb⟩ := hrel
    rcases k with _ | k
    · have e0 : ((0 : Nat) : Int) - 1 = -1 := rfl
      rw [e0]
      go_wp2_with fail
      go_ret
      refine ⟨_, rfl, ?_, hb⟩
      have := hinv.out.2
      simp only [numL, List.nil_append] at this
      rw [← this]
      have ow2 := ow
      simp only [List.replicate_zero, List.nil_append] at ow2
      exact ow2
    · have e0 : ((k + 1 : Nat) : Int) - 1 = (k : Int) := by omega
      rw [e0]
      have hlen : (List.replicate (k + 1) false ++ R).length = n := by simp [hinv.out.1]; omega
      have f0 := ow.at1 hlen (k := k) (x := false) (by rw [List.getElem?_append_left (by simp), List.getElem?_replicate, if_pos (by omega)])
      have f1 := ow.fr1 hlen k
      have hbt : ((c : Int) % 2 == 1) = decide (c % 2 = 1) := by rw [Bool.eq_iff_iff]; simp; omega
      have ow3 := ow.set1 hlen k (decide (c % 2 = 1))
      rw [set_rep] at ow3
      have st : Hid (numL c (k + 1) = numL (c / 2) k ++ [decide (c % 2 = 1)]) := Lib.hid rfl
      generalize decide (c % 2 = 1) = bt at *
      have ed : (c : Int) / 2 = ((c / 2 : Nat) : Int) := by omega
      have Hed := Lib.hid ed
      clear ed hlen
      go_wp2_with fail
      refine ⟨⟨k, c / 2, bt :: R, by omega, by omega, by rw [Hed.out], rfl, Lib.hid ⟨by simp [hinv.out.1]; omega, by rw [← hinv.out.2, st.out]; simp⟩, ow3, hb.setCell (Nat.le_refl _) _⟩, by simp [intOf] <;> omega⟩

theorem toep_form {w : World} {base : Nat} {v : Value} {L : List Bool} (h : Own w base 4 1 encB v L) : ∃ A c, v = .slice A L.length c ∧ Arr 1 encB w w.heap.size A L := by
  obtain ⟨A, c, hv, _, _, _, ar⟩ := h.form encB_len
  exact ⟨A, c, hv, ar⟩

end Go.Proofs.YtpejoghdmkpfcaaGreatDoor
