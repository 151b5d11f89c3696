/- Contracts of distil's between, kindOK, Check, sum, Total, Of. For lists whose length is an int's. -/
import Derived.Test.YtiphhkfmemkldaaDoorProg
import Derived.Test.YtiphhkfmemkldaaDoorLedP
namespace Go.Proofs.YtiphhkfmemkldaaDoor
open Go.RowKit
set_option linter.unusedVariables false
set_option linter.unusedSimpArgs false

set_option maxHeartbeats 400000 in
theorem dbetween_any (n a b : Int) (w : World) :
    Calls Tryd.prog 49 #[.int .i64 n, .int .i64 a, .int .i64 b] w fun e w' => e = .returned (.bool (betwB n a b)) ∧ w = w' := by
  go_enter Tryd.func49, Tryd.ntmps49
  go_wp2
  all_goals (go_ret; exact ⟨ret_bool (by simp [betwB]; try omega), rfl⟩)
theorem kindOK_any (n : Int) (w : World) :
    Calls Tryd.prog 48 #[.int .i64 n] w fun e w' => e = .returned (.bool (kindB n)) ∧ w = w' := by
  go_enter Tryd.func48, Tryd.ntmps48
  go_wp2_with (go_at_call 49; refine (dbetween_any _ _ _ _).mono ?_; rintro e w' ⟨rfl, rfl⟩)
  go_ret
  exact ⟨rfl, rfl⟩

set_option maxHeartbeats 1000000 in
theorem dCheck_any (A : Option Addr) (c : Nat) (l : List Itm) (w : World) (h : Arr 2 Itm.enc w w.heap.size A l) (hl : l.length ≤ 4611686018427387904) :
    Calls Tryd.prog 21 #[.slice A l.length c] w fun e w' => e = .returned (.int .i64 (ledE l)) ∧ Below w.heap.size w w' := by
  by_cases h4 : 1000 < l.length
  · go_enter Tryd.func21, Tryd.ntmps21
    go_wp2
    go_ret
    exact ⟨ret_int (ledE_many h4).symm, Below.refl _ _⟩
  · have h4' : decide (1000 < (l.length : Int)) = false := by simp; omega
    go_enter Tryd.func21, Tryd.ntmps21
    go_wp2
    go_loopw [10] (fun i wr => ∃ k : Nat, k ≤ l.length ∧ i = .int .i64 k ∧ firstE (l.take k) = 0 ∧ Below w.heap.size w wr) (fun i _ => l.length - (intOf i).toNat)
    case atStart => exact ⟨0, Nat.zero_le _, rfl, rfl, Below.refl _ _⟩
    case round =>
      obtain ⟨k, hk, rfl, hall, hb⟩ := hrel
      have Hall := Lib.hid hall; clear hall
      by_cases hlt : k < l.length
      · obtain ⟨b, off, qk, qb, rfl, hbb, hq, c0, c1⟩ := h.itm hlt hb
        have hb2 := below_alloc hb (.cells #[.int .i64 qk, .int .i64 qb] 71)
        rcases itmE_cases ⟨qk, qb⟩ with ⟨k1, e1⟩ | ⟨k1, k2, e1⟩ | ⟨k1, k2, e1⟩
        · have K1 := Lib.hid k1
          have fin := Lib.hid ((ledE_few h4).trans ((first_bad Hall.out hq.out (by rw [e1]; decide)).trans e1))
          clear k1 e1
          go_wp2_with (go_at_call 48; refine (kindOK_any _ _).mono ?_; rintro e w' ⟨rfl, rfl⟩; rw [K1.out])
          go_ret
          exact ⟨ret_int fin.out.symm, hb2⟩
        · have K1 := Lib.hid k1
          have K2 := Lib.hid k2
          have fin := Lib.hid ((ledE_few h4).trans ((first_bad Hall.out hq.out (by rw [e1]; decide)).trans e1))
          clear k1 k2 e1
          go_wp2_with (first | (go_at_call 48; refine (kindOK_any _ _).mono ?_; rintro e w' ⟨rfl, rfl⟩; rw [K1.out]) | (go_at_call 49; refine (dbetween_any _ _ _ _).mono ?_; rintro e w' ⟨rfl, rfl⟩; rw [K2.out]))
          go_ret
          exact ⟨ret_int fin.out.symm, hb2⟩
        · have K1 := Lib.hid k1
          have K2 := Lib.hid k2
          have fin := Lib.hid (first_take Hall.out hq.out e1)
          clear k1 k2 e1
          go_wp2_with (first | (go_at_call 48; refine (kindOK_any _ _).mono ?_; rintro e w' ⟨rfl, rfl⟩; rw [K1.out]) | (go_at_call 49; refine (dbetween_any _ _ _ _).mono ?_; rintro e w' ⟨rfl, rfl⟩; rw [K2.out]))
          go_roundw
          case rel => exact ⟨k + 1, by omega, by go_num, fin.out, hb2⟩
          case measure => simp [intOf]; omega
      · go_wp2
        go_ret
        exact ⟨ret_int (by rw [ledE_few h4, ← Hall.out, List.take_of_length_le (by omega)]), hb⟩

set_option maxHeartbeats 1000000 in
theorem sumKind_any (A : Option Addr) (c : Nat) (l : List Itm) (w : World) (h : Arr 2 Itm.enc w w.heap.size A l) (hl : l.length ≤ 4611686018427387904) :
    Calls Tryd.prog 50 #[.slice A l.length c, .func (.func 48) #[] #[]] w fun e w' => e = .returned (.tuple #[.int .i64 (totE l), .int .i64 (ledE l)]) ∧ Below w.heap.size w w' := by
  by_cases h0 : ledE l = 0
  · obtain ⟨hl1, hf⟩ := ledE_zero.1 h0
    have cC := dCheck_any A c l w h hl
    rw [h0] at cC
    have fin : Hid (totE l = sumBy kindB l) := Lib.hid (by unfold totE; rw [if_pos h0, sumBy_all hf])
    have Hf := Lib.hid hf
    have H0 := Lib.hid h0
    clear h0 hf
    go_enter Tryd.func50, Tryd.ntmps50
    go_wp2_with (go_at_call 21; refine cC.mono ?_; rintro e w1 ⟨rfl, hb1⟩)
    go_loopw [7, 17] (fun s i wr => ∃ k : Nat, k ≤ l.length ∧ i = .int .i64 k ∧ s = .int .i64 (sumBy kindB (l.take k)) ∧ Below w.heap.size w wr) (fun _ i _ => l.length - (intOf i).toNat)
    case atStart => exact ⟨0, Nat.zero_le _, rfl, rfl, hb1⟩
    case round =>
      obtain ⟨k, hk, rfl, rfl, hb⟩ := hrel
      have sb := sumBy_bound kindB (first_sub Hf.out k)
      rw [List.length_take] at sb
      by_cases hlt : k < l.length
      · obtain ⟨b, off, qk, qb, rfl, hbb, hq, c0, c1⟩ := h.itm hlt hb
        have hb2 := below_alloc hb (.cells #[.int .i64 qk, .int .i64 qb] 71)
        have st := Lib.hid (sumBy_take kindB hq.out)
        obtain ⟨_, q1, q2⟩ := first_all Hf.out hq.out
        simp only at q1 q2
        have sm : min k l.length = k := by omega
        rw [sm] at sb
        obtain ⟨s, hs⟩ : ∃ s, sumBy kindB (l.take k) = s := ⟨_, rfl⟩
        rw [hs] at sb ⊢
        have Hs := Lib.hid hs
        clear hs sm
        cases k1 : kindB qk
        · have K1 := Lib.hid k1
          clear k1
          go_wp2_with (go_at_call 48; refine (kindOK_any _ _).mono ?_; rintro e w' ⟨rfl, rfl⟩; rw [K1.out])
          go_roundw
          case rel => exact ⟨k + 1, by omega, by go_num, by rw [st.out, Hs.out]; simp [K1.out], hb2⟩
          case measure => simp [intOf]; omega
        · have K1 := Lib.hid k1
          clear k1
          go_wp2_with (go_at_call 48; refine (kindOK_any _ _).mono ?_; rintro e w' ⟨rfl, rfl⟩; rw [K1.out])
          go_roundw
          case rel => exact ⟨k + 1, by omega, by go_num, by rw [st.out, Hs.out]; simp [K1.out], hb2⟩
          case measure => simp [intOf]; omega
      · have e1 : Hid (l.take k = l) := Lib.hid (List.take_of_length_le (by omega))
        rw [e1.out]
        go_wp2
        go_ret2
        exact ⟨by rw [fin.out, H0.out]; rfl, hb⟩
  · have h0' : (ledE l != 0) = true := by simpa using h0
    have fin : Hid (totE l = 0) := Lib.hid (by unfold totE; rw [if_neg h0])
    go_enter Tryd.func50, Tryd.ntmps50
    go_wp2_with (go_at_call 21; refine (dCheck_any A c l w h hl).mono ?_; rintro e w1 ⟨rfl, hb1⟩)
    go_ret2
    exact ⟨by rw [fin.out]; rfl, hb1⟩
theorem Total_any (A : Option Addr) (c : Nat) (l : List Itm) (w : World) (h : Arr 2 Itm.enc w w.heap.size A l) (hl : l.length ≤ 4611686018427387904) :
    Calls Tryd.prog 23 #[.slice A l.length c] w fun e w' => e = .returned (.tuple #[.int .i64 (totE l), .int .i64 (ledE l)]) ∧ Below w.heap.size w w' := by
  go_enter Tryd.func23, Tryd.ntmps23
  go_wp2_with (go_at_call 50; refine (sumKind_any A c l w h hl).mono ?_; rintro e w1 ⟨rfl, hb1⟩)
  go_ret2
  exact ⟨rfl, hb1⟩

end Go.Proofs.YtiphhkfmemkldaaDoor
