/- Contracts of the reference's within, Check, Total, Of. For lists whose length is an int's. -/
import Derived.Test.YtliekcfcdfakjaaDoorLedD
namespace Go.Proofs.YtliekcfcdfakjaaDoor
open Go.RowKit
set_option linter.unusedVariables false
set_option linter.unusedSimpArgs false

set_option maxHeartbeats 400000 in
theorem within6_any (n b : Int) (w : World) :
    Calls Tryd.prog 60 #[.int .i64 n, .int .i64 b] w fun e w' => e = .returned (.bool (betwB n 0 b)) ∧ w = w' := by
  go_enter Tryd.func60, Tryd.ntmps60
  go_wp2
  all_goals (go_ret; exact ⟨ret_bool (by simp [betwB]; try omega), rfl⟩)
theorem kind_cases (k : Int) : (kindB k = true ∧ 1 ≤ k ∧ k ≤ 4) ∨ (kindB k = false ∧ k < 1) ∨ (kindB k = false ∧ 4 < k) := by
  unfold kindB betwB
  by_cases h1 : 1 ≤ k <;> by_cases h2 : k ≤ 4 <;> simp [h1, h2] <;> omega

set_option maxHeartbeats 1000000 in
theorem rLed_any (A : Option Addr) (c : Nat) (l : List Itm) (w : World) (h : Arr 2 Itm.enc w w.heap.size A l) (hl : l.length ≤ 4611686018427387904) :
    Calls Tryd.prog 25 #[.slice A l.length c] w fun e w' => e = .returned (.int .i64 (ledE l)) ∧ w = w' := by
  by_cases h4 : 1000 < l.length
  · go_enter Tryd.func25, Tryd.ntmps25
    go_wp2
    go_ret
    exact ⟨ret_int (ledE_many h4).symm, rfl⟩
  · have h4' : decide (1000 < (l.length : Int)) = false := by simp; omega
    go_enter Tryd.func25, Tryd.ntmps25
    go_wp2
    go_loop [3] (fun i => ∃ k : Nat, k ≤ l.length ∧ i = .int .i64 k ∧ firstE (l.take k) = 0) (fun i => l.length - (intOf i).toNat)
    case atStart => exact ⟨0, Nat.zero_le _, rfl, rfl⟩
    case round =>
      obtain ⟨k, hk, rfl, hall⟩ := hrel
      have Hall := Lib.hid hall; clear hall
      by_cases hlt : k < l.length
      · obtain ⟨b, off, qk, qb, rfl, hbb, hq, c0, c1⟩ := h.itm hlt (Below.refl _ _)
        rcases itmE_cases ⟨qk, qb⟩ with ⟨k1, e1⟩ | ⟨k1, k2, e1⟩ | ⟨k1, k2, e1⟩
        · have fin := Lib.hid ((ledE_few h4).trans ((first_bad Hall.out hq.out (by rw [e1]; decide)).trans e1))
          clear e1
          rcases kind_cases qk with ⟨h1, _⟩ | ⟨_, h1⟩ | ⟨_, h1⟩
          · simp only at k1; rw [h1] at k1; cases k1
          · clear k1
            go_wp2
            go_ret
            exact ⟨ret_int fin.out.symm, rfl⟩
          · clear k1
            have h1' : ¬ qk < 1 := by omega
            go_wp2
            go_ret
            exact ⟨ret_int fin.out.symm, rfl⟩
        · have K2 := Lib.hid k2
          have fin := Lib.hid ((ledE_few h4).trans ((first_bad Hall.out hq.out (by rw [e1]; decide)).trans e1))
          obtain ⟨h1, h2⟩ : 1 ≤ qk ∧ qk ≤ 4 := by simpa [kindB, betwB] using k1
          clear k1 k2 e1
          go_wp2_with (go_at_call 60; refine (within6_any _ _ _).mono ?_; rintro e w' ⟨rfl, rfl⟩; rw [K2.out])
          go_ret
          exact ⟨ret_int fin.out.symm, rfl⟩
        · have K2 := Lib.hid k2
          have fin := Lib.hid (first_take Hall.out hq.out e1)
          obtain ⟨h1, h2⟩ : 1 ≤ qk ∧ qk ≤ 4 := by simpa [kindB, betwB] using k1
          clear k1 k2 e1
          go_wp2_with (go_at_call 60; refine (within6_any _ _ _).mono ?_; rintro e w' ⟨rfl, rfl⟩; rw [K2.out])
          go_round
          case rel => exact ⟨k + 1, by omega, by go_num, fin.out⟩
          case measure => simp [intOf]; omega
      · go_wp2
        go_ret
        exact ⟨ret_int (by rw [ledE_few h4, ← Hall.out, List.take_of_length_le (by omega)]), rfl⟩

set_option maxHeartbeats 1000000 in
theorem rTotal_any (A : Option Addr) (c : Nat) (l : List Itm) (w : World) (h : Arr 2 Itm.enc w w.heap.size A l) (hl : l.length ≤ 4611686018427387904) :
    Calls Tryd.prog 22 #[.slice A l.length c] w fun e w' => e = .returned (.tuple #[.int .i64 (totE l), .int .i64 (ledE l)]) ∧ w = w' := by
  by_cases h0 : ledE l = 0
  · obtain ⟨hl1, hf⟩ := ledE_zero.1 h0
    have cC := rLed_any A c l w h hl
    rw [h0] at cC
    have fin : Hid (totE l = sumBy (fun _ => true) l) := Lib.hid (by unfold totE; rw [if_pos h0])
    have Hf := Lib.hid hf
    have H0 := Lib.hid h0
    clear h0 hf
    go_enter Tryd.func22, Tryd.ntmps22
    go_wp2_with (go_at_call 25; refine (cC).mono ?_; rintro e w' ⟨rfl, rfl⟩)
    go_loop [4, 5] (fun s i => ∃ k : Nat, k ≤ l.length ∧ i = .int .i64 k ∧ s = .int .i64 (sumBy (fun _ => true) (l.take k))) (fun _ i => l.length - (intOf i).toNat)
    case atStart => exact ⟨0, Nat.zero_le _, rfl, rfl⟩
    case round =>
      obtain ⟨k, hk, rfl, rfl⟩ := hrel
      have sb := sumBy_bound (fun _ => true) (first_sub Hf.out k)
      rw [List.length_take] at sb
      by_cases hlt : k < l.length
      · obtain ⟨b, off, qk, qb, rfl, hbb, hq, c0, c1⟩ := h.itm hlt (Below.refl _ _)
        have st := Lib.hid (sumBy_take (fun _ => true) hq.out)
        obtain ⟨_, q1, q2⟩ := first_all Hf.out hq.out
        simp only at q1 q2
        have sm : min k l.length = k := by omega
        rw [sm] at sb
        obtain ⟨s, hs⟩ : ∃ s, sumBy (fun _ => true) (l.take k) = s := ⟨_, rfl⟩
        rw [hs] at sb ⊢
        have Hs := Lib.hid hs
        clear hs sm
        go_wp2
        go_round
        case rel => exact ⟨k + 1, by omega, by go_num, by rw [st.out, Hs.out]; simp⟩
        case measure => simp [intOf]; omega
      · have e1 : Hid (l.take k = l) := Lib.hid (List.take_of_length_le (by omega))
        rw [e1.out]
        go_wp2
        go_ret2
        exact ⟨by rw [fin.out, H0.out]; rfl, rfl⟩
  · have h0' : (ledE l != 0) = true := by simpa using h0
    have fin : Hid (totE l = 0) := Lib.hid (by unfold totE; rw [if_neg h0])
    go_enter Tryd.func22, Tryd.ntmps22
    go_wp2_with (go_at_call 25; refine (rLed_any A c l w h hl).mono ?_; rintro e w' ⟨rfl, rfl⟩)
    go_ret2
    exact ⟨by rw [fin.out]; rfl, rfl⟩

set_option maxHeartbeats 1000000 in
theorem rOf6_any (A : Option Addr) (c : Nat) (l : List Itm) (kk : Int) (w : World) (h : Arr 2 Itm.enc w w.heap.size A l) (hl : l.length ≤ 4611686018427387904) :
    Calls Tryd.prog 27 #[.slice A l.length c, .int .i64 kk] w fun e w' => e = .returned (.tuple #[.int .i64 (ofI l kk), .int .i64 (ofE l kk)]) ∧ w = w' := by
  by_cases h0 : ledE l = 0
  · obtain ⟨hl1, hf⟩ := ledE_zero.1 h0
    have cC := rLed_any A c l w h hl
    rw [h0] at cC
    rcases kind_cases kk with ⟨hk, h1, h2⟩ | ⟨hk, h1⟩ | ⟨hk, h1⟩
    · have f1 : Hid (ofE l kk = 0) := Lib.hid (by rw [ofE_eq, if_pos h0, hk]; rfl)
      have f2 : Hid (ofI l kk = sumBy (isK kk) l) := Lib.hid (by unfold ofI; rw [if_pos f1.out]; rfl)
      have Hf := Lib.hid hf
      clear h0 hf hk
      go_enter Tryd.func27, Tryd.ntmps27
      go_wp2_with (go_at_call 25; refine (cC).mono ?_; rintro e w' ⟨rfl, rfl⟩)
      go_loop [6, 7] (fun s i => ∃ k : Nat, k ≤ l.length ∧ i = .int .i64 k ∧ s = .int .i64 (sumBy (isK kk) (l.take k))) (fun _ i => l.length - (intOf i).toNat)
      case atStart => exact ⟨0, Nat.zero_le _, rfl, rfl⟩
      case round =>
        obtain ⟨k, hk, rfl, rfl⟩ := hrel
        have sb := sumBy_bound (isK kk) (first_sub Hf.out k)
        rw [List.length_take] at sb
        by_cases hlt : k < l.length
        · obtain ⟨b, off, qk, qb, rfl, hbb, hq, c0, c1⟩ := h.itm hlt (Below.refl _ _)
          have st := Lib.hid (sumBy_take (isK kk) hq.out)
          obtain ⟨_, q1, q2⟩ := first_all Hf.out hq.out
          simp only at q1 q2
          have sm : min k l.length = k := by omega
          rw [sm] at sb
          obtain ⟨s, hs⟩ : ∃ s, sumBy (isK kk) (l.take k) = s := ⟨_, rfl⟩
          rw [hs] at sb ⊢
          have Hs := Lib.hid hs
          clear hs sm
          by_cases hqk : qk = kk
          · have d1 : (qk == kk) = true := by simpa using hqk
            have Hq := Lib.hid hqk
            clear hqk
            go_wp2
            go_round
            case rel => exact ⟨k + 1, by omega, by go_num, by rw [st.out, Hs.out]; simp [isK, Hq.out]⟩
            case measure => simp [intOf]; omega
          · have d1 : (qk == kk) = false := by simpa using hqk
            have Hq := Lib.hid hqk
            clear hqk
            go_wp2
            go_round
            case rel => exact ⟨k + 1, by omega, by go_num, by rw [st.out, Hs.out]; simp [isK, Hq.out]⟩
            case measure => simp [intOf]; omega
        · have e1 : Hid (l.take k = l) := Lib.hid (List.take_of_length_le (by omega))
          rw [e1.out]
          go_wp2
          go_ret2
          exact ⟨by rw [f1.out, f2.out]; rfl, rfl⟩
    all_goals
      have f1 : Hid (ofE l kk = 2) := Lib.hid (by rw [ofE_eq, if_pos h0, hk]; rfl)
      have f2 : Hid (ofI l kk = 0) := Lib.hid (by unfold ofI; rw [f1.out]; rfl)
      clear h0 hf hk
      go_enter Tryd.func27, Tryd.ntmps27
      go_wp2_with (go_at_call 25; refine (cC).mono ?_; rintro e w' ⟨rfl, rfl⟩)
      go_ret2
      exact ⟨by rw [f1.out, f2.out]; rfl, rfl⟩
  · have h0' : (ledE l != 0) = true := by simpa using h0
    have f1 : Hid (ofE l kk = ledE l) := Lib.hid (by rw [ofE_eq, if_neg h0])
    have f2 : Hid (ofI l kk = 0) := Lib.hid (by unfold ofI; rw [f1.out, if_neg h0])
    go_enter Tryd.func27, Tryd.ntmps27
    go_wp2_with (go_at_call 25; refine (rLed_any A c l w h hl).mono ?_; rintro e w' ⟨rfl, rfl⟩)
    go_ret2
    exact ⟨by rw [f1.out, f2.out]; rfl, rfl⟩

end Go.Proofs.YtliekcfcdfakjaaDoor
