/- Contracts of distil's Of and Enter. For lists whose length is an int's. -/
import Derived.Test.YtiphhkfmemkldaaDoorLedC
namespace Go.Proofs.YtiphhkfmemkldaaDoor
open Go.RowKit
set_option linter.unusedVariables false
set_option linter.unusedSimpArgs false

def isK (kk x : Int) : Bool := decide (x = kk)
def kOf (kk : Int) (l : List Itm) : Int := if ledE l = 0 then sumBy (isK kk) l else 0
set_option maxHeartbeats 400000 in
theorem Of1_any (kk n : Int) (p0 : Nat) (w : World) (hp : w.cell? ⟨p0, 0, none⟩ = some (.int .i64 kk)) :
    Calls Tryd.prog 51 #[.int .i64 n, .pointer (some ⟨p0, 0, none⟩)] w fun e w' => e = .returned (.bool (isK kk n)) ∧ w = w' := by
  go_enter Tryd.func51, Tryd.ntmps51
  go_wp2
  go_ret
  exact ⟨ret_bool (by unfold isK; rw [Bool.eq_iff_iff]; simp), rfl⟩

set_option maxHeartbeats 1000000 in
theorem sumOf_any (kk : Int) (p0 : Nat) (A : Option Addr) (c : Nat) (l : List Itm) (w : World) (h : Arr 2 Itm.enc w w.heap.size A l) (hl : l.length ≤ 4611686018427387904) (hp : w.cell? ⟨p0, 0, none⟩ = some (.int .i64 kk)) :
    Calls Tryd.prog 50 #[.slice A l.length c, .func (.func 51) #[] #[.pointer (some ⟨p0, 0, none⟩)]] w fun e w' => e = .returned (.tuple #[.int .i64 (kOf kk l), .int .i64 (ledE l)]) ∧ Below w.heap.size w w' := by
  by_cases h0 : ledE l = 0
  · obtain ⟨hl1, hf⟩ := ledE_zero.1 h0
    have cC := dCheck_any A c l w h hl
    rw [h0] at cC
    have fin : Hid (kOf kk l = sumBy (isK kk) l) := Lib.hid (by unfold kOf; rw [if_pos h0])
    have Hf := Lib.hid hf
    have H0 := Lib.hid h0
    clear h0 hf
    go_enter Tryd.func50, Tryd.ntmps50
    go_wp2_with (go_at_call 21; refine cC.mono ?_; rintro e w1 ⟨rfl, hb1⟩)
    go_loopw [7, 17] (fun s i wr => ∃ k : Nat, k ≤ l.length ∧ i = .int .i64 k ∧ s = .int .i64 (sumBy (isK kk) (l.take k)) ∧ Below w.heap.size w wr) (fun _ i _ => l.length - (intOf i).toNat)
    case atStart => exact ⟨0, Nat.zero_le _, rfl, rfl, hb1⟩
    case round =>
      obtain ⟨k, hk, rfl, rfl, hb⟩ := hrel
      have sb := sumBy_bound (isK kk) (first_sub Hf.out k)
      rw [List.length_take] at sb
      by_cases hlt : k < l.length
      · obtain ⟨b, off, qk, qb, rfl, hbb, hq, c0, c1⟩ := h.itm hlt hb
        have hb2 := below_alloc hb (.cells #[.int .i64 qk, .int .i64 qb] 71)
        have st := Lib.hid (sumBy_take (isK kk) hq.out)
        obtain ⟨_, q1, q2⟩ := first_all Hf.out hq.out
        simp only at q1 q2
        have sm : min k l.length = k := by omega
        rw [sm] at sb
        obtain ⟨s, hs⟩ : ∃ s, sumBy (isK kk) (l.take k) = s := ⟨_, rfl⟩
        rw [hs] at sb ⊢
        have Hs := Lib.hid hs
        clear hs sm
        cases k1 : isK kk qk
        · have K1 := Lib.hid k1
          clear k1
          go_wp2_with (go_at_call 51; refine (Of1_any kk _ p0 _ (bel_cell hb2 hp)).mono ?_; rintro e w' ⟨rfl, rfl⟩; rw [K1.out])
          go_roundw
          case rel => exact ⟨k + 1, by omega, by go_num, by rw [st.out, Hs.out]; simp [K1.out], hb2⟩
          case measure => simp [intOf]; omega
        · have K1 := Lib.hid k1
          clear k1
          go_wp2_with (go_at_call 51; refine (Of1_any kk _ p0 _ (bel_cell hb2 hp)).mono ?_; rintro e w' ⟨rfl, rfl⟩; rw [K1.out])
          go_roundw
          case rel => exact ⟨k + 1, by omega, by go_num, by rw [st.out, Hs.out]; simp [K1.out], hb2⟩
          case measure => simp [intOf]; omega
      · have e1 : Hid (l.take k = l) := Lib.hid (List.take_of_length_le (by omega))
        rw [e1.out]
        go_wp2
        go_ret2
        exact ⟨by rw [fin.out, H0.out]; rfl, hb⟩
  · have h0' : (ledE l != 0) = true := by simpa using h0
    have fin : Hid (kOf kk l = 0) := Lib.hid (by unfold kOf; rw [if_neg h0])
    go_enter Tryd.func50, Tryd.ntmps50
    go_wp2_with (go_at_call 21; refine (dCheck_any A c l w h hl).mono ?_; rintro e w1 ⟨rfl, hb1⟩)
    go_ret2
    exact ⟨by rw [fin.out]; rfl, hb1⟩
theorem ofE_eq (l : List Itm) (k : Int) : ofE l k = if ledE l = 0 then (if kindB k = true then 0 else 2) else ledE l := rfl
set_option maxHeartbeats 1000000 in
theorem dOf_any (A : Option Addr) (c : Nat) (l : List Itm) (k : Int) (w : World) (h : Arr 2 Itm.enc w w.heap.size A l) (hl : l.length ≤ 4611686018427387904) :
    Calls Tryd.prog 24 #[.slice A l.length c, .int .i64 k] w fun e w' => e = .returned (.tuple #[.int .i64 (ofI l k), .int .i64 (ofE l k)]) ∧ Below w.heap.size w w' := by
  have hb0 := below_alloc (Below.refl w.heap.size w) (.cells #[.int .i64 k] 3)
  have cS := sumOf_any k w.heap.size A c l _ (h.on hb0) hl (new_cell rfl)
  by_cases h0 : ledE l = 0
  · cases hk : kindB k
    · have f1 : Hid (ofE l k = 2) := Lib.hid (by rw [ofE_eq, if_pos h0, hk]; rfl)
      have f2 : Hid (ofI l k = 0) := Lib.hid (by unfold ofI; rw [f1.out]; rfl)
      rw [h0] at cS
      have K1 := Lib.hid hk
      clear h0 hk
      go_enter Tryd.func24, Tryd.ntmps24
      go_wp2_with (first | (go_at_call 50; refine cS.mono ?_; rintro e w1 ⟨rfl, hb1⟩; have d0 : w1.cell? ⟨w.heap.size, 0, none⟩ = some (.int .i64 k) := bel_cell hb1 (new_cell rfl)) | (go_at_call 48; refine (kindOK_any _ _).mono ?_; rintro e w' ⟨rfl, rfl⟩; rw [K1.out]))
      go_ret2
      exact ⟨by rw [f1.out, f2.out]; rfl, below_trans hb0 hb1⟩
    · have f1 : Hid (ofE l k = 0) := Lib.hid (by rw [ofE_eq, if_pos h0, hk]; rfl)
      have f2 : Hid (ofI l k = kOf k l) := Lib.hid (by unfold ofI kOf; rw [if_pos f1.out, if_pos h0]; rfl)
      rw [h0] at cS
      have K1 := Lib.hid hk
      clear h0 hk
      go_enter Tryd.func24, Tryd.ntmps24
      go_wp2_with (first | (go_at_call 50; refine cS.mono ?_; rintro e w1 ⟨rfl, hb1⟩; have d0 : w1.cell? ⟨w.heap.size, 0, none⟩ = some (.int .i64 k) := bel_cell hb1 (new_cell rfl)) | (go_at_call 48; refine (kindOK_any _ _).mono ?_; rintro e w' ⟨rfl, rfl⟩; rw [K1.out]))
      go_ret2
      exact ⟨by rw [f1.out, f2.out]; rfl, below_trans hb0 hb1⟩
  · have f1 : Hid (ofE l k = ledE l) := Lib.hid (by rw [ofE_eq, if_neg h0])
    have f2 : Hid (ofI l k = 0 ∧ kOf k l = 0) := Lib.hid (by unfold ofI kOf; rw [f1.out, if_neg h0, if_neg h0]; exact ⟨rfl, rfl⟩)
    have h0' : (ledE l == 0) = false := by simpa using h0
    rw [f2.out.2] at cS
    clear h0
    go_enter Tryd.func24, Tryd.ntmps24
    go_wp2_with (go_at_call 50; refine cS.mono ?_; rintro e w1 ⟨rfl, hb1⟩)
    go_ret2
    exact ⟨by rw [f1.out, f2.out.1]; rfl, below_trans hb0 hb1⟩

end Go.Proofs.YtiphhkfmemkldaaDoor
