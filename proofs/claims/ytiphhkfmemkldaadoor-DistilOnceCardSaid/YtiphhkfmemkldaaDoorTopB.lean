/- Contracts of algebra's Toeplitz and of the reference's. For at most 512 bits, a result of at most 512 bits, a seed that fits. -/
import Derived.Test.YtiphhkfmemkldaaDoorTopA
namespace Go.Proofs.YtiphhkfmemkldaaDoor
open Go.RowKit
set_option linter.unusedVariables false
set_option linter.unusedSimpArgs false

set_option maxRecDepth 100000 in
set_option maxHeartbeats 2000000 in
theorem Toeplitz_any (A B : Option Addr) (cA cB : Nat) (s a : List Bool) (out : Nat) (w : World) (hA : Arr 1 encB w w.heap.size A s) (hB : Arr 1 encB w w.heap.size B a) (la : a.length ≤ 512) (lo : out ≤ 512) (ls : s.length = a.length + out - 1) (lc : s.length ≤ cA) (mc : cA ≤ maxLen) :
    Calls Tryd.prog 29 #[.slice A s.length cA, .slice B a.length cB, .int .i64 out] w fun e w' => ∃ v, e = .returned (.tuple #[v, .int .i64 0]) ∧ Own w' w.heap.size 4 1 encB v (toepL s a out) ∧ Below w.heap.size w w' := by
  obtain ⟨i0, hi, hz0, hz1, hz2⟩ := info_parts bool_info3
  have Hi := Lib.hid hi; have Hz0 := Lib.hid hz0; have Hz1 := Lib.hid hz1; have Hz2 := Lib.hid hz2
  clear hi hz0 hz1 hz2
  unfold maxLen at mc
  have d2 : decide (512 < (a.length : Int)) = false := by simp; omega
  have d3 : decide ((out : Int) < 0) = false := by simp
  have d4 : decide (512 < (out : Int)) = false := by simp; omega
  have hmx : (1 < (a.length : Int) + (out : Int) ∧ ((s.length : Int) != (a.length : Int) + (out : Int) - 1) = false) ∨ (¬ 1 < (a.length : Int) + (out : Int) ∧ ((s.length : Int) != 0) = false) := by
    by_cases h : 1 < (a.length : Int) + (out : Int)
    · left; exact ⟨h, by simp; omega⟩
    · right; exact ⟨h, by rw [show s.length = 0 from by omega]; rfl⟩
  have Hs := Lib.hid ls
  have ls2 : s.length ≤ 1023 := by omega
  clear ls
  have hT0 : Hid (List.replicate out false = toepK s a out 0) := Lib.hid (toepK_zero s a out).symm
  rcases hmx with ⟨m1, m2⟩ | ⟨m1, m2⟩
  all_goals (
    go_enter Tryd.func29, Tryd.ntmps29
    go_wp2_with (at_make; refine wpList_mk rfl _ _ 24 rfl 4 i0 _ 1 Tryd.underlying24 Hi.out Hz0.out Hz1.out Hz2.out rfl (fun b : Bool => Value.bool b) false rfl _ _ _ _ out rfl rfl rfl rfl (by omega) (by unfold maxLen; omega) ?_; intro w1 own1 hb1)
    go_loopw [8, 34] (fun v i wr => ∃ k : Nat, k ≤ a.length ∧ i = .int .i64 k ∧ Own wr w.heap.size 4 1 encB v (toepK s a out k) ∧ Below w.heap.size w wr) (fun _ i _ => a.length - (intOf i).toNat)
    case atStart => exact ⟨0, Nat.zero_le _, rfl, by rw [← hT0.out]; exact own1, hb1⟩
    case round =>
      obtain ⟨k, hk, rfl, ow, hb⟩ := hrel
      rcases Nat.lt_or_ge k a.length with hlt | hge
      · obtain ⟨p, o, x, rfl, hp, hx, c0⟩ := hB.bool (k := k) hlt hb
        have hlk : Hid ((toepK s a out k).length = out) := Lib.hid (toepK_len _ _ _ _)
        obtain ⟨q, hq⟩ : ∃ q : Nat, (a.length : Int) - 1 - (k : Int) = (q : Int) := ⟨a.length - 1 - k, by omega⟩
        have Hq : Hid (q = a.length - 1 - k) := Lib.hid (by omega)
        cases x
        · have st : Hid (toepK s a out (k + 1) = toepK s a out k) := Lib.hid (toepK_no hx.out)
          clear hx
          go_wp2_with fail
          exact ⟨⟨k + 1, by omega, by go_num, by rw [st.out]; exact ow, hb⟩, by simp [intOf]; omega⟩
        · by_cases ho : 0 < out
          · have hqs : q + out ≤ s.length := by have := Hq.out; have := Hs.out; omega
            have m3 : 1 < (a.length : Int) + (out : Int) := by omega
            first
            | (exfalso; omega)
            | (
              have st : Hid (toepK s a out (k + 1) = xorL (toepK s a out k) ((s.drop q).take out)) := Lib.hid (by rw [Hq.out]; exact toepK_yes hx.out (by rw [← Hq.out]; exact hqs))
              clear hx
              obtain ⟨b2, o2, y2, hA2, hb2, _, _⟩ := hA.bool (k := 0) (by omega) (Below.refl _ _)
              subst hA2
              have ar := arr_take ((hA.on hb).drop q) out
              have hl2 : ((s.drop q).take out).length = out := by rw [List.length_take, List.length_drop]; omega
              obtain ⟨A3, c3, hv3, lc3, mc3, n3, ar3⟩ := ow.form encB_len
              subst hv3
              have cZ := zip_any A3 (some ⟨b2, o2 + q * 1, none⟩) c3 (cA - q) (toepK s a out k) ((s.drop q).take out) wr ar3 ar (by rw [hl2, hlk.out]) (by rw [hlk.out]; omega)
              rw [hlk.out, hl2, Nat.mul_one] at cZ
              rw [hlk.out]
              rw [← st.out] at cZ
              have bs := hb.size
              have i1 : (q : Int) + (out : Int) ≤ (s.length : Int) := by omega
              have i2 : (s.length : Int) ≤ (cA : Int) := by omega
              have i3 : q < cA := by omega
              have i4 : ((q : Int) + (out : Int)) - (q : Int) = (out : Int) := by omega
              clear hl2 ar
              go_wp2_with (go_at_call 55; ((with_reducible refine cZ.mono ?_)); rintro e w4 ⟨v4, rfl, own4, hb4⟩)
              exact ⟨⟨k + 1, by omega, by go_num, own4.down bs, below_trans hb hb4⟩, by simp [intOf]; omega⟩)
          · obtain rfl : out = 0 := by omega
            have st : Hid (toepK s a 0 (k + 1) = toepK s a 0 k) := Lib.hid rfl
            clear hx
            go_wp2_with fail
            exact ⟨⟨k + 1, by omega, by go_num, by rw [st.out]; exact ow, hb⟩, by simp [intOf]; omega⟩
      · obtain rfl : k = a.length := by omega
        go_wp2_with fail
        go_ret2
        exact ⟨_, rfl, ow, hb⟩)

end Go.Proofs.YtiphhkfmemkldaaDoor
