/- Contracts of sift's Sample and of the reference's. For at most 512 numbers, or refused. -/
import Derived.Test.YtbobbcfjjdmdgaaPrmC
import Derived.Test.YtbobbcfjjdmdgaaChk
namespace Go.Proofs.Ytbobbcfjjdmdgaa
open Go.RowKit
set_option linter.unusedVariables false
set_option linter.unusedSimpArgs false

def smE (n k : Int) : Int := if betwB n 0 512 = true ∧ betwB k 0 n = true then 0 else 3
theorem smE_ok {n k : Int} (h : smE n k = 0) : 0 ≤ n ∧ n ≤ 512 ∧ 0 ≤ k ∧ k ≤ n := by
  unfold smE at h
  split at h
  · rename_i h2; simp [betwB] at h2; omega
  · cases h
def smL (s : Nat) (n k : Int) : List Int := if smE n k = 0 then smpL s n.toNat k.toNat else []
def rsL (s : Nat) (n k : Int) : List Int := if smE n k = 0 then rstL (smpL s n.toNat k.toNat) n.toNat else []
theorem sm_bad {s : Nat} {n k : Int} (h : smE n k ≠ 0) : smE n k = 3 ∧ smL s n k = [] ∧ rsL s n k = [] := by
  refine ⟨?_, by unfold smL; rw [if_neg h], by unfold rsL; rw [if_neg h]⟩
  unfold smE at *
  split
  · rename_i h2; rw [if_pos h2] at h; exact (h rfl).elim
  · rfl
theorem rst_len (L : List Int) (n : Nat) : (rstL L n).length ≤ n := by
  unfold rstL; exact Nat.le_trans (List.length_filter_le _ _) (by rw [upL_len]; exact Nat.le_refl _)
theorem rst_zero (L : List Int) : rstL L 0 = [] := rfl
theorem below_of_grownS {w w' : World} (h : w.grownBy w' none) : Below w.heap.size w w' := ⟨h.os, h.tape, h.output, h.size, fun k hk => h.block k hk (by simp)⟩
theorem of_decide_eq {p : Prop} [Decidable p] {b : Bool} (h : decide p = b) : if b then p else ¬ p := by
  cases b
  · simpa using h
  · simpa using h
/-- What Sample hands back. -/
def SmR (w w' : World) (s : Nat) (n k : Int) (e : Ending) : Prop := ∃ v1 v2, e = .returned (.tuple #[v1, v2, .int .i64 (smE n k)]) ∧ Own w' w.heap.size 3 1 encI v1 (smL s n k) ∧ Own w' w.heap.size 3 1 encI v2 (rsL s n k) ∧ Below w.heap.size w w'
theorem smR_bad {w w' : World} {s : Nat} {n k : Int} (h : smE n k ≠ 0) (hb : Below w.heap.size w w') : SmR w w' s n k (.returned (.tuple #[.slice none 0 0, .slice none 0 0, .int .i64 3])) := by
  obtain ⟨h1, h2, h3⟩ := sm_bad (s := s) h
  exact ⟨_, _, by rw [h1], by rw [h2]; exact Own.nil, by rw [h3]; exact Own.nil, hb⟩
theorem smR_good {w w' : World} {s n k : Nat} (h : smE n k = 0) {v1 v2 : Value} (h1 : Own w' w.heap.size 3 1 encI v1 (smpL s n k)) (h2 : Own w' w.heap.size 3 1 encI v2 (rstL (smpL s n k) n)) (hb : Below w.heap.size w w') : SmR w w' s n k (.returned (.tuple #[v1, v2, .int .i64 0])) :=
  ⟨v1, v2, by rw [h], by unfold smL; rw [if_pos h]; exact h1, by unfold rsL; rw [if_pos h]; exact h2, hb⟩

set_option maxRecDepth 100000 in
set_option maxHeartbeats 4000000 in
theorem SampleS_any (s : Nat) (n k : Int) (w : World) : Calls Try.prog 41 #[.int .i64 n, .int .i64 k, .int .u64 s] w fun e w' => SmR w w' s n k e := by
  by_cases h : smE n k = 0
  · obtain ⟨n0, n1, k0, k1⟩ := smE_ok h
    obtain ⟨n, rfl⟩ := Int.eq_ofNat_of_zero_le n0
    obtain ⟨k, rfl⟩ := Int.eq_ofNat_of_zero_le k0
    have hB1 : betwB (n : Int) 0 512 = true := by simp [betwB]; omega
    have hB2 : betwB (k : Int) 0 (n : Int) = true := by simp [betwB]; omega
    have cB1 := fun w' => between_any (n : Int) 0 512 w'
    have cB2 := fun w' => between_any (k : Int) 0 (n : Int) w'
    simp only [hB1] at cB1
    simp only [hB2] at cB2
    have hkn : k ≤ n := by omega
    have H := Lib.hid h
    have cD := fun w1 (hz : w1.cell? ⟨w.heap.size, 0, none⟩ = some (.int .u64 s)) (hf : w1.frozen? ⟨w.heap.size, 0, none⟩ = false) (h1 : w1.cell? ⟨w.heap.size, 1, none⟩ = some (.bool true)) => dSample_any w.heap.size s n k w.heap.size w1 (by omega) hkn hz hf h1 (Nat.le_refl _)
    have cD1 := cD _ (new_cell (w := w) (cs := #[.int .u64 s, .bool true]) (T := 267) (j := 0) rfl) (by simp) (new_cell (w := w) (cs := #[.int .u64 s, .bool true]) (T := 267) (j := 1) rfl)
    have ps := smpL_strict s n k
    have pl := smpL_len (s := s) hkn
    have pm := fun x (h : x ∈ smpL s n k) => smpL_mem h
    obtain ⟨L, hL⟩ : ∃ L, smpL s n k = L := ⟨_, rfl⟩
    rw [hL] at cD1 ps pl pm
    have HL := Lib.hid hL
    obtain ⟨i0, hi, hz0, hz1, hz2⟩ := info_parts int_info5
    have Hi := Lib.hid hi; have Hz0 := Lib.hid hz0; have Hz1 := Lib.hid hz1; have Hz2 := Lib.hid hz2
    have z0 := nxt_zero (L := L) (fun x hx => (pm x hx).1)
    have Z0 := Lib.hid z0; have Pl := Lib.hid pl; have Ps := Lib.hid ps
    clear hi hz0 hz1 hz2 cD h hB1 hB2 hL z0 pl pm ps
    go_enter Try.func41, Try.ntmps41
    go_wp2_with (first
      | (go_at_call 59; refine Calls.on (args' := #[.int .i64 (n : Int), .int .i64 0, .int .i64 512]) rfl ?_; refine (cB1 _).mono ?_; rintro e w' ⟨rfl, rfl⟩)
      | (go_at_call 59; refine Calls.on (args' := #[.int .i64 (k : Int), .int .i64 0, .int .i64 (n : Int)]) rfl ?_; refine (cB2 _).mono ?_; rintro e w' ⟨rfl, rfl⟩)
      | (go_at_call 102; refine (New_any s _).mono ?_; rintro e w' ⟨rfl, rfl⟩)
      | (go_at_call 103; refine cD1.mono ?_; rintro e w2 ⟨v2, rfl, own2, hb2⟩)
      | (at_make; refine wpList_make_own _ rfl _ _ 62 rfl w2.heap.size 3 i0 _ 1 Try.underlying62 Hi.out Hz0.out Hz1.out _ _ _ (n - k) rfl rfl (by omega) (by rw [Hz2.out]; omega) (by unfold maxLen; omega) (Nat.le_refl _) ?_; intro w3 own3 gr3))
    have hb3 := below_of_grownS gr3
    have own3' : Own w3 w2.heap.size 3 1 encI (.slice (some ⟨w2.heap.size, 0, none⟩) 0 (n - k)) ([] : List Int) := own3
    have b2 : Below w.heap.size w w2 := (below_alloc (Below.refl _ _) _).trans hb2
    have s2 := b2.size
    have nx0 : nxtN L ((0 : Nat) : Int) = 0 := Z0.out
    have Nx0 := Lib.hid nx0
    clear nx0 cD1 gr3 own3
    go_loopw [11, 12, 36] (fun rv nv iv wr => ∃ j : Nat, j ≤ n ∧ iv = .int .i64 j ∧ nv = .int .i64 (nxtN L (j : Int) : Nat) ∧ Own wr w2.heap.size 3 1 encI rv (rstL L j) ∧ Below w2.heap.size w2 wr) (fun _ _ i _ => n - (intOf i).toNat)
    case atStart => exact ⟨0, Nat.zero_le _, rfl, by rw [Nx0.out]; rfl, own3', hb3⟩
    case round =>
      obtain ⟨j, hj, rfl, rfl, ow, hb⟩ := hrel
      obtain ⟨w6, rfl⟩ : ∃ w6, w6 = wr := ⟨_, rfl⟩
      clear own3' hb3
      have own6 := own2.below hb
      have sz := hb.size
      rcases Nat.lt_or_ge j n with hlt | hge
      · have d3 : decide ((j : Int) < (n : Int)) = true := by simp; omega
        have hqk := nxt_le L (j : Int)
        rw [Pl.out] at hqk
        rcases nxt_step L (j : Int) Ps.out with ⟨h1, h2, h3⟩ | ⟨h1, h2, h3⟩
        · have r1 := Lib.hid (rstL_snoc_yes h1)
          rw [show (j : Int) + 1 = ((j + 1 : Nat) : Int) from by omega] at h3
          obtain ⟨q, hq⟩ : ∃ q, nxtN L (j : Int) = q := ⟨_, rfl⟩
          rw [hq] at h2 h3 hqk ⊢
          have hql : q < k := by have := (List.getElem?_eq_some_iff.1 h2).1; rw [Pl.out] at this; exact this
          obtain ⟨g, c, rfl, _, _⟩ := own_ptr' own6 (by rw [Pl.out]; omega)
          have cq : w6.cell? ⟨g, q, none⟩ = some (.int .i64 (j : Int)) := Own.at1 (f := Value.int .i64) own6 rfl h2
          rw [Pl.out]
          have d4 : decide ((q : Int) < (k : Int)) = true := by simp; omega
          have d4' : decide (q < k) = true := by simp; omega
          have H3 := Lib.hid h3
          have HQ := Lib.hid hq
          clear h1 h2 h3 hq own6
          go_wp2_with fail
          exact ⟨⟨j + 1, by omega, by go_num, by rw [H3.out]; rfl, by rw [r1.out]; exact ow, hb⟩, by simp [intOf]; omega⟩
        · have r1 := Lib.hid (rstL_snoc_no h1)
          rw [show (j : Int) + 1 = ((j + 1 : Nat) : Int) from by omega] at h3
          obtain ⟨q, hq⟩ : ∃ q, nxtN L (j : Int) = q := ⟨_, rfl⟩
          rw [hq] at h2 h3 hqk ⊢
          have oby : ((rstL L j).length + 1) * 8 ≤ 140737488355328 := by have := rst_len L j; omega
          have H3 := Lib.hid h3
          have HQ := Lib.hid hq
          have ways : decide ((q : Int) < (k : Int)) = false ∨ (decide ((q : Int) < (k : Int)) = true ∧ ∃ (g c : Nat) (y : Int), v2 = .slice (some ⟨g, 0, none⟩) k c ∧ w6.cell? ⟨g, q, none⟩ = some (.int .i64 y) ∧ (y == (j : Int)) = false) := by
            by_cases hql : q < k
            · right
              obtain ⟨g, c, hv, _, _⟩ := own_ptr' own6 (by rw [Pl.out]; omega)
              rw [Pl.out] at hv
              obtain ⟨y, hy⟩ : ∃ y, L[q]? = some y := ⟨_, List.getElem?_eq_getElem (by rw [Pl.out]; exact hql)⟩
              subst hv
              refine ⟨by simp; omega, g, c, y, rfl, Own.at1 (f := Value.int .i64) own6 Pl.out hy, ?_⟩
              have : y ≠ (j : Int) := fun e => h2 (by rw [hy, e])
              simpa using this
            · left; simp; omega
          clear h1 h2 h3 hq own6
          have d4' : decide (q < k) = decide ((q : Int) < (k : Int)) := by simp
          rcases ways with d4 | ⟨d4, g, c, y, rfl, cq, e4⟩
          all_goals (
            rw [d4] at d4'
            have hql := of_decide_eq d4'
            simp only [if_true, if_false, Bool.false_eq_true] at hql
            go_wp2_with (at_builtin; refine wpList_snoc (g := w6.heap.size) rfl _ _ 62 rfl w2.heap.size 3 i0 _ 1 8 Try.underlying62 Hi.out Hz0.out Hz1.out Hz2.out rfl (by decide) _ (rstL L j) (j : Int) #[.int .i64 j] 3 rfl ow rfl rfl rfl (encI_one _) oby (by decide) sz rfl ?_; intro v5 w5 own5 hb5)
            exact ⟨⟨j + 1, by omega, by go_num, by rw [H3.out], by rw [r1.out]; exact own5, hb.trans hb5⟩, by simp [intOf]; omega⟩)
      · obtain rfl : j = n := by omega
        have d3 : decide ((j : Int) < (j : Int)) = false := by simp
        generalize nxtN L (j : Int) = q at *
        go_wp2_with fail
        go_ret3
        exact smR_good H.out (by rw [HL.out]; exact own_base own6 (by have := (below_alloc (Below.refl w.heap.size w) (.cells #[.int .u64 s, .bool true] 267)).size; exact this)) (by rw [HL.out]; exact own_base ow s2) (b2.trans (hb.mono s2))
  · have ways : betwB n 0 512 = false ∨ (betwB n 0 512 = true ∧ betwB k 0 n = false) := by
      unfold smE at h
      cases h1 : betwB n 0 512 with
      | false => exact .inl rfl
      | true =>
        cases h2 : betwB k 0 n with
        | false => exact .inr ⟨rfl, rfl⟩
        | true => exact (h (by rw [if_pos ⟨h1, h2⟩])).elim
    have cB1 := fun w' => between_any n 0 512 w'
    have cB2 := fun w' => between_any k 0 n w'
    have H := Lib.hid h
    clear h
    rcases ways with h1 | ⟨h1, h2⟩
    · simp only [h1] at cB1
      clear h1 cB2
      go_enter Try.func41, Try.ntmps41
      go_wp2_with (go_at_call 59; refine (cB1 _).mono ?_; rintro e w' ⟨rfl, rfl⟩)
      go_ret3
      exact smR_bad H.out (Below.refl _ _)
    · simp only [h1] at cB1
      simp only [h2] at cB2
      clear h1 h2
      go_enter Try.func41, Try.ntmps41
      go_wp2_with (first
        | (go_at_call 59; refine Calls.on (args' := #[.int .i64 n, .int .i64 0, .int .i64 512]) rfl ?_; refine (cB1 _).mono ?_; rintro e w' ⟨rfl, rfl⟩)
        | (go_at_call 59; refine Calls.on (args' := #[.int .i64 k, .int .i64 0, .int .i64 n]) rfl ?_; refine (cB2 _).mono ?_; rintro e w' ⟨rfl, rfl⟩))
      go_ret3
      exact smR_bad H.out (Below.refl _ _)

theorem mem_take_snoc {L : List Int} {m : Nat} {y x : Int} (h : L[m]? = some y) : decide (x ∈ L.take (m + 1)) = (decide (x ∈ L.take m) || (y == x)) := by
  have hk := (List.getElem?_eq_some_iff.1 h).1
  have he := (List.getElem?_eq_some_iff.1 h).2
  rw [List.take_succ_eq_append_getElem hk, he]
  by_cases h1 : x ∈ L.take m
  · simp [h1]
  · by_cases h2 : y = x
    · simp [h2]
    · simp [h1, h2, Ne.symm h2]
end Go.Proofs.Ytbobbcfjjdmdgaa
