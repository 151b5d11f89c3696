/- Contracts of Agreement and of the reference's Agreement and Align: what the program's return. For at most 4096 pulses and clicks. -/
import Derived.Test.YtfodlpiidlajeaaRefScore
import Derived.Test.YtfodlpiidlajeaaAlign
namespace Go.Proofs.Ytfodlpiidlajeaa
open Go.RowKit
set_option linter.unusedVariables false
set_option linter.unusedSimpArgs false

def agrV (h : List Pls) (c : List Clk) (s : Int) : Int × Int := if bothE h c ≠ 0 then (0, bothE h c) else if betwB s (-16) 16 = false then (0, 3) else (scS h c s, 0)
theorem agrV_both {h : List Pls} {c : List Clk} {s : Int} (hb : bothE h c ≠ 0) : agrV h c s = (0, bothE h c) := if_pos hb
theorem agrV_range {h : List Pls} {c : List Clk} {s : Int} (hb : bothE h c = 0) (hs : betwB s (-16) 16 = false) : agrV h c s = (0, 3) := by simp [agrV, hb, hs]
theorem agrV_ok {h : List Pls} {c : List Clk} {s : Int} (hb : bothE h c = 0) (hs : betwB s (-16) 16 = true) : agrV h c s = (scS h c s, 0) := by simp [agrV, hb, hs]

set_option maxHeartbeats 1000000 in
theorem Agreement_any (A : Option Addr) (n : Nat) (h : List Pls) (C : Option Addr) (m : Nat) (c : List Clk) (s : Int) (w : World) (hA : Arr 5 Pls.enc w w.heap.size A h) (hC : Arr 2 Clk.enc w w.heap.size C c)
    (hl : h.length ≤ 4096) (hm : c.length ≤ 4096) :
    Calls Try.prog 19 #[.slice A h.length n, .slice C c.length m, .int .i64 s] w fun e w' => e = .returned (.tuple #[.int .i64 (agrV h c s).1, .int .i64 (agrV h c s).2]) ∧ Below w.heap.size w w' := by
  by_cases hb : bothE h c = 0
  · cases hs : betwB s (-16) 16
    · rw [agrV_range hb hs]
      have Hb := Lib.hid hb; have Hs := Lib.hid hs
      clear hb hs
      go_enter Try.func19, Try.ntmps19
      go_wp2_with (first
        | (go_at_call 68; refine (checkBoth_any A n h C m c _ hA hC (by omega) (by omega)).mono ?_; rintro e w2 ⟨rfl, hb2⟩; rw [Hb.out])
        | (go_at_call 63; refine (shiftable_any _ _).mono ?_; rintro e w' ⟨rfl, rfl⟩; rw [Hs.out]))
      go_ret2
      exact ⟨rfl, hb2⟩
    · rw [agrV_ok hb hs]
      have Hb := Lib.hid hb; have Hs := Lib.hid hs
      simp only [betwB, decide_eq_true_eq] at hs
      obtain ⟨s1, s2⟩ := hs
      clear hb
      go_enter Try.func19, Try.ntmps19
      go_wp2_with (first
        | (go_at_call 68; refine (checkBoth_any A n h C m c _ hA hC (by omega) (by omega)).mono ?_; rintro e w2 ⟨rfl, hb2⟩; rw [Hb.out])
        | (go_at_call 63; refine (shiftable_any _ _).mono ?_; rintro e w' ⟨rfl, rfl⟩; rw [Hs.out])
        | (go_at_call 69; refine (agreement_any A n h C m c s _ (hA.on hb2) (hC.on hb2) hl hm s1 s2).mono ?_; rintro e w3 ⟨rfl, hb3⟩))
      go_ret2
      exact ⟨rfl, below_trans hb2 hb3⟩
  · rw [agrV_both hb]
    have hb' : (bothE h c != 0) = true := by simpa using hb
    go_enter Try.func19, Try.ntmps19
    go_wp2_with (go_at_call 68; refine (checkBoth_any A n h C m c _ hA hC (by omega) (by omega)).mono ?_; rintro e w2 ⟨rfl, hb2⟩)
    go_ret2
    exact ⟨rfl, hb2⟩

set_option maxHeartbeats 1000000 in
theorem refAgreement_any (A : Option Addr) (n : Nat) (h : List Pls) (C : Option Addr) (m : Nat) (c : List Clk) (s : Int) (w : World) (hA : Arr 5 Pls.enc w w.heap.size A h) (hC : Arr 2 Clk.enc w w.heap.size C c)
    (hl : h.length ≤ 4096) (hm : c.length ≤ 4096) :
    Calls Try.prog 20 #[.slice A h.length n, .slice C c.length m, .int .i64 s] w fun e w' => e = .returned (.tuple #[.int .i64 (agrV h c s).1, .int .i64 (agrV h c s).2]) ∧ Below w.heap.size w w' := by
  by_cases hb : bothE h c = 0
  · cases hs : betwB s (-16) 16
    · rw [agrV_range hb hs]
      have Hb := Lib.hid hb; have Hs := Lib.hid hs
      clear hb hs
      go_enter Try.func20, Try.ntmps20
      go_wp2_with (first
        | (go_at_call 70; refine (refBoth_any A n h C m c _ hA hC (by omega) (by omega)).mono ?_; rintro e w' ⟨rfl, rfl⟩; rw [Hb.out])
        | (go_at_call 66; refine (Shiftable_any _ _).mono ?_; rintro e w' ⟨rfl, rfl⟩; rw [Hs.out]))
      go_ret2
      exact ⟨rfl, Below.refl _ _⟩
    · rw [agrV_ok hb hs]
      have Hb := Lib.hid hb; have Hs := Lib.hid hs
      simp only [betwB, decide_eq_true_eq] at hs
      obtain ⟨s1, s2⟩ := hs
      clear hb
      go_enter Try.func20, Try.ntmps20
      go_wp2_with (first
        | (go_at_call 70; refine (refBoth_any A n h C m c _ hA hC (by omega) (by omega)).mono ?_; rintro e w' ⟨rfl, rfl⟩; rw [Hb.out])
        | (go_at_call 66; refine (Shiftable_any _ _).mono ?_; rintro e w' ⟨rfl, rfl⟩; rw [Hs.out])
        | (go_at_call 71; refine (score_any A n h C m c s _ hA hC hl hm s1 s2).mono ?_; rintro e w3 ⟨rfl, hb3⟩))
      go_ret2
      exact ⟨rfl, hb3⟩
  · rw [agrV_both hb]
    have hb' : (bothE h c != 0) = true := by simpa using hb
    go_enter Try.func20, Try.ntmps20
    go_wp2_with (go_at_call 70; refine (refBoth_any A n h C m c _ hA hC (by omega) (by omega)).mono ?_; rintro e w' ⟨rfl, rfl⟩)
    go_ret2
    exact ⟨rfl, Below.refl _ _⟩

/-- The shifts in the reference's order, from the first on. -/
def shAt (j : Nat) : Int := if j % 2 = 0 then -((j : Int) / 2 + 1) else (j : Int) / 2 + 1
def rs : Nat → List Sft
  | 0 => []
  | j + 1 => rs j ++ [mkS (shAt j)]
theorem rs_all : shTo 16 = mkS 0 :: rs 32 := by kernel_rfl
theorem bestF_rs (h : List Pls) (c : List Clk) : bestF h c (shTo 16) = bestF h c (rs 32) := by
  rw [rs_all]
  unfold bestF
  rw [List.foldl_cons]
  congr 1
  split <;> rfl
theorem shAt_bd {j : Nat} (h : j < 32) : -16 ≤ shAt j ∧ shAt j ≤ 16 := by unfold shAt; split <;> omega

def alM (h : List Pls) (c : List Clk) (need : Int) : Int × Int := if scS h c (bestF h c (rs 32)) < need then (0, 17) else (bestF h c (rs 32), 0)
theorem alM_no {h : List Pls} {c : List Clk} {need : Int} (hx : scS h c (bestF h c (rs 32)) < need) : alM h c need = (0, 17) := if_pos hx
theorem alM_yes {h : List Pls} {c : List Clk} {need : Int} (hx : need ≤ scS h c (bestF h c (rs 32))) : alM h c need = (bestF h c (rs 32), 0) := if_neg (by omega)

set_option maxRecDepth 100000 in
set_option maxHeartbeats 2000000 in
theorem refAlign_main (A : Option Addr) (n : Nat) (h : List Pls) (C : Option Addr) (m : Nat) (c : List Clk) (need : Int) (w : World) (hA : Arr 5 Pls.enc w w.heap.size A h) (hC : Arr 2 Clk.enc w w.heap.size C c)
    (hl : h.length ≤ 4096) (hm : c.length ≤ 4096) (hbo : bothE h c = 0) (hn : betwB need 0 4096 = true) :
    Calls Try.prog 22 #[.slice A h.length n, .slice C c.length m, .int .i64 need] w fun e w' =>
      e = .returned (.tuple #[.int .i64 (alM h c need).1, .int .i64 (alM h c need).2]) ∧ Below w.heap.size w w' := by
  have Hbo := Lib.hid hbo
  have Hn := Lib.hid hn
  clear hbo hn
  go_enter Try.func22, Try.ntmps22
  go_wp2_with (first
    | (go_at_call 70; refine (refBoth_any A n h C m c _ hA hC (by omega) (by omega)).mono ?_; rintro e w' ⟨rfl, rfl⟩; rw [Hbo.out])
    | (go_at_call 67; refine (within_any _ _ _).mono ?_; rintro e w' ⟨rfl, rfl⟩; rw [Hn.out]))
  go_loopw [8, 9] (fun b i wr => ∃ j : Nat, j ≤ 32 ∧ i = .int .i64 ((j : Int) + 1) ∧ b = .int .i64 (bestF h c (rs j)) ∧ Below w.heap.size w wr) (fun _ i _ => 33 - (intOf i).toNat)
  case atStart => exact ⟨0, by omega, rfl, rfl, Below.refl _ _⟩
  case round =>
    obtain ⟨j, hj, rfl, rfl, hb⟩ := hrel
    have hbd := bestF_bd h c (rs j)
    by_cases hlt : j < 32
    · have hsb := shAt_bd hlt
      have Hs1 : Hid (scS h c (bestF h c (rs j)) < scS h c (shAt j) → bestF h c (rs (j + 1)) = shAt j) := Lib.hid (fun hx => by rw [rs, bestF_snoc, mkS_val hsb, if_pos hx])
      have Hs2 : Hid (scS h c (shAt j) ≤ scS h c (bestF h c (rs j)) → bestF h c (rs (j + 1)) = bestF h c (rs j)) := Lib.hid (fun hx => by rw [rs, bestF_snoc, mkS_val hsb, if_neg (by omega)])
      by_cases hp : j % 2 = 0
      · have hsh : Hid (shAt j = -(((j : Int) + 1 + 1) / 2)) := Lib.hid (by unfold shAt; rw [if_pos hp]; omega)
        have hp' : (((j : Int) + 1) % 2 == 1) = true := by simp; omega
        go_wp2_with fail
        rw [← hsh.out]
        refine (score_any A n h C m c (shAt j) _ (hA.on hb) (hC.on hb) hl hm hsb.1 hsb.2).mono ?_
        rintro e w2 ⟨rfl, hb2⟩
        go_wp2_with fail
        refine (score_any A n h C m c (bestF h c (rs j)) _ ((hA.on hb).on hb2) ((hC.on hb).on hb2) hl hm hbd.1 hbd.2).mono ?_
        rintro e w3 ⟨rfl, hb3⟩
        go_wp2_with fail
        · rename_i hx
          go_roundw
          case rel => exact ⟨j + 1, by omega, by go_num, by rw [Hs1.out hx], below_trans (below_trans hb hb2) hb3⟩
          case measure => simp [intOf]; omega
        · rename_i hx
          go_roundw
          case rel => exact ⟨j + 1, by omega, by go_num, by rw [Hs2.out (by show scoreTo h c (shAt j) h.length ≤ scoreTo h c (bestF h c (rs j)) h.length; omega)], below_trans (below_trans hb hb2) hb3⟩
          case measure => simp [intOf]; omega
      · have hsh : Hid (shAt j = ((j : Int) + 1 + 1) / 2) := Lib.hid (by unfold shAt; rw [if_neg hp]; omega)
        have hp' : (((j : Int) + 1) % 2 == 1) = false := by simp; omega
        go_wp2_with fail
        rw [← hsh.out]
        refine (score_any A n h C m c (shAt j) _ (hA.on hb) (hC.on hb) hl hm hsb.1 hsb.2).mono ?_
        rintro e w2 ⟨rfl, hb2⟩
        go_wp2_with fail
        refine (score_any A n h C m c (bestF h c (rs j)) _ ((hA.on hb).on hb2) ((hC.on hb).on hb2) hl hm hbd.1 hbd.2).mono ?_
        rintro e w3 ⟨rfl, hb3⟩
        go_wp2_with fail
        · rename_i hx
          go_roundw
          case rel => exact ⟨j + 1, by omega, by go_num, by rw [Hs1.out hx], below_trans (below_trans hb hb2) hb3⟩
          case measure => simp [intOf]; omega
        · rename_i hx
          go_roundw
          case rel => exact ⟨j + 1, by omega, by go_num, by rw [Hs2.out (by show scoreTo h c (shAt j) h.length ≤ scoreTo h c (bestF h c (rs j)) h.length; omega)], below_trans (below_trans hb hb2) hb3⟩
          case measure => simp [intOf]; omega
    · obtain rfl : j = 32 := by omega
      go_wp2_with (go_at_call 71; refine (score_any A n h C m c (bestF h c (rs 32)) _ (hA.on hb) (hC.on hb) hl hm hbd.1 hbd.2).mono ?_; rintro e w3 ⟨rfl, hb3⟩)
      · rename_i hx
        go_ret2
        exact ⟨by rw [alM_no hx]; rfl, below_trans hb hb3⟩
      · rename_i hx
        go_ret2
        exact ⟨by rw [alM_yes hx]; rfl, below_trans hb hb3⟩

set_option maxHeartbeats 1000000 in
theorem refAlign_any (A : Option Addr) (n : Nat) (h : List Pls) (C : Option Addr) (m : Nat) (c : List Clk) (need : Int) (w : World) (hA : Arr 5 Pls.enc w w.heap.size A h) (hC : Arr 2 Clk.enc w w.heap.size C c)
    (hl : h.length ≤ 4096) (hm : c.length ≤ 4096) :
    Calls Try.prog 22 #[.slice A h.length n, .slice C c.length m, .int .i64 need] w fun e w' => e = .returned (.tuple #[.int .i64 (alignV h c need).1, .int .i64 (alignV h c need).2]) ∧ Below w.heap.size w w' := by
  by_cases hb : bothE h c = 0
  · by_cases hn : betwB need 0 4096 = true
    · refine (refAlign_main A n h C m c need w hA hC hl hm hb hn).mono ?_
      rintro e w' ⟨rfl, hb'⟩
      refine ⟨?_, hb'⟩
      have hv : alignV h c need = alM h c need := by simp [alignV, hb, hn, bestF_rs, alM]
      rw [hv]
    · have Hv : Hid (alignV h c need = (0, 3)) := Lib.hid (by unfold alignV; rw [if_neg (by simpa using hb), if_pos (by simpa using hn)])
      have Hb := Lib.hid hb
      have Hn : Hid (betwB need 0 4096 = false) := Lib.hid (by simpa using hn)
      clear hb hn
      go_enter Try.func22, Try.ntmps22
      go_wp2_with (first
        | (go_at_call 70; refine (refBoth_any A n h C m c _ hA hC (by omega) (by omega)).mono ?_; rintro e w' ⟨rfl, rfl⟩; rw [Hb.out])
        | (go_at_call 67; refine (within_any _ _ _).mono ?_; rintro e w' ⟨rfl, rfl⟩; rw [Hn.out]))
      go_ret2
      exact ⟨by rw [Hv.out]; rfl, Below.refl _ _⟩
  · have Hv : Hid (alignV h c need = (0, bothE h c)) := Lib.hid (by unfold alignV; rw [if_pos hb])
    have hb' : (bothE h c != 0) = true := by simpa using hb
    go_enter Try.func22, Try.ntmps22
    go_wp2_with (go_at_call 70; refine (refBoth_any A n h C m c _ hA hC (by omega) (by omega)).mono ?_; rintro e w' ⟨rfl, rfl⟩)
    go_ret2
    exact ⟨by rw [Hv.out]; rfl, Below.refl _ _⟩

end Go.Proofs.Ytfodlpiidlajeaa
