/- Contracts of the program's Announce and of the reference's: both return the list 'annL' and the error 'annE'. For any clicks, a shift and a range. -/
import Derived.Test.YteoaaphjbggobaaGreatDoorAnnP
import Derived.Test.YteoaaphjbggobaaGreatDoorRefChk
namespace Go.Proofs.YteoaaphjbggobaaGreatDoor
open Go.RowKit
set_option linter.unusedVariables false
set_option linter.unusedSimpArgs false

theorem heard_info : (Tryz.prog.info? 38).map (fun i => (i.zero, i.size, i.bytes)) = some (some (.agg #[.int .i64 0, .int .i64 0]), 2, 16) := by kernel_rfl

set_option maxRecDepth 100000 in
set_option maxHeartbeats 1000000 in
theorem Announce_main (A : Option Addr) (n : Nat) (c : List Clk) (s f t : Int) (w : World) (hA : Arr 2 Clk.enc w w.heap.size A c) (h0 : allE Clk.ok c = 0) (hab : annB s f t = true) :
    Calls Tryz.prog 7 #[.slice A c.length n, .int .i64 s, .int .i64 f, .int .i64 t] w fun e w' => ∃ v, e = .returned (.tuple #[v, .int .i64 0]) ∧ Own w' w.heap.size 38 2 Hrd.enc v (annTo c s f t c.length) ∧ Below w.heap.size w w' := by
  have hlen := (allE_zero.1 h0).1
  obtain ⟨i0, hi, hz0, hz1, hz2⟩ := info_parts heard_info
  have Hab := hab
  simp only [annB, Bool.and_eq_true] at Hab
  obtain ⟨⟨b1, b2⟩, b3⟩ := Hab
  have B1 := Lib.hid b1; have B2 := Lib.hid b2; have B3 := Lib.hid b3
  simp only [betwB, decide_eq_true_eq] at b1 b2 b3
  obtain ⟨s1, s2⟩ := b1
  obtain ⟨t1, t2⟩ := b2
  obtain ⟨f1, f2⟩ := b3
  have H0 := Lib.hid h0
  clear h0 hab
  go_enter Tryz.func7, Tryz.ntmps7
  go_wp2_with (first
    | (go_at_call 25; refine (checkClicks_any A n c _ hA (by omega)).mono ?_; rintro e w2 ⟨rfl, hb2⟩; rw [H0.out])
    | (go_at_call 21; refine (shiftable_any _ _).mono ?_; rintro e w' ⟨rfl, rfl⟩; rw [B1.out])
    | (go_at_call 23; refine (between_any _ _ _ _).mono ?_; rintro e w' ⟨rfl, rfl⟩; first | rw [B2.out] | rw [B3.out]))
  go_loopw [11, 36] (fun v i wr => ∃ k : Nat, k ≤ c.length ∧ i = .int .i64 k ∧ Own wr w.heap.size 38 2 Hrd.enc v (annTo c s f t k) ∧ Below w.heap.size w wr) (fun _ i _ => c.length - (intOf i).toNat)
  case atStart => exact ⟨0, Nat.zero_le _, rfl, Own.nil, hb2⟩
  case round =>
    obtain ⟨k, hk, rfl, hown, hb⟩ := hrel
    have hle := annTo_le c s f t k
    by_cases hlt : k < c.length
    · obtain ⟨b, off, qb, qk, rfl, hbb, hq, c0, c1⟩ := hA.clk hlt hb
      cases hsg : singleB qk
      · have Hs := Lib.hid hsg; clear hsg
        go_wp2_with (go_at_call 26; refine (single_any _ _ _).mono ?_; rintro e w3 ⟨rfl, hb3⟩; rw [Hs.out])
        go_roundw
        case rel => exact ⟨k + 1, by omega, by go_num, by rw [annTo_miss hq.out (.inl Hs.out)]; exact (hown.alloc _).below hb3, below_trans (below_alloc hb _) hb3⟩
        case measure => simp [intOf]; omega
      · have Hs := Lib.hid hsg; clear hsg
        by_cases h1 : (k : Int) - s < f
        · have h1' : decide (f ≤ (k : Int) - s) = false := by simp; omega
          go_wp2_with (go_at_call 26; refine (single_any _ _ _).mono ?_; rintro e w3 ⟨rfl, hb3⟩; rw [Hs.out])
          go_roundw
          case rel => exact ⟨k + 1, by omega, by go_num, by rw [annTo_miss hq.out (.inr (.inl h1))]; exact (hown.alloc _).below hb3, below_trans (below_alloc hb _) hb3⟩
          case measure => simp [intOf]; omega
        · by_cases h2 : t ≤ (k : Int) - s
          · have h1' : decide (f ≤ (k : Int) - s) = true := by simp; omega
            have h2' : decide ((k : Int) - s < t) = false := by simp; omega
            go_wp2_with (go_at_call 26; refine (single_any _ _ _).mono ?_; rintro e w3 ⟨rfl, hb3⟩; rw [Hs.out])
            go_roundw
            case rel => exact ⟨k + 1, by omega, by go_num, by rw [annTo_miss hq.out (.inr (.inr h2))]; exact (hown.alloc _).below hb3, below_trans (below_alloc hb _) hb3⟩
            case measure => simp [intOf]; omega
          · have h1' : decide (f ≤ (k : Int) - s) = true := by simp; omega
            have h2' : decide ((k : Int) - s < t) = true := by simp; omega
            go_wp2_with (first
              | (go_at_call 26; refine (single_any _ _ _).mono ?_; rintro e w3 ⟨rfl, hb3⟩; rw [Hs.out]; have d0 : w3.cell? ⟨wr.heap.size, 0, none⟩ = some (.int .i64 qb) := bel_cell hb3 (new_cell rfl); have hown3 := (hown.alloc _).below hb3; have hb4 := below_trans (below_alloc hb _) hb3)
              | (at_builtin; refine wpList_snoc rfl _ _ 32 rfl w.heap.size 38 i0 _ 2 16 Tryz.underlying32 hi hz0 hz1 hz2 rfl (by decide) _ (annTo c s f t k) ⟨(k : Int) - s, qb⟩ #[.int .i64 ((k : Int) - s), .int .i64 qb] 38 rfl hown3 rfl rfl rfl (Hrd.one _) (by omega) (by decide) hb4.size rfl ?_; intro v' w5 hown5 hb5))
            go_roundw
            case rel => exact ⟨k + 1, by omega, by go_num, by rw [annTo_hit hq.out Hs.out (by omega) (by omega)]; exact hown5, hb4.trans hb5⟩
            case measure => simp [intOf]; omega
    · go_wp2
      go_ret2
      obtain rfl : k = c.length := by omega
      exact ⟨_, rfl, hown, hb⟩

theorem annB_no {s f t : Int} (h : annB s f t = false) : betwB s (-16) 16 = false ∨ (betwB s (-16) 16 = true ∧ betwB t 0 4096 = false) ∨ (betwB s (-16) 16 = true ∧ betwB t 0 4096 = true ∧ betwB f 0 t = false) := by
  unfold annB at h
  cases h1 : betwB s (-16) 16 <;> cases h2 : betwB t 0 4096 <;> cases h3 : betwB f 0 t <;> simp_all

set_option maxRecDepth 100000 in
set_option maxHeartbeats 1000000 in
theorem Announce_any (A : Option Addr) (n : Nat) (c : List Clk) (s f t : Int) (w : World) (hA : Arr 2 Clk.enc w w.heap.size A c) (hl : c.length ≤ 4611686018427387904) :
    Calls Tryz.prog 7 #[.slice A c.length n, .int .i64 s, .int .i64 f, .int .i64 t] w fun e w' => ∃ v, e = .returned (.tuple #[v, .int .i64 (annE c s f t)]) ∧ Own w' w.heap.size 38 2 Hrd.enc v (annL c s f t) ∧ Below w.heap.size w w' := by
  by_cases h0 : allE Clk.ok c = 0
  · cases hab : annB s f t
    · have hE : annE c s f t = 3 := by simp [annE, h0, hab]
      have hL : annL c s f t = [] := by simp [annL, hab]
      rw [hE, hL]
      have H0 := Lib.hid h0
      rcases annB_no hab with b1 | ⟨b1, b2⟩ | ⟨b1, b2, b3⟩
      · have B1 := Lib.hid b1
        clear b1 hab h0 hE hL
        go_enter Tryz.func7, Tryz.ntmps7
        go_wp2_with (first
          | (go_at_call 25; refine (checkClicks_any A n c _ hA hl).mono ?_; rintro e w2 ⟨rfl, hb2⟩; rw [H0.out])
          | (go_at_call 21; refine (shiftable_any _ _).mono ?_; rintro e w' ⟨rfl, rfl⟩; rw [B1.out]))
        go_ret2
        exact ⟨_, rfl, Own.nil, hb2⟩
      · have B1 := Lib.hid b1; have B2 := Lib.hid b2
        clear b1 b2 hab h0 hE hL
        go_enter Tryz.func7, Tryz.ntmps7
        go_wp2_with (first
          | (go_at_call 25; refine (checkClicks_any A n c _ hA hl).mono ?_; rintro e w2 ⟨rfl, hb2⟩; rw [H0.out])
          | (go_at_call 21; refine (shiftable_any _ _).mono ?_; rintro e w' ⟨rfl, rfl⟩; rw [B1.out])
          | (go_at_call 23; refine (between_any _ _ _ _).mono ?_; rintro e w' ⟨rfl, rfl⟩; rw [B2.out]))
        go_ret2
        exact ⟨_, rfl, Own.nil, hb2⟩
      · have B1 := Lib.hid b1; have B2 := Lib.hid b2; have B3 := Lib.hid b3
        clear b1 b2 b3 hab h0 hE hL
        go_enter Tryz.func7, Tryz.ntmps7
        go_wp2_with (first
          | (go_at_call 25; refine (checkClicks_any A n c _ hA hl).mono ?_; rintro e w2 ⟨rfl, hb2⟩; rw [H0.out])
          | (go_at_call 21; refine (shiftable_any _ _).mono ?_; rintro e w' ⟨rfl, rfl⟩; rw [B1.out])
          | (go_at_call 23; refine (between_any _ _ _ _).mono ?_; rintro e w' ⟨rfl, rfl⟩; first | rw [B2.out] | rw [B3.out]))
        go_ret2
        exact ⟨_, rfl, Own.nil, hb2⟩
    · have hE : annE c s f t = 0 := by simp [annE, h0, hab]
      have hL : annL c s f t = annTo c s f t c.length := by simp [annL, hab, h0]
      rw [hE, hL]
      exact Announce_main A n c s f t w hA h0 hab
  · have hE : annE c s f t = allE Clk.ok c := by simp [annE, h0]
    have hL : annL c s f t = [] := by simp [annL, h0]
    rw [hE, hL]
    have h0' : (allE Clk.ok c != 0) = true := by simpa using h0
    clear hE hL
    go_enter Tryz.func7, Tryz.ntmps7
    go_wp2_with (go_at_call 25; refine (checkClicks_any A n c _ hA hl).mono ?_; rintro e w2 ⟨rfl, hb2⟩)
    go_ret2
    exact ⟨_, rfl, Own.nil, hb2⟩

set_option maxHeartbeats 1000000 in
theorem sameHeard_same (A B : Option Addr) (n m : Nat) (l : List Hrd) (w : World) (hA : Arr 2 Hrd.enc w w.heap.size A l) (hB : Arr 2 Hrd.enc w w.heap.size B l) (hl : l.length ≤ 4611686018427387904) :
    Calls Tryz.prog 10 #[.slice A l.length n, .slice B l.length m] w fun e w' => e = .returned (.bool true) ∧ Below w.heap.size w w' := by
  go_enter Tryz.func10, Tryz.ntmps10
  go_wp2
  go_loopw [5] (fun i wr => ∃ k : Nat, k ≤ l.length ∧ i = .int .i64 k ∧ Below w.heap.size w wr) (fun i _ => l.length - (intOf i).toNat)
  case atStart => exact ⟨0, Nat.zero_le _, rfl, Below.refl _ _⟩
  case round =>
    obtain ⟨k, hk, rfl, hb⟩ := hrel
    by_cases hlt : k < l.length
    · obtain ⟨b, off, qs, qb, rfl, hbb, hq, c0, c1⟩ := hA.hrd hlt hb
      obtain ⟨b', off', qs', qb', rfl, hbb', hq', c0', c1'⟩ := hB.hrd hlt hb
      obtain ⟨rfl, rfl⟩ : qs = qs' ∧ qb = qb' := by have := hq.out.symm.trans hq'.out; simpa using this
      have d0 := later_cell c0; have d1 := later_cell c1; have d0' := later_cell c0'; have d1' := later_cell c1'
      go_wp2
      refine wp_region_later (by kernel_rfl) (by kernel_rfl) ?_
      repeat (go_big_quiet_step (fail))
      refine wpQuiet_nil ?_
      rintro w1 ⟨⟨_, hb1⟩, rfl⟩
      go_wp2
      go_roundw
      case rel => exact ⟨k + 1, by omega, by go_num, below_trans hb hb1⟩
      case measure => simp [intOf]; omega
    · go_wp2
      go_ret
      exact ⟨rfl, hb⟩

end Go.Proofs.YteoaaphjbggobaaGreatDoor
