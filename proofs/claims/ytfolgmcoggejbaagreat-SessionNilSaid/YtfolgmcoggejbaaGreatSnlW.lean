/- The walk of SessionNil. For any two numbers. -/
import Derived.Test.YtfolgmcoggejbaaGreatSnlA
namespace Go.Proofs.YtfolgmcoggejbaaGreat
open Go.RowKit
set_option linter.unusedVariables false
set_option linter.unusedSimpArgs false

theorem built_sta : ∃ cs, Tryz.prog.built 82 [] = some cs ∧ cs[0]? = some (.bool false) := by
  have h : (Tryz.prog.built 82 []).map (fun cs => cs[0]?) = some (some (.bool false)) := by kernel_rfl
  cases hb : Tryz.prog.built 82 [] with
  | none => rw [hb] at h; cases h
  | some cs => rw [hb] at h; exact ⟨cs, rfl, by simpa using h⟩
theorem built_par : ∃ cs, Tryz.prog.built 104 [] = some cs ∧ cs[0]? = some (.bool false) := by
  have h : (Tryz.prog.built 104 []).map (fun cs => cs[0]?) = some (some (.bool false)) := by kernel_rfl
  cases hb : Tryz.prog.built 104 [] with
  | none => rw [hb] at h; cases h
  | some cs => rw [hb] at h; exact ⟨cs, rfl, by simpa using h⟩
set_option maxRecDepth 100000 in
set_option maxHeartbeats 8000000 in
theorem nil7_any (a k : Int) (w : World) : Calls Tryz.prog 4 #[.int .i64 a, .int .i64 k] w fun e w' => e = .returned (.bool true) ∧ Below w.heap.size w w' := by
  obtain ⟨staZ, hS, zS⟩ := built_sta
  obtain ⟨parZ, hP, zP⟩ := built_par
  have HS := Lib.hid hS; have HP := Lib.hid hP
  clear hS hP
  have b1 := below_alloc (Below.refl w.heap.size w) (.cells staZ 82)
  have n1 : (w.alloc (.cells staZ 82)).cell? ⟨w.heap.size, 0, none⟩ = some (.bool false) := new_cell zS
  have q2 := below_alloc b1 (.cells #[.pointer none, .pointer (some ⟨w.heap.size, 0, none⟩)] 62)
  have n2 := bel_cell (below_alloc (Below.refl _ _) (.cells #[.pointer none, .pointer (some ⟨w.heap.size, 0, none⟩)] 62)) n1
  have s0 : ((w.alloc (.cells staZ 82)).alloc (.cells #[.pointer none, .pointer (some ⟨w.heap.size, 0, none⟩)] 62)).cell? ⟨(w.alloc (.cells staZ 82)).heap.size, 0, none⟩ = some (.pointer none) := new_cell rfl
  have s1 : ((w.alloc (.cells staZ 82)).alloc (.cells #[.pointer none, .pointer (some ⟨w.heap.size, 0, none⟩)] 62)).cell? ⟨(w.alloc (.cells staZ 82)).heap.size, 1, none⟩ = some (.pointer (some ⟨w.heap.size, 0, none⟩)) := new_cell rfl
  simp only [World.size_alloc] at s0 s1
  clear b1 n1
  go_enter Tryz.func4, Tryz.ntmps4
  go_upto_region 2 with (first
    | (refine wpList_buildAs rfl 82 _ rfl #[] (by kernel_rfl) staZ HS.out ?_)
    | (refine Great.wpList_buildSliceTo rfl 83 62 2 _ (by rfl) (w.heap.size + 1) (by simp) (some 22) rfl Tryz.underlying83 #[.pointer none, .pointer (some ⟨w.heap.size, 0, none⟩)] (by kernel_rfl) ?_))
  obtain ⟨w2, hw2⟩ : ∃ w2, (w.alloc (.cells staZ 82)).alloc (.cells #[.pointer none, .pointer (some ⟨w.heap.size, 0, none⟩)] 62) = w2 := ⟨_, rfl⟩
  rw [hw2] at q2 n2 s0 s1 ⊢
  clear hw2
  obtain ⟨sb, hsb⟩ : ∃ sb, w.heap.size = sb := ⟨_, rfl⟩
  rw [hsb] at n2 s0 s1 ⊢
  clear hsb
  have S0 : Bad w2 (.pointer none) := .inl rfl
  have S1 : Bad w2 (.pointer (some ⟨sb, 0, none⟩)) := .inr ⟨sb, rfl, n2⟩
  clear n2
  go_wp2_with fail
  go_loopw [6] (fun i wr => ∃ j : Nat, j ≤ 2 ∧ i = .int .i64 j ∧ Below w2.heap.size w2 wr) (fun i _ => 2 - (intOf i).toNat)
  case atStart => exact ⟨0, by omega, rfl, Below.refl _ _⟩
  case round =>
    obtain ⟨j, hj, rfl, hb⟩ := hrel
    rcases (show j = 0 ∨ j = 1 ∨ j = 2 by omega) with rfl | rfl | rfl
    case inr.inr =>
      have q3 := below_trans q2 hb
      clear S0 S1 s0 s1 hb q2
      obtain ⟨w3, rfl⟩ : ∃ w3, w3 = wr := ⟨_, rfl⟩
      have b4 := below_alloc (Below.refl w3.heap.size w3) (.cells parZ 104)
      have n4 : (w3.alloc (.cells parZ 104)).cell? ⟨w3.heap.size, 0, none⟩ = some (.bool false) := new_cell zP
      have q5 := below_trans q3 (below_alloc b4 (.cells #[.pointer none, .pointer (some ⟨w3.heap.size, 0, none⟩)] 96))
      have n5 := bel_cell (below_alloc (Below.refl _ _) (.cells #[.pointer none, .pointer (some ⟨w3.heap.size, 0, none⟩)] 96)) n4
      have p0 : ((w3.alloc (.cells parZ 104)).alloc (.cells #[.pointer none, .pointer (some ⟨w3.heap.size, 0, none⟩)] 96)).cell? ⟨(w3.alloc (.cells parZ 104)).heap.size, 0, none⟩ = some (.pointer none) := new_cell rfl
      have p1 : ((w3.alloc (.cells parZ 104)).alloc (.cells #[.pointer none, .pointer (some ⟨w3.heap.size, 0, none⟩)] 96)).cell? ⟨(w3.alloc (.cells parZ 104)).heap.size, 1, none⟩ = some (.pointer (some ⟨w3.heap.size, 0, none⟩)) := new_cell rfl
      simp only [World.size_alloc] at p0 p1
      clear b4 n4 q3
      go_upto_region 12 with (first
        | (refine wpList_buildAs rfl 104 _ rfl #[] (by kernel_rfl) parZ HP.out ?_)
        | (refine Great.wpList_buildSliceTo rfl 105 96 2 _ (by rfl) (w3.heap.size + 1) (by simp) (some 121) rfl Tryz.underlying105 #[.pointer none, .pointer (some ⟨w3.heap.size, 0, none⟩)] (by kernel_rfl) ?_))
      obtain ⟨w5, hw5⟩ : ∃ w5, (w3.alloc (.cells parZ 104)).alloc (.cells #[.pointer none, .pointer (some ⟨w3.heap.size, 0, none⟩)] 96) = w5 := ⟨_, rfl⟩
      rw [hw5] at q5 n5 p0 p1 ⊢
      clear hw5
      obtain ⟨pb, hpb⟩ : ∃ pb, w3.heap.size = pb := ⟨_, rfl⟩
      rw [hpb] at n5 p0 p1 ⊢
      clear hpb
      have S0 : Bad w5 (.pointer none) := .inl rfl
      have S1 : Bad w5 (.pointer (some ⟨pb, 0, none⟩)) := .inr ⟨pb, rfl, n5⟩
      clear n5
      go_wp2_with fail
      go_loopw [15] (fun i wr => ∃ j : Nat, j ≤ 2 ∧ i = .int .i64 j ∧ Below w5.heap.size w5 wr) (fun i _ => 2 - (intOf i).toNat)
      case atStart => exact ⟨0, by omega, rfl, Below.refl _ _⟩
      case round =>
        obtain ⟨j, hj, rfl, hb⟩ := hrel
        obtain ⟨w6, rfl⟩ : ∃ w6, w6 = wr := ⟨_, rfl⟩
        rcases (show j = 0 ∨ j = 1 ∨ j = 2 by omega) with rfl | rfl | rfl
        case inr.inr =>
          have q6 := below_trans q5 hb
          have cW := works7_any w6
          clear S0 S1 p0 p1 hb q5
          go_wp2_with fail
          refine cW.mono ?_
          rintro e w7 ⟨rfl, hb7⟩
          go_wp2_with fail
          go_ret
          exact ⟨rfl, below_trans q6 hb7⟩
        · have hB := fun w' (h : Below w5.heap.size w5 w') => S0.on h
          have t0 := bel_cell hb p0
          have q := hb
          clear hb S1 S0 p0 p1
          go_wp2_with (first
            | (go_at_call 30; refine (pSettle_bad _ _ _ (hB _ q)).mono ?_; rintro e w9 ⟨rfl, hb9⟩; replace q := below_trans q hb9; clear hb9)
            | (go_at_call 32; refine (pDo_bad _ _ _ _ (hB _ q)).mono ?_; rintro e w9 ⟨rfl, hb9⟩; replace q := below_trans q hb9; replace z0 := bel_cell hb9 z0; replace z1 := bel_cell hb9 z1; replace z2 := bel_cell hb9 z2; replace z3 := bel_cell hb9 z3; clear hb9)
            | (go_at_call 33; refine (pFlying_bad _ _ (hB _ q)).mono ?_; rintro e w9 ⟨rfl, hb9⟩; replace q := below_trans q hb9; replace z0 := bel_cell hb9 z0; replace z1 := bel_cell hb9 z1; replace z2 := bel_cell hb9 z2; replace z3 := bel_cell hb9 z3; clear hb9)
            | (go_at_call 31; refine (pFlight_bad _ _ (hB _ q)).mono ?_; rintro e w9 ⟨rfl, hb9⟩; replace q := below_trans q hb9; clear hb9; have z0 : (w9.alloc (.cells #[.slice none 0 0, .slice none 0 0, .slice none 0 0, .int .i64 0] 102)).cell? ⟨w9.heap.size, 0, none⟩ = some (.slice none 0 0) := new_cell rfl; have z1 : (w9.alloc (.cells #[.slice none 0 0, .slice none 0 0, .slice none 0 0, .int .i64 0] 102)).cell? ⟨w9.heap.size, 1, none⟩ = some (.slice none 0 0) := new_cell rfl; have z2 : (w9.alloc (.cells #[.slice none 0 0, .slice none 0 0, .slice none 0 0, .int .i64 0] 102)).cell? ⟨w9.heap.size, 2, none⟩ = some (.slice none 0 0) := new_cell rfl; have z3 : (w9.alloc (.cells #[.slice none 0 0, .slice none 0 0, .slice none 0 0, .int .i64 0] 102)).cell? ⟨w9.heap.size, 3, none⟩ = some (.int .i64 0) := new_cell rfl; replace q := below_alloc q (.cells #[.slice none 0 0, .slice none 0 0, .slice none 0 0, .int .i64 0] 102))
            | (go_at_call 34; refine (pStation_bad _ _ _ (hB _ q)).mono ?_; rintro e w9 ⟨rfl, hb9⟩; replace q := below_trans q hb9; replace z0 := bel_cell hb9 z0; replace z1 := bel_cell hb9 z1; replace z2 := bel_cell hb9 z2; replace z3 := bel_cell hb9 z3; clear hb9)
            | (go_at_call 35; refine (pCollided_bad _ _ (hB _ q)).mono ?_; rintro e w9 ⟨rfl, hb9⟩; replace q := below_trans q hb9; replace z0 := bel_cell hb9 z0; replace z1 := bel_cell hb9 z1; replace z2 := bel_cell hb9 z2; replace z3 := bel_cell hb9 z3; clear hb9)
            | (go_at_call 36; refine (pCopy_bad _ _ (hB _ q)).mono ?_; rintro e w9 ⟨rfl, hb9⟩; replace q := below_trans q hb9; replace z0 := bel_cell hb9 z0; replace z1 := bel_cell hb9 z1; replace z2 := bel_cell hb9 z2; replace z3 := bel_cell hb9 z3; clear hb9))
          exact ⟨⟨1, by omega, rfl, q⟩, by simp [intOf]⟩
        · have hB := fun w' (h : Below w5.heap.size w5 w') => S1.on h
          have t1 := bel_cell hb p1
          have q := hb
          clear hb S1 S0 p0 p1
          go_wp2_with (first
            | (go_at_call 30; refine (pSettle_bad _ _ _ (hB _ q)).mono ?_; rintro e w9 ⟨rfl, hb9⟩; replace q := below_trans q hb9; clear hb9)
            | (go_at_call 32; refine (pDo_bad _ _ _ _ (hB _ q)).mono ?_; rintro e w9 ⟨rfl, hb9⟩; replace q := below_trans q hb9; replace z0 := bel_cell hb9 z0; replace z1 := bel_cell hb9 z1; replace z2 := bel_cell hb9 z2; replace z3 := bel_cell hb9 z3; clear hb9)
            | (go_at_call 33; refine (pFlying_bad _ _ (hB _ q)).mono ?_; rintro e w9 ⟨rfl, hb9⟩; replace q := below_trans q hb9; replace z0 := bel_cell hb9 z0; replace z1 := bel_cell hb9 z1; replace z2 := bel_cell hb9 z2; replace z3 := bel_cell hb9 z3; clear hb9)
            | (go_at_call 31; refine (pFlight_bad _ _ (hB _ q)).mono ?_; rintro e w9 ⟨rfl, hb9⟩; replace q := below_trans q hb9; clear hb9; have z0 : (w9.alloc (.cells #[.slice none 0 0, .slice none 0 0, .slice none 0 0, .int .i64 0] 102)).cell? ⟨w9.heap.size, 0, none⟩ = some (.slice none 0 0) := new_cell rfl; have z1 : (w9.alloc (.cells #[.slice none 0 0, .slice none 0 0, .slice none 0 0, .int .i64 0] 102)).cell? ⟨w9.heap.size, 1, none⟩ = some (.slice none 0 0) := new_cell rfl; have z2 : (w9.alloc (.cells #[.slice none 0 0, .slice none 0 0, .slice none 0 0, .int .i64 0] 102)).cell? ⟨w9.heap.size, 2, none⟩ = some (.slice none 0 0) := new_cell rfl; have z3 : (w9.alloc (.cells #[.slice none 0 0, .slice none 0 0, .slice none 0 0, .int .i64 0] 102)).cell? ⟨w9.heap.size, 3, none⟩ = some (.int .i64 0) := new_cell rfl; replace q := below_alloc q (.cells #[.slice none 0 0, .slice none 0 0, .slice none 0 0, .int .i64 0] 102))
            | (go_at_call 34; refine (pStation_bad _ _ _ (hB _ q)).mono ?_; rintro e w9 ⟨rfl, hb9⟩; replace q := below_trans q hb9; replace z0 := bel_cell hb9 z0; replace z1 := bel_cell hb9 z1; replace z2 := bel_cell hb9 z2; replace z3 := bel_cell hb9 z3; clear hb9)
            | (go_at_call 35; refine (pCollided_bad _ _ (hB _ q)).mono ?_; rintro e w9 ⟨rfl, hb9⟩; replace q := below_trans q hb9; replace z0 := bel_cell hb9 z0; replace z1 := bel_cell hb9 z1; replace z2 := bel_cell hb9 z2; replace z3 := bel_cell hb9 z3; clear hb9)
            | (go_at_call 36; refine (pCopy_bad _ _ (hB _ q)).mono ?_; rintro e w9 ⟨rfl, hb9⟩; replace q := below_trans q hb9; replace z0 := bel_cell hb9 z0; replace z1 := bel_cell hb9 z1; replace z2 := bel_cell hb9 z2; replace z3 := bel_cell hb9 z3; clear hb9))
          exact ⟨⟨2, by omega, rfl, q⟩, by simp [intOf]⟩
    · have hB := fun w' (h : Below w2.heap.size w2 w') => S0.on h
      have t0 := bel_cell hb s0
      have q := hb
      clear hb S1 S0 s0 s1
      go_wp2_with (first
        | (go_at_call 19; refine (sBegin_bad _ _ _ (hB _ q)).mono ?_; rintro e w9 ⟨rfl, hb9⟩; replace q := below_trans q hb9; clear hb9)
        | (go_at_call 20; refine (sTake_bad _ _ _ _ (hB _ q)).mono ?_; rintro e w9 ⟨rfl, hb9⟩; replace q := below_trans q hb9; clear hb9)
        | (go_at_call 21; refine (sTick_bad _ _ (hB _ q)).mono ?_; rintro e w9 ⟨rfl, hb9⟩; replace q := below_trans q hb9; clear hb9)
        | (go_at_call 22; refine (sCrash_bad _ _ (hB _ q)).mono ?_; rintro e w9 ⟨rfl, hb9⟩; replace q := below_trans q hb9; clear hb9)
        | (go_at_call 23; refine (sRestart_bad _ _ (hB _ q)).mono ?_; rintro e w9 ⟨rfl, hb9⟩; replace q := below_trans q hb9; clear hb9)
        | (go_at_call 24; refine (sPhase_bad _ _ (hB _ q)).mono ?_; rintro e w9 ⟨rfl, hb9⟩; replace q := below_trans q hb9; clear hb9)
        | (go_at_call 25; refine (sSession_bad _ _ (hB _ q)).mono ?_; rintro e w9 ⟨rfl, hb9⟩; replace q := below_trans q hb9; clear hb9)
        | (go_at_call 26; refine (sReason_bad _ _ (hB _ q)).mono ?_; rintro e w9 ⟨rfl, hb9⟩; replace q := below_trans q hb9; clear hb9)
        | (go_at_call 27; refine (sRecords_bad _ _ (hB _ q)).mono ?_; rintro e w9 ⟨rfl, hb9⟩; replace q := below_trans q hb9; clear hb9)
        | (go_at_call 28; refine (sUsed_bad _ _ (hB _ q)).mono ?_; rintro e w9 ⟨rfl, hb9⟩; replace q := below_trans q hb9; clear hb9)
        | (go_at_call 29; refine (sCopy_bad _ _ (hB _ q)).mono ?_; rintro e w9 ⟨rfl, hb9⟩; replace q := below_trans q hb9; clear hb9))
      exact ⟨⟨1, by omega, rfl, q⟩, by simp [intOf]⟩
    · have hB := fun w' (h : Below w2.heap.size w2 w') => S1.on h
      have t1 := bel_cell hb s1
      have q := hb
      clear hb S1 S0 s0 s1
      go_wp2_with (first
        | (go_at_call 19; refine (sBegin_bad _ _ _ (hB _ q)).mono ?_; rintro e w9 ⟨rfl, hb9⟩; replace q := below_trans q hb9; clear hb9)
        | (go_at_call 20; refine (sTake_bad _ _ _ _ (hB _ q)).mono ?_; rintro e w9 ⟨rfl, hb9⟩; replace q := below_trans q hb9; clear hb9)
        | (go_at_call 21; refine (sTick_bad _ _ (hB _ q)).mono ?_; rintro e w9 ⟨rfl, hb9⟩; replace q := below_trans q hb9; clear hb9)
        | (go_at_call 22; refine (sCrash_bad _ _ (hB _ q)).mono ?_; rintro e w9 ⟨rfl, hb9⟩; replace q := below_trans q hb9; clear hb9)
        | (go_at_call 23; refine (sRestart_bad _ _ (hB _ q)).mono ?_; rintro e w9 ⟨rfl, hb9⟩; replace q := below_trans q hb9; clear hb9)
        | (go_at_call 24; refine (sPhase_bad _ _ (hB _ q)).mono ?_; rintro e w9 ⟨rfl, hb9⟩; replace q := below_trans q hb9; clear hb9)
        | (go_at_call 25; refine (sSession_bad _ _ (hB _ q)).mono ?_; rintro e w9 ⟨rfl, hb9⟩; replace q := below_trans q hb9; clear hb9)
        | (go_at_call 26; refine (sReason_bad _ _ (hB _ q)).mono ?_; rintro e w9 ⟨rfl, hb9⟩; replace q := below_trans q hb9; clear hb9)
        | (go_at_call 27; refine (sRecords_bad _ _ (hB _ q)).mono ?_; rintro e w9 ⟨rfl, hb9⟩; replace q := below_trans q hb9; clear hb9)
        | (go_at_call 28; refine (sUsed_bad _ _ (hB _ q)).mono ?_; rintro e w9 ⟨rfl, hb9⟩; replace q := below_trans q hb9; clear hb9)
        | (go_at_call 29; refine (sCopy_bad _ _ (hB _ q)).mono ?_; rintro e w9 ⟨rfl, hb9⟩; replace q := below_trans q hb9; clear hb9))
      exact ⟨⟨2, by omega, rfl, q⟩, by simp [intOf]⟩

end Go.Proofs.YtfolgmcoggejbaaGreat
