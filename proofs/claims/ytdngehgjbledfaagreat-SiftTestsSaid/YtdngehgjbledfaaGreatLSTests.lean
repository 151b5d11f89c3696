/- The statement SiftTests: for any block and any two fractions the law returns true and its arguments read as they did. No condition. -/
import Derived.Test.YtdngehgjbledfaaGreatOpen
import Derived.Test.YtdngehgjbledfaaGreatKnown
import Derived.Test.YtdngehgjbledfaaGreatTstE
import Derived.Laws.StructEq
namespace Go.Proofs.YtdngehgjbledfaaGreat.siftTests
open Go.ChangeShapes Go.WideShapes Go.ChangeAt Go.RowKit Go.Deep Go.Joins
set_option linter.unusedVariables false
set_option linter.unusedSimpArgs false

theorem dec_u32 {H : Type} {en : TypeId × Value → H} {w : World} {base : Nat} {spare : Nat → Bool} {held : Bool} {n : Nat} {cs : List Value} {y : DataW H × List MemPlace} (h : DataW.trod en Tryz.prog w base spare held n 111 cs = some y) : ∃ x : Nat, cs = enc32 x ∧ x < 4294967296 := by
  obtain ⟨x, rfl, _, hw⟩ := DataW.trod_int Tryz.underlying111 h
  have hb := bounds_u32 hw
  exact ⟨x.toNat, by unfold enc32; rw [show ((x.toNat : Nat) : Int) = x from by omega], by omega⟩

@[go_sem] theorem eqEst (a b c d e : Int) (w : World) : (Op.equalIn 10000 33 (.agg #[.int .i64 a, .int .i64 b, .int .i64 c, .int .i64 d, .int .i64 e]) (.agg #[.int .i64 a, .int .i64 b, .int .i64 c, .int .i64 d, .int .i64 e])).run Tryz.prog w = .ok true w := by
  have u3 := Tryz.underlying3
  have hS : Tryz.prog.underlying 33 = some (.struct (Tryz.prog.fieldsOf 33)) := by kernel_rfl
  rw [show (10000 : Nat) = 9999 + 1 from rfl, run_equalIn_agg w 9999 33 _ _ hS (by kernel_rfl)]
  simp only [Program.fieldsOf, Tryz.underlying33]
  go_simp
theorem tstV_form (a b : List Bool) (k : Int) (s : Nat) (f g : Frc) : ∃ x y z u v : Int, tstV a b k s f g = .agg #[.int .i64 x, .int .i64 y, .int .i64 z, .int .i64 u, .int .i64 v] := by
  unfold tstV
  split
  · exact rate_form _ _ _ _
  · exact ⟨_, _, _, _, _, rfl⟩
set_option maxHeartbeats 400000 in
theorem few_any (t : Int) (w : World) : Calls Tryz.prog 4 #[.int .i64 t] w fun e w' => e = .returned (.bool (decide (t ≤ 60 ∨ 512 < t))) ∧ w = w' := by
  go_enter Tryz.func4, Tryz.ntmps4
  go_wp2
  all_goals (go_ret; exact ⟨ret_bool (by first | (rw [Bool.eq_iff_iff]; simp; omega) | (rw [Bool.eq_iff_iff]; simp; done) | (simp; omega) | (simp; done) | rfl), rfl⟩)

theorem tstP_len (x a b : List Bool) (k : Int) (s : Nat) (f g : Frc) : (tstP x a b k s f g).length ≤ a.length := by
  unfold tstP
  split
  · rename_i h
    rw [pick_len]
    refine rs_len ?_
    refine Classical.byContradiction fun h2 => ?_
    unfold tstE at h
    split at h
    · cases h
    · first
      | cases h
      | (rw [if_pos h2] at h; cases h)
  · exact Nat.zero_le _

set_option maxRecDepth 100000 in
set_option maxHeartbeats 8000000 in
theorem main (A B : Option Addr) (cA cB : Nat) (a b : List Bool) (k : Int) (s : Nat) (f g : Frc) (w : World) (hA : Arr 1 encB w w.heap.size A a) (hB : Arr 1 encB w w.heap.size B b) (lA : a.length ≤ cA) (lB : b.length ≤ cB) (mA : cA ≤ maxLen) (mB : cB ≤ maxLen) (nA : A = none → cA = 0) (nB : B = none → cB = 0) (hf : f.In w) (hg : g.In w) :
    Calls Tryz.prog 3 #[.agg #[.slice A a.length cA, .slice B b.length cB, .int .i64 k, .int .u64 (s : Int)], .agg #[.slice f.A f.l.length f.c, .slice f.C f.m.length f.d], .agg #[.slice g.A g.l.length g.c, .slice g.C g.m.length g.d]] w fun e w' => e = .returned (.bool true) ∧ Below w.heap.size w w' := by
  have hb0 := below_alloc (below_alloc (below_alloc (Below.refl w.heap.size w) (.cells #[.slice A a.length cA, .slice B b.length cB, .int .i64 k, .int .u64 (s : Int)] 25)) (.cells #[.slice f.A f.l.length f.c, .slice f.C f.m.length f.d] 29)) (.cells #[.slice g.A g.l.length g.c, .slice g.C g.m.length g.d] 29)
  obtain ⟨n, hn⟩ : ∃ n, a.length = n := ⟨_, rfl⟩
  obtain ⟨m, hm⟩ : ∃ m, b.length = m := ⟨_, rfl⟩
  rw [hn] at hb0 lA ⊢
  rw [hm] at hb0 lB ⊢
  have Hn := Lib.hid hn; have Hm := Lib.hid hm
  clear hn hm
  obtain ⟨b1, h1⟩ : ∃ b1, decide ((n : Int) ≤ 60 ∨ 512 < (n : Int)) = b1 := ⟨_, rfl⟩
  obtain ⟨b2, h2⟩ : ∃ b2, decide ((m : Int) ≤ 60 ∨ 512 < (m : Int)) = b2 := ⟨_, rfl⟩
  obtain ⟨b3, h3⟩ : ∃ b3, decide (600 < (n : Int)) = b3 := ⟨_, rfl⟩
  obtain ⟨b4, h4⟩ : ∃ b4, decide (600 < (m : Int)) = b4 := ⟨_, rfl⟩
  by_cases hall : b1 = true ∧ b2 = true ∧ b3 = false ∧ b4 = false
  · obtain ⟨rfl, rfl, rfl, rfl⟩ := hall
    have n6 : n ≤ 600 := by have := of_decide_eq_false h3; omega
    have m6 : m ≤ 600 := by have := of_decide_eq_false h4; omega
    have cf1 := fun w' => few_any (n : Int) w'
    have cf2 := fun w' => few_any (m : Int) w'
    simp only [h1] at cf1
    simp only [h2] at cf2
    clear h1 h2
    go_enter Tryz.func3, Tryz.ntmps3
    go_wp2_with (first
      | (go_at_call 4; refine Calls.on (args' := #[.int .i64 (n : Int)]) rfl ?_; refine (cf1 _).mono ?_; rintro e w' ⟨rfl, rfl⟩)
      | (go_at_call 4; refine Calls.on (args' := #[.int .i64 (m : Int)]) rfl ?_; refine (cf2 _).mono ?_; rintro e w' ⟨rfl, rfl⟩)
      | (go_at_call 5; refine (known_any _).mono ?_; rintro e w2 ⟨rfl, hb2⟩))
    · go_ret
      exact ⟨rfl, below_trans hb0 hb2⟩
    · have bq := hb0
      obtain ⟨wq, hwq⟩ : ∃ wq, ((w.alloc (.cells #[.slice A n cA, .slice B m cB, .int .i64 k, .int .u64 (s : Int)] 25)).alloc (.cells #[.slice f.A f.l.length f.c, .slice f.C f.m.length f.d] 29)).alloc (.cells #[.slice g.A g.l.length g.c, .slice g.C g.m.length g.d] 29) = wq := ⟨_, rfl⟩
      have z0 : wq.cell? ⟨w.heap.size, 0, none⟩ = some (.slice A n cA) := by rw [← hwq]; exact box_0 _ _ _ _ _ _ _ rfl
      have z1 : wq.cell? ⟨w.heap.size, 1, none⟩ = some (.slice B m cB) := by rw [← hwq]; exact box_0 _ _ _ _ _ _ _ rfl
      have z2 : wq.cell? ⟨w.heap.size, 2, none⟩ = some (.int .i64 k) := by rw [← hwq]; exact box_0 _ _ _ _ _ _ _ rfl
      have z3 : wq.cell? ⟨w.heap.size, 3, none⟩ = some (.int .u64 (s : Int)) := by rw [← hwq]; exact box_0 _ _ _ _ _ _ _ rfl
      have z4 : wq.cell? ⟨w.heap.size + 1, 0, none⟩ = some (.slice f.A f.l.length f.c) := by rw [← hwq]; exact box_1 _ _ _ _ _ _ _ rfl
      have z5 : wq.cell? ⟨w.heap.size + 1, 1, none⟩ = some (.slice f.C f.m.length f.d) := by rw [← hwq]; exact box_1 _ _ _ _ _ _ _ rfl
      have z6 : wq.cell? ⟨w.heap.size + 1 + 1, 0, none⟩ = some (.slice g.A g.l.length g.c) := by rw [← hwq]; exact box_2 _ _ _ _ _ _ _ rfl
      have z7 : wq.cell? ⟨w.heap.size + 1 + 1, 1, none⟩ = some (.slice g.C g.m.length g.d) := by rw [← hwq]; exact box_2 _ _ _ _ _ _ _ rfl
      have zs : w.heap.size + 1 + 1 < wq.heap.size := by rw [← hwq]; simp
      rw [hwq] at bq ⊢
      clear hwq hb0
      obtain ⟨i0, hi, hz0, hz1, hz2⟩ := info_parts bool_info3
      have Hi := Lib.hid hi; have Hz0 := Lib.hid hz0; have Hz1 := Lib.hid hz1; have Hz2 := Lib.hid hz2
      clear hi hz0 hz1 hz2 cf1 cf2
      have aA := hA.on bq
      have aB := hB.on bq
      go_cut [7, 8] (fun v7 v8 wx => ∃ P1 C1 P2 C2, v7 = .slice P1 n C1 ∧ v8 = .slice P2 m C2 ∧ Arr 1 encB wx wx.heap.size P1 a ∧ Arr 1 encB wx wx.heap.size P2 b ∧ Below wq.heap.size wq wx)
      case first =>
        have L0 := fun w' (hb : Below wq.heap.size wq w') => bel_cell hb z0
        have L1 := fun w' (hb : Below wq.heap.size wq w') => bel_cell hb z1
        refine wp_region_held_drew (S := fun w' => Below wq.heap.size wq w') (by kernel_rfl) (Below.refl _ _).drew (fun hHeld => ?_)
        (refine wpAnyH_take (i := 1) (v := ?_) rfl (by kernel_rfl) (by kernel_rfl) (by kernel_rfl) (fun _ _ _ h => h) (Or.inl ⟨by rfl, ?_⟩) (by assumption) ?_; rotate_left 1; (focus (intro wz hSz; (try dsimp only at hSz); go_simp; (try with_reducible rfl))); (try simp only [Act.put, List.setIfInBounds_toArray, List.set_cons_zero, List.set_cons_succ]))
        (refine wpAnyH_take (i := 2) (v := ?_) rfl (by kernel_rfl) (by kernel_rfl) (by kernel_rfl) (fun _ _ _ h => h) (Or.inl ⟨by rfl, ?_⟩) (by assumption) ?_; rotate_left 1; (focus (intro wz hSz; (try dsimp only at hSz); go_simp; (try with_reducible rfl))); (try simp only [Act.put, List.setIfInBounds_toArray, List.set_cons_zero, List.set_cons_succ]))
        (refine wpAnyH_take (i := 5) (v := ?_) rfl (by kernel_rfl) (by kernel_rfl) (by kernel_rfl) (fun _ _ _ h => h) (Or.inl ⟨by rfl, ?_⟩) (by assumption) ?_; rotate_left 1; (focus (intro wz hSz; (try dsimp only at hSz); go_simp; (try with_reducible rfl))); (try simp only [Act.put, List.setIfInBounds_toArray, List.set_cons_zero, List.set_cons_succ]))
        (refine wpAnyH_take (i := 6) (v := ?_) rfl (by kernel_rfl) (by kernel_rfl) (by kernel_rfl) (fun _ _ _ h => h) (Or.inl ⟨by rfl, ?_⟩) (by assumption) ?_; rotate_left 1; (focus (intro wz hSz; (try dsimp only at hSz); go_simp; (try with_reducible rfl))); (try simp only [Act.put, List.setIfInBounds_toArray, List.set_cons_zero, List.set_cons_succ]))
        refine wpAnyH_ready (rs := [0, 4]) (by kernel_rfl) (by simp) ?_
        refine AllReadyH.cons rfl (fun K1 hK1 => ?_) (AllReadyH.cons rfl (fun K1 hK1 => ?_) AllReadyH.nil)
        · go_simp
          refine hK1.out _ _ ((below_alloc (Below.refl _ _) (.cells #[] 4)).drew) (fun hS1 => ?_)
          try simp only [Act.put, List.setIfInBounds_toArray, List.set_cons_zero, List.set_cons_succ]
          have o1 : Own (wq.alloc (.cells #[] 4)).drew wq.heap.size 4 1 encB (.slice (some ⟨wq.heap.size, 0, none⟩) 0 0) ([] : List Bool) := (own_empty wq wq.heap.size 4 (Nat.le_refl _)).drew
          refine wpAnyH_ready (rs := [3, 4]) (by kernel_rfl) (by simp) ?_
          refine AllReadyH.cons rfl (fun K2 hK2 => ?_) (AllReadyH.cons rfl (fun K2 hK2 => ?_) AllReadyH.nil)
          · skip
            refine step_appS (by rfl) _ _ 22 (by rfl) wq.heap.size 4 i0 _ 1 1 Tryz.underlying22 Hi.out Hz0.out Hz1.out Hz2.out rfl (by decide) encB_len encB_one _ ([] : List Bool) a _ _ _ wq.heap.size Hn.out (by rfl) (o1) (by rfl) (aA.keep hS1) nA (by rw [Hn.out]; simp; omega) (by decide) (hS1.size) ?_
            intro v5 w5 own5 hb5 hg5 hat5
            rw [List.nil_append] at own5
            have b5 := hS1.trans hb5
            refine hK2.out _ _ (b5) (fun hS2 => ?_)
            try simp only [Act.put, List.setIfInBounds_toArray, List.set_cons_zero, List.set_cons_succ]
            refine wpAnyH_ready (rs := [4]) (by kernel_rfl) (by simp) ?_
            refine AllReadyH.cons rfl (fun K3 hK3 => ?_) AllReadyH.nil
            go_simp
            have b6 : Below wq.heap.size wq (w5.alloc (.cells #[] 4)) := b5.alloc b5.size _
            refine hK3.out _ _ (b6) (fun hS3 => ?_)
            try simp only [Act.put, List.setIfInBounds_toArray, List.set_cons_zero, List.set_cons_succ]
            refine wpAnyH_ready (rs := [7]) (by kernel_rfl) (by simp) ?_
            refine AllReadyH.cons rfl (fun K4 hK4 => ?_) AllReadyH.nil
            have o2 : Own (w5.alloc (.cells #[] 4)) wq.heap.size 4 1 encB (.slice (some ⟨w5.heap.size, 0, none⟩) 0 0) ([] : List Bool) := own_empty w5 wq.heap.size 4 b5.size
            have apL := ap_low own5 (own_empty (α := Bool) (sz := 1) (enc := encB) w5 w5.heap.size 4 (Nat.le_refl _))
            refine step_appS (by rfl) _ _ 22 (by rfl) wq.heap.size 4 i0 _ 1 1 Tryz.underlying22 Hi.out Hz0.out Hz1.out Hz2.out rfl (by decide) encB_len encB_one _ ([] : List Bool) b _ _ _ wq.heap.size Hm.out (by rfl) (o2) (by rfl) (aB.keep b6) nB (by rw [Hm.out]; simp; omega) (by decide) (b6.size) ?_
            intro v8 w8 own8 hb8 hg8 hat8
            rw [List.nil_append] at own8
            have own5' := own_new (own5.alloc (.cells #[] 4)) apL.symm hg8
            have b8 := b6.trans hb8
            refine hK4.out _ _ (b8) (fun hS4 => ?_)
            try simp only [Act.put, List.setIfInBounds_toArray, List.set_cons_zero, List.set_cons_succ]
            (try simp only [Act.put, List.getElem_toArray, List.getElem_cons_succ, List.getElem_cons_zero, List.setIfInBounds_toArray, List.set_cons_zero, List.set_cons_succ])
            (refine wpAnyH_take (i := 8) (v := ?_) rfl (by kernel_rfl) (by kernel_rfl) (by kernel_rfl) (fun _ _ _ h => h) (Or.inl ⟨by rfl, ?_⟩) (by assumption) ?_; rotate_left 1; (focus (intro wz hSz; (try dsimp only at hSz); go_simp; (try with_reducible rfl))); (try simp only [Act.put, List.setIfInBounds_toArray, List.set_cons_zero, List.set_cons_succ]))
            (refine wpAnyH_take (i := 9) (v := ?_) rfl (by kernel_rfl) (by kernel_rfl) (by kernel_rfl) (fun _ _ _ h => h) (Or.inl ⟨by rfl, ?_⟩) (by assumption) ?_; rotate_left 1; (focus (intro wz hSz; (try dsimp only at hSz); go_simp; (try with_reducible rfl))); (try simp only [Act.put, List.setIfInBounds_toArray, List.set_cons_zero, List.set_cons_succ]))
            (try simp only [Act.put, List.getElem_toArray, List.getElem_cons_succ, List.getElem_cons_zero, List.setIfInBounds_toArray, List.set_cons_zero, List.set_cons_succ])
            refine wpAnyH_done (by kernel_rfl) ?_ _
            obtain ⟨P1, C1, hv5, ar5⟩ := arr_cap own5' encB_len Hn.out
            obtain ⟨P2, C2, hv8, ar8⟩ := arr_cap own8 encB_len Hm.out
            go_wp2_with fail
            go_meet
            case rel => exact ⟨P1, C1, P2, C2, hv5, hv8, ar5, ar8, b8⟩
          · go_simp
            have bL : Below wq.heap.size wq ((wq.alloc (.cells #[] 4)).alloc (.cells #[] 4)).drew := (below_alloc (below_alloc (Below.refl _ _) _) _).drew
            refine hK2.out _ _ (bL) (fun hS2 => ?_)
            try simp only [Act.put, List.setIfInBounds_toArray, List.set_cons_zero, List.set_cons_succ]
            have oL : Own ((wq.alloc (.cells #[] 4)).alloc (.cells #[] 4)).drew wq.heap.size 4 1 encB (.slice (some ⟨wq.heap.size, 0, none⟩) 0 0) ([] : List Bool) := ((own_empty wq wq.heap.size 4 (Nat.le_refl _)).alloc _).drew
            have oH : Own ((wq.alloc (.cells #[] 4)).alloc (.cells #[] 4)).drew wq.heap.size 4 1 encB (.slice (some ⟨wq.heap.size + 1, 0, none⟩) 0 0) ([] : List Bool) := by have h := (own_empty (α := Bool) (sz := 1) (enc := encB) (wq.alloc (.cells #[] 4)) wq.heap.size 4 (by simp)).drew; rw [show (wq.alloc (.cells #[] 4)).heap.size = wq.heap.size + 1 from by simp] at h; exact h
            refine wpAnyH_ready (rs := [3]) (by kernel_rfl) (by simp) ?_
            refine AllReadyH.cons rfl (fun K3 hK3 => ?_) AllReadyH.nil
            refine step_appS (by rfl) _ _ 22 (by rfl) wq.heap.size 4 i0 _ 1 1 Tryz.underlying22 Hi.out Hz0.out Hz1.out Hz2.out rfl (by decide) encB_len encB_one _ ([] : List Bool) a _ _ _ wq.heap.size Hn.out (by rfl) (oL) (by rfl) (aA.keep bL) nA (by rw [Hn.out]; simp; omega) (by decide) (bL.size) ?_
            intro v5 w5 own5 hb5 hg5 hat5
            rw [List.nil_append] at own5
            have apL : Ap (.slice (some ⟨wq.heap.size + 1, 0, none⟩) 0 0) (.slice (some ⟨wq.heap.size, 0, none⟩) 0 0) := ap_lits (by omega)
            have b5 := bL.trans hb5
            have o2 := own_new oH apL hg5
            have apV := ap_new oH apL hat5
            refine hK3.out _ _ (b5) (fun hS3 => ?_)
            try simp only [Act.put, List.setIfInBounds_toArray, List.set_cons_zero, List.set_cons_succ]
            refine wpAnyH_ready (rs := [7]) (by kernel_rfl) (by simp) ?_
            refine AllReadyH.cons rfl (fun K4 hK4 => ?_) AllReadyH.nil
            refine step_appS (by rfl) _ _ 22 (by rfl) wq.heap.size 4 i0 _ 1 1 Tryz.underlying22 Hi.out Hz0.out Hz1.out Hz2.out rfl (by decide) encB_len encB_one _ ([] : List Bool) b _ _ _ wq.heap.size Hm.out (by rfl) (o2) (by rfl) (aB.keep b5) nB (by rw [Hm.out]; simp; omega) (by decide) (b5.size) ?_
            intro v8 w8 own8 hb8 hg8 hat8
            rw [List.nil_append] at own8
            have own5' := own_new own5 apV.symm hg8
            have b8 := b5.trans hb8
            refine hK4.out _ _ (b8) (fun hS4 => ?_)
            try simp only [Act.put, List.setIfInBounds_toArray, List.set_cons_zero, List.set_cons_succ]
            (try simp only [Act.put, List.getElem_toArray, List.getElem_cons_succ, List.getElem_cons_zero, List.setIfInBounds_toArray, List.set_cons_zero, List.set_cons_succ])
            (refine wpAnyH_take (i := 8) (v := ?_) rfl (by kernel_rfl) (by kernel_rfl) (by kernel_rfl) (fun _ _ _ h => h) (Or.inl ⟨by rfl, ?_⟩) (by assumption) ?_; rotate_left 1; (focus (intro wz hSz; (try dsimp only at hSz); go_simp; (try with_reducible rfl))); (try simp only [Act.put, List.setIfInBounds_toArray, List.set_cons_zero, List.set_cons_succ]))
            (refine wpAnyH_take (i := 9) (v := ?_) rfl (by kernel_rfl) (by kernel_rfl) (by kernel_rfl) (fun _ _ _ h => h) (Or.inl ⟨by rfl, ?_⟩) (by assumption) ?_; rotate_left 1; (focus (intro wz hSz; (try dsimp only at hSz); go_simp; (try with_reducible rfl))); (try simp only [Act.put, List.setIfInBounds_toArray, List.set_cons_zero, List.set_cons_succ]))
            (try simp only [Act.put, List.getElem_toArray, List.getElem_cons_succ, List.getElem_cons_zero, List.setIfInBounds_toArray, List.set_cons_zero, List.set_cons_succ])
            refine wpAnyH_done (by kernel_rfl) ?_ _
            obtain ⟨P1, C1, hv5, ar5⟩ := arr_cap own5' encB_len Hn.out
            obtain ⟨P2, C2, hv8, ar8⟩ := arr_cap own8 encB_len Hm.out
            go_wp2_with fail
            go_meet
            case rel => exact ⟨P1, C1, P2, C2, hv5, hv8, ar5, ar8, b8⟩
        · go_simp
          refine hK1.out _ _ ((below_alloc (Below.refl _ _) (.cells #[] 4)).drew) (fun hS1 => ?_)
          try simp only [Act.put, List.setIfInBounds_toArray, List.set_cons_zero, List.set_cons_succ]
          refine wpAnyH_ready (rs := [0]) (by kernel_rfl) (by simp) ?_
          refine AllReadyH.cons rfl (fun K2 hK2 => ?_) AllReadyH.nil
          go_simp
          have bL : Below wq.heap.size wq ((wq.alloc (.cells #[] 4)).alloc (.cells #[] 4)).drew := (below_alloc (below_alloc (Below.refl _ _) _) _).drew
          refine hK2.out _ _ (bL) (fun hS2 => ?_)
          try simp only [Act.put, List.setIfInBounds_toArray, List.set_cons_zero, List.set_cons_succ]
          have oL : Own ((wq.alloc (.cells #[] 4)).alloc (.cells #[] 4)).drew wq.heap.size 4 1 encB (.slice (some ⟨wq.heap.size, 0, none⟩) 0 0) ([] : List Bool) := ((own_empty wq wq.heap.size 4 (Nat.le_refl _)).alloc _).drew
          have oH : Own ((wq.alloc (.cells #[] 4)).alloc (.cells #[] 4)).drew wq.heap.size 4 1 encB (.slice (some ⟨wq.heap.size + 1, 0, none⟩) 0 0) ([] : List Bool) := by have h := (own_empty (α := Bool) (sz := 1) (enc := encB) (wq.alloc (.cells #[] 4)) wq.heap.size 4 (by simp)).drew; rw [show (wq.alloc (.cells #[] 4)).heap.size = wq.heap.size + 1 from by simp] at h; exact h
          refine wpAnyH_ready (rs := [3]) (by kernel_rfl) (by simp) ?_
          refine AllReadyH.cons rfl (fun K3 hK3 => ?_) AllReadyH.nil
          refine step_appS (by rfl) _ _ 22 (by rfl) wq.heap.size 4 i0 _ 1 1 Tryz.underlying22 Hi.out Hz0.out Hz1.out Hz2.out rfl (by decide) encB_len encB_one _ ([] : List Bool) a _ _ _ wq.heap.size Hn.out (by rfl) (oH) (by rfl) (aA.keep bL) nA (by rw [Hn.out]; simp; omega) (by decide) (bL.size) ?_
          intro v5 w5 own5 hb5 hg5 hat5
          rw [List.nil_append] at own5
          have apL : Ap (.slice (some ⟨wq.heap.size, 0, none⟩) 0 0) (.slice (some ⟨wq.heap.size + 1, 0, none⟩) 0 0) := ap_lits (by omega)
          have b5 := bL.trans hb5
          have o2 := own_new oL apL hg5
          have apV := ap_new oL apL hat5
          refine hK3.out _ _ (b5) (fun hS3 => ?_)
          try simp only [Act.put, List.setIfInBounds_toArray, List.set_cons_zero, List.set_cons_succ]
          refine wpAnyH_ready (rs := [7]) (by kernel_rfl) (by simp) ?_
          refine AllReadyH.cons rfl (fun K4 hK4 => ?_) AllReadyH.nil
          refine step_appS (by rfl) _ _ 22 (by rfl) wq.heap.size 4 i0 _ 1 1 Tryz.underlying22 Hi.out Hz0.out Hz1.out Hz2.out rfl (by decide) encB_len encB_one _ ([] : List Bool) b _ _ _ wq.heap.size Hm.out (by rfl) (o2) (by rfl) (aB.keep b5) nB (by rw [Hm.out]; simp; omega) (by decide) (b5.size) ?_
          intro v8 w8 own8 hb8 hg8 hat8
          rw [List.nil_append] at own8
          have own5' := own_new own5 apV.symm hg8
          have b8 := b5.trans hb8
          refine hK4.out _ _ (b8) (fun hS4 => ?_)
          try simp only [Act.put, List.setIfInBounds_toArray, List.set_cons_zero, List.set_cons_succ]
          (try simp only [Act.put, List.getElem_toArray, List.getElem_cons_succ, List.getElem_cons_zero, List.setIfInBounds_toArray, List.set_cons_zero, List.set_cons_succ])
          (refine wpAnyH_take (i := 8) (v := ?_) rfl (by kernel_rfl) (by kernel_rfl) (by kernel_rfl) (fun _ _ _ h => h) (Or.inl ⟨by rfl, ?_⟩) (by assumption) ?_; rotate_left 1; (focus (intro wz hSz; (try dsimp only at hSz); go_simp; (try with_reducible rfl))); (try simp only [Act.put, List.setIfInBounds_toArray, List.set_cons_zero, List.set_cons_succ]))
          (refine wpAnyH_take (i := 9) (v := ?_) rfl (by kernel_rfl) (by kernel_rfl) (by kernel_rfl) (fun _ _ _ h => h) (Or.inl ⟨by rfl, ?_⟩) (by assumption) ?_; rotate_left 1; (focus (intro wz hSz; (try dsimp only at hSz); go_simp; (try with_reducible rfl))); (try simp only [Act.put, List.setIfInBounds_toArray, List.set_cons_zero, List.set_cons_succ]))
          (try simp only [Act.put, List.getElem_toArray, List.getElem_cons_succ, List.getElem_cons_zero, List.setIfInBounds_toArray, List.set_cons_zero, List.set_cons_succ])
          refine wpAnyH_done (by kernel_rfl) ?_ _
          obtain ⟨P1, C1, hv5, ar5⟩ := arr_cap own5' encB_len Hn.out
          obtain ⟨P2, C2, hv8, ar8⟩ := arr_cap own8 encB_len Hm.out
          go_wp2_with fail
          go_meet
          case rel => exact ⟨P1, C1, P2, C2, hv5, hv8, ar5, ar8, b8⟩
      obtain ⟨P1, C1, P2, C2, rfl, rfl, ar1, ar2, hbq⟩ := hcut
      have bqc := below_trans bq hbq
      have y0 := bel_cell hbq z0
      have y1 := bel_cell hbq z1
      have y2 := bel_cell hbq z2
      have y3 := bel_cell hbq z3
      have y4 := bel_cell hbq z4
      have y5 := bel_cell hbq z5
      have y6 := bel_cell hbq z6
      have y7 := bel_cell hbq z7
      have ysz : w.heap.size + 1 + 1 < wc.heap.size := Nat.lt_of_lt_of_le zs hbq.size
      clear z0 z1 z2 z3 z4 z5 z6 z7 zs aA aB Hi Hz0 Hz1 Hz2
      have cT := Test_any P1 P2 C1 C2 n m a b k s f g wc Hn.out Hm.out ar1 ar2 (by omega) (hf.on bqc) (hg.on bqc)
      obtain ⟨ea, eb, ec, ed, ee, hV⟩ := tstV_form a b k s f g
      have lP1 : (tstP a a b k s f g).length ≤ 600 := by
        have := tstP_len a a b k s f g; rw [Hn.out] at this; omega
      have lP2 : (tstP b a b k s f g).length ≤ 600 := by
        have := tstP_len b a b k s f g; rw [Hn.out] at this; omega
      have cT2 := fun w' (hb : Below w.heap.size w w') => rTest_any A B cA cB n m a b k s f g w' Hn.out Hm.out (hA.on hb) (hB.on hb) (by omega) (hf.on hb) (hg.on hb)
      unfold TsR at cT cT2
      rw [hV] at cT
      simp only [hV] at cT2
      clear hV
      generalize tstE a b k s f g = E at *
      generalize tstP a a b k s f g = L1 at *
      generalize tstP b a b k s f g = L2 at *
      have fv : f.val = .agg #[.slice f.A f.l.length f.c, .slice f.C f.m.length f.d] := rfl
      have gv : g.val = .agg #[.slice g.A g.l.length g.c, .slice g.C g.m.length g.d] := rfl
      rw [fv, gv] at cT
      simp only [fv, gv] at cT2
      clear fv gv
      go_wp2_with fail
      refine cT.mono ?_
      rintro e w3 ⟨v1, v2, rfl, own1, own2, hb3⟩
      obtain ⟨A1, c1, hv1, _, _, _, t1⟩ := own1.form encB_len
      obtain ⟨A2, c2, hv2, _, _, _, t2⟩ := own2.form encB_len
      rw [hv1, hv2]
      clear hv1 hv2 own1 own2 cT
      have q3 := below_alloc (below_trans bqc hb3) (.cells #[.int .i64 ea, .int .i64 eb, .int .i64 ec, .int .i64 ed, .int .i64 ee] 33)
      have al3 := fun {x : Addr} {v : Value} (h : w3.cell? x = some v) => (World.cell?_alloc_lt w3 (.cells #[.int .i64 ea, .int .i64 eb, .int .i64 ec, .int .i64 ed, .int .i64 ee] 33) x (World.block_lt_of_cell? w3 x h)).trans h
      have szw := hb3.size
      have x0 := bel_cell hb3 y0
      have x1 := bel_cell hb3 y1
      have x2 := bel_cell hb3 y2
      have x3 := bel_cell hb3 y3
      have x4 := bel_cell hb3 y4
      have x5 := bel_cell hb3 y5
      have x6 := bel_cell hb3 y6
      have x7 := bel_cell hb3 y7
      have xsz : w.heap.size + 1 + 1 < w3.heap.size := by omega
      have xsz1 : w.heap.size + 1 < w3.heap.size := by omega
      have xsz0 : w.heap.size < w3.heap.size := by omega
      clear y0 y1 y2 y3 y4 y5 y6 y7 ysz
      go_wp2_with fail
      refine (cT2 _ q3).mono ?_
      rintro e w4 ⟨v3, v4, rfl, own3, own4, hb4⟩
      obtain ⟨A3, c3, hv3, _, _, _, t3⟩ := own3.form encB_len
      obtain ⟨A4, c4, hv4, _, _, _, t4⟩ := own4.form encB_len
      rw [hv3, hv4]
      clear hv3 hv4 own3 own4 cT2
      have q4 := below_alloc (below_trans q3 hb4) (.cells #[.int .i64 ea, .int .i64 eb, .int .i64 ec, .int .i64 ed, .int .i64 ee] 33)
      have r4 := below_alloc (below_trans (below_alloc (Below.refl w3.heap.size w3) (.cells #[.int .i64 ea, .int .i64 eb, .int .i64 ec, .int .i64 ed, .int .i64 ee] 33)) hb4) (.cells #[.int .i64 ea, .int .i64 eb, .int .i64 ec, .int .i64 ed, .int .i64 ee] 33)
      have s0 := bel_cell (below_alloc (Below.refl _ _) (.cells #[.int .i64 ea, .int .i64 eb, .int .i64 ec, .int .i64 ed, .int .i64 ee] 33)) (bel_cell hb4 (al3 x0))
      have s1 := bel_cell (below_alloc (Below.refl _ _) (.cells #[.int .i64 ea, .int .i64 eb, .int .i64 ec, .int .i64 ed, .int .i64 ee] 33)) (bel_cell hb4 (al3 x1))
      have j0 := (blk_new hb4 (g := w3.heap.size) rfl (j := 0) rfl).1
      have j1 := (blk_new hb4 (g := w3.heap.size) rfl (j := 1) rfl).1
      have j2 := (blk_new hb4 (g := w3.heap.size) rfl (j := 2) rfl).1
      have j3 := (blk_new hb4 (g := w3.heap.size) rfl (j := 3) rfl).1
      have j4 := (blk_new hb4 (g := w3.heap.size) rfl (j := 4) rfl).1
      have sz43 : w3.heap.size < w4.heap.size := by have := hb4.size; simp at this; omega
      have sz40 : w.heap.size < w4.heap.size := by omega
      have u1 := t1.on r4
      have u2 := t2.on r4
      have u3 := t3.on (below_alloc (Below.refl w4.heap.size w4) (.cells #[.int .i64 ea, .int .i64 eb, .int .i64 ec, .int .i64 ed, .int .i64 ee] 33))
      have u4 := t4.on (below_alloc (Below.refl w4.heap.size w4) (.cells #[.int .i64 ea, .int .i64 eb, .int .i64 ec, .int .i64 ed, .int .i64 ee] 33))
      have up := ar1.on (below_trans hb3 r4)
      have uq := ar2.on (below_trans hb3 r4)
      have uA := hA.on q4
      have uB := hB.on q4
      clear x0 x1 x2 x3 x4 x5 x6 x7 al3
      have cS1 := fun w' (hb : Below (w4.alloc (.cells #[.int .i64 ea, .int .i64 eb, .int .i64 ec, .int .i64 ed, .int .i64 ee] 33)).heap.size (w4.alloc (.cells #[.int .i64 ea, .int .i64 eb, .int .i64 ec, .int .i64 ed, .int .i64 ee] 33)) w') => Bools_same A1 A3 c1 c3 L1 w' (u1.on hb) (u3.on hb) (by omega)
      have cS2 := fun w' (hb : Below (w4.alloc (.cells #[.int .i64 ea, .int .i64 eb, .int .i64 ec, .int .i64 ed, .int .i64 ee] 33)).heap.size (w4.alloc (.cells #[.int .i64 ea, .int .i64 eb, .int .i64 ec, .int .i64 ed, .int .i64 ee] 33)) w') => Bools_same A2 A4 c2 c4 L2 w' (u2.on hb) (u4.on hb) (by omega)
      have cS3 := fun w' (hb : Below (w4.alloc (.cells #[.int .i64 ea, .int .i64 eb, .int .i64 ec, .int .i64 ed, .int .i64 ee] 33)).heap.size (w4.alloc (.cells #[.int .i64 ea, .int .i64 eb, .int .i64 ec, .int .i64 ed, .int .i64 ee] 33)) w') => Bools_same P1 A C1 cA a w' (up.on hb) (uA.on hb) (by rw [Hn.out]; omega)
      have cS4 := fun w' (hb : Below (w4.alloc (.cells #[.int .i64 ea, .int .i64 eb, .int .i64 ec, .int .i64 ed, .int .i64 ee] 33)).heap.size (w4.alloc (.cells #[.int .i64 ea, .int .i64 eb, .int .i64 ec, .int .i64 ed, .int .i64 ee] 33)) w') => Bools_same P2 B C2 cB b w' (uq.on hb) (uB.on hb) (by rw [Hm.out]; omega)
      simp only [Hn.out] at cS3
      simp only [Hm.out] at cS4
      clear u1 u2 u3 u4 up uq uA uB
      have rf := Below.refl (w4.alloc (.cells #[.int .i64 ea, .int .i64 eb, .int .i64 ec, .int .i64 ed, .int .i64 ee] 33)).heap.size (w4.alloc (.cells #[.int .i64 ea, .int .i64 eb, .int .i64 ec, .int .i64 ed, .int .i64 ee] 33))
      have sz5 : w.heap.size < (w4.alloc (.cells #[.int .i64 ea, .int .i64 eb, .int .i64 ec, .int .i64 ed, .int .i64 ee] 33)).heap.size := by simp; omega
      go_wp2_with (first
        | (go_at_call 8; refine Calls.on (args' := #[.slice A1 L1.length c1, .slice A3 L1.length c3]) rfl ?_; refine (cS1 _ rf).mono ?_; rintro e w5 ⟨rfl, hb5⟩; have s0b := bel_cell hb5 s0; have s1b := bel_cell hb5 s1)
        | (go_at_call 8; refine Calls.on (args' := #[.slice A2 L2.length c2, .slice A4 L2.length c4]) rfl ?_; refine (cS2 _ hb5).mono ?_; rintro e w6 ⟨rfl, hb6⟩; have hb56 := below_trans hb5 hb6; have s0c := bel_cell hb6 s0b; have s1c := bel_cell hb6 s1b)
        | (go_at_call 8; refine Calls.on (args' := #[.slice P1 n C1, .slice A n cA]) rfl ?_; refine (cS3 _ hb56).mono ?_; rintro e w7 ⟨rfl, hb7⟩; have hb57 := below_trans hb56 hb7; have s1d := bel_cell hb7 s1c)
        | (go_at_call 8; refine Calls.on (args' := #[.slice P2 m C2, .slice B m cB]) rfl ?_; refine (cS4 _ hb57).mono ?_; rintro e w8 ⟨rfl, hb8⟩; have hb58 := below_trans hb57 hb8)
        | (go_at_call 5; refine (known_any _).mono ?_; rintro e w9 ⟨rfl, hb9⟩))
      go_ret
      exact ⟨rfl, below_trans (below_trans q4 hb58) hb9⟩
  · have bad : b1 = false ∨ (b1 = true ∧ b2 = false) ∨ (b1 = true ∧ b2 = true ∧ b3 = true) ∨ (b1 = true ∧ b2 = true ∧ b3 = false ∧ b4 = true) := by
      revert hall
      cases b1 <;> cases b2 <;> cases b3 <;> cases b4 <;> simp
    have cf1 := fun w' => few_any (n : Int) w'
    have cf2 := fun w' => few_any (m : Int) w'
    simp only [h1] at cf1
    simp only [h2] at cf2
    clear h1 h2 hall
    rcases bad with rfl | ⟨rfl, rfl⟩ | ⟨rfl, rfl, rfl⟩ | ⟨rfl, rfl, rfl, rfl⟩
    all_goals (
      go_enter Tryz.func3, Tryz.ntmps3
      go_wp2_with (first
        | (go_at_call 4; refine Calls.on (args' := #[.int .i64 (n : Int)]) rfl ?_; refine (cf1 _).mono ?_; rintro e w' ⟨rfl, rfl⟩)
        | (go_at_call 4; refine Calls.on (args' := #[.int .i64 (m : Int)]) rfl ?_; refine (cf2 _).mono ?_; rintro e w' ⟨rfl, rfl⟩)
        | (go_at_call 5; refine (known_any _).mono ?_; rintro e w2 ⟨rfl, hb2⟩))
      go_ret
      exact ⟨rfl, below_trans hb0 hb2⟩)

theorem walk (A : Option Addr) (c : Nat) (a : List Bool) (B : Option Addr) (d : Nat) (b : List Bool) (k s : Int) (A1 : Option Addr) (c1 : Nat) (l1 : List Nat) (A2 : Option Addr) (c2 : Nat) (l2 : List Nat) (A3 : Option Addr) (c3 : Nat) (l3 : List Nat) (A4 : Option Addr) (c4 : Nat) (l4 : List Nat) (w : World)
    (hA : Arr 1 encB w w.heap.size A a) (lA : a.length ≤ c) (mA : c ≤ maxLen) (zA : A = none → c = 0) (_ : ∀ x ∈ a, True)
    (hB : Arr 1 encB w w.heap.size B b) (lB : b.length ≤ d) (mB : d ≤ maxLen) (zB : B = none → d = 0) (_ : ∀ x ∈ b, True)
    (_ : (Lit.int .i64 k).wf = true) (hs : (Lit.int .u64 s).wf = true)
    (h1 : Arr 1 enc32 w w.heap.size A1 l1) (hl1 : l1.length ≤ c1) (hm1 : c1 ≤ maxLen) (hz1 : A1 = none → c1 = 0) (ho1 : ∀ x ∈ l1, x < 4294967296)
    (h2 : Arr 1 enc32 w w.heap.size A2 l2) (hl2 : l2.length ≤ c2) (hm2 : c2 ≤ maxLen) (hz2 : A2 = none → c2 = 0) (ho2 : ∀ x ∈ l2, x < 4294967296)
    (h3 : Arr 1 enc32 w w.heap.size A3 l3) (hl3 : l3.length ≤ c3) (hm3 : c3 ≤ maxLen) (hz3 : A3 = none → c3 = 0) (ho3 : ∀ x ∈ l3, x < 4294967296)
    (h4 : Arr 1 enc32 w w.heap.size A4 l4) (hl4 : l4.length ≤ c4) (hm4 : c4 ≤ maxLen) (hz4 : A4 = none → c4 = 0) (ho4 : ∀ x ∈ l4, x < 4294967296) :
    Calls Tryz.prog 3 #[.agg #[.slice A a.length c, .slice B b.length d, .int .i64 k, .int .u64 s], .agg #[.slice A1 l1.length c1, .slice A2 l2.length c2], .agg #[.slice A3 l3.length c3, .slice A4 l4.length c4]] w fun e w' => e = .returned (.bool true) ∧ Below w.heap.size w w' := by
  have h0 : 0 ≤ s := (bounds_u64 hs).1
  obtain ⟨s, rfl⟩ := Int.eq_ofNat_of_zero_le h0
  exact main A B c d a b k s ⟨A1, c1, l1, A2, c2, l2⟩ ⟨A3, c3, l3, A4, c4, l4⟩ w hA hB lA lB mA mB zA zB ⟨⟨h1, hl1, hm1, ho1, hz1⟩, ⟨h2, hl2, hm2, ho2, hz2⟩⟩ ⟨⟨h3, hl3, hm3, ho3, hz3⟩, ⟨h4, hl4, hm4, ho4, hz4⟩⟩

theorem own : ownKnob Tryz.prog.godebug = none := by kernel_rfl
theorem laidOut : laidOutB Tryz.prog = true := by kernel_rfl

set_option maxRecDepth 100000 in
theorem lifted (os : Os) (started : os.Started) (H : Type) (enc : TypeId × Value → H) :
    ReturnsInHanded {} Tryz.checked os 3 .any (Rows.siftTestsSpec.pre6 enc Tryz.prog Tryz.f3 Rows.siftTestsRow.domain false) (Rows.siftTestsSpec.post enc Tryz.prog Tryz.f3 false true false false) := by
  refine returnsInHanded_of_change (C := Tryz.checked) own started (by kernel_rfl) Tryz.func3
    (ChangeSpec.witness6 (enc := enc) (C := Tryz.checked) false ⟨#[], #[.agg #[.slice none 0 0, .slice none 0 0, .int .i64 0, .int .u64 0], .agg #[.slice none 0 0, .slice none 0 0], .agg #[.slice none 0 0, .slice none 0 0]], []⟩ 8 (by kernel_rfl) (by kernel_rfl) (by kernel_rfl) (by kernel_rfl)) ?_
  intro W base args ds gs before hval0 hW hcnd _
  have hval : ∀ (j : Nat) t v, Tryz.f3.params[j]? = some t → args[j]? = some v → Value.okWide Tryz.prog W .any base t v := hval0
  have hW' := hW
  obtain ⟨p, q, hA0, hV, rfl, hfz, hnd⟩ := hW
  have hA : DataW.TrodAll enc Tryz.prog W 0 (fun _ => true) true Tryz.f3.params.toList args.toList ds p := hA0
  rw [Tryz.params3] at hA hval
  obtain ⟨v0, vs0, d0, ds0, p0, q0, hargs, rfl, rfl, h0, r0⟩ := trodAll_cons hA
  obtain ⟨v1, vs1, d1, ds1, p1, q1, rfl, rfl, rfl, h1, r1⟩ := trodAll_cons r0
  obtain ⟨v2, vs2, d2, ds2, p2, q2, rfl, rfl, rfl, h2, r2⟩ := trodAll_cons r1
  obtain ⟨rfl, rfl, rfl⟩ := trodAll_nil r2
  obtain rfl : args = #[v0, v1, v2] := by cases args; simp_all
  obtain ⟨rfl, rfl⟩ := trodVars_none hV
  have lt0 : ∀ x ∈ p0, x.block < W.heap.size := by obtain ⟨m, hm⟩ := h0; exact DataW.trod_lt m _ _ _ hm
  have k0 := h0
  obtain ⟨cs0, rfl, hsz0⟩ := okWide_struct Tryz.underlying25 (hval 0 25 v0 rfl rfl)
  obtain ⟨c0_0, c0_1, c0_2, c0_3, rfl⟩ := arr4 (hsz0.trans (show Tryz.prog.cellsOf 25 = 4 from by kernel_rfl))
  obtain ⟨fuel0, hf0⟩ := h0
  obtain ⟨_, n0', hd0⟩ := trod_fields Tryz.underlying25 (by kernel_rfl) (by kernel_rfl) hf0
  obtain ⟨_, hy0_0⟩ := hd0 0 _ c0_0 rfl rfl
  obtain ⟨A0_0, n0_0, l0_0, hcs0_0, hl0_0, hm0_0, hz0_0, ha0_0, ho0_0⟩ := open_arr (enc := encB) _ encB_len (by decide) Tryz.underlying22 (by kernel_rfl) (fun n cs y h => dec_bool h) hy0_0
  obtain rfl : c0_0 = .slice A0_0 l0_0.length n0_0 := by simpa using hcs0_0
  obtain ⟨_, hy0_1⟩ := hd0 1 _ c0_1 rfl rfl
  obtain ⟨A0_1, n0_1, l0_1, hcs0_1, hl0_1, hm0_1, hz0_1, ha0_1, ho0_1⟩ := open_arr (enc := encB) _ encB_len (by decide) Tryz.underlying22 (by kernel_rfl) (fun n cs y h => dec_bool h) hy0_1
  obtain rfl : c0_1 = .slice A0_1 l0_1.length n0_1 := by simpa using hcs0_1
  obtain ⟨_, hy0_2⟩ := hd0 2 _ c0_2 rfl rfl
  obtain ⟨x0_2, e0_2, _, w0_2⟩ := DataW.trod_int Tryz.underlying3 hy0_2
  obtain rfl : c0_2 = .int .i64 x0_2 := by simpa using e0_2
  obtain ⟨_, hy0_3⟩ := hd0 3 _ c0_3 rfl rfl
  obtain ⟨x0_3, e0_3, _, w0_3⟩ := DataW.trod_int Tryz.underlying23 hy0_3
  obtain rfl : c0_3 = .int .u64 x0_3 := by simpa using e0_3
  have lt1 : ∀ x ∈ p1, x.block < W.heap.size := by obtain ⟨m, hm⟩ := h1; exact DataW.trod_lt m _ _ _ hm
  have k1 := h1
  obtain ⟨cs1, rfl, hsz1⟩ := okWide_struct Tryz.underlying29 (hval 1 29 v1 rfl rfl)
  obtain ⟨c1_0, c1_1, rfl⟩ := arr2 (hsz1.trans (show Tryz.prog.cellsOf 29 = 2 from by kernel_rfl))
  obtain ⟨fuel1, hf1⟩ := h1
  obtain ⟨_, n1', hd1⟩ := trod_fields Tryz.underlying29 (by kernel_rfl) (by kernel_rfl) hf1
  obtain ⟨_, hy1_0⟩ := hd1 0 _ c1_0 rfl rfl
  obtain ⟨A1_0, n1_0, l1_0, hcs1_0, hl1_0, hm1_0, hz1_0, ha1_0, ho1_0⟩ := open_arr (enc := enc32) _ enc32_len (by decide) Tryz.underlying27 (by kernel_rfl) (fun n cs y h => dec_u32 h) hy1_0
  obtain rfl : c1_0 = .slice A1_0 l1_0.length n1_0 := by simpa using hcs1_0
  obtain ⟨_, hy1_1⟩ := hd1 1 _ c1_1 rfl rfl
  obtain ⟨A1_1, n1_1, l1_1, hcs1_1, hl1_1, hm1_1, hz1_1, ha1_1, ho1_1⟩ := open_arr (enc := enc32) _ enc32_len (by decide) Tryz.underlying27 (by kernel_rfl) (fun n cs y h => dec_u32 h) hy1_1
  obtain rfl : c1_1 = .slice A1_1 l1_1.length n1_1 := by simpa using hcs1_1
  have lt2 : ∀ x ∈ p2, x.block < W.heap.size := by obtain ⟨m, hm⟩ := h2; exact DataW.trod_lt m _ _ _ hm
  have k2 := h2
  obtain ⟨cs2, rfl, hsz2⟩ := okWide_struct Tryz.underlying29 (hval 2 29 v2 rfl rfl)
  obtain ⟨c2_0, c2_1, rfl⟩ := arr2 (hsz2.trans (show Tryz.prog.cellsOf 29 = 2 from by kernel_rfl))
  obtain ⟨fuel2, hf2⟩ := h2
  obtain ⟨_, n2', hd2⟩ := trod_fields Tryz.underlying29 (by kernel_rfl) (by kernel_rfl) hf2
  obtain ⟨_, hy2_0⟩ := hd2 0 _ c2_0 rfl rfl
  obtain ⟨A2_0, n2_0, l2_0, hcs2_0, hl2_0, hm2_0, hz2_0, ha2_0, ho2_0⟩ := open_arr (enc := enc32) _ enc32_len (by decide) Tryz.underlying27 (by kernel_rfl) (fun n cs y h => dec_u32 h) hy2_0
  obtain rfl : c2_0 = .slice A2_0 l2_0.length n2_0 := by simpa using hcs2_0
  obtain ⟨_, hy2_1⟩ := hd2 1 _ c2_1 rfl rfl
  obtain ⟨A2_1, n2_1, l2_1, hcs2_1, hl2_1, hm2_1, hz2_1, ha2_1, ho2_1⟩ := open_arr (enc := enc32) _ enc32_len (by decide) Tryz.underlying27 (by kernel_rfl) (fun n cs y h => dec_u32 h) hy2_1
  obtain rfl : c2_1 = .slice A2_1 l2_1.length n2_1 := by simpa using hcs2_1
  clear hA0 hval0
  refine (walk A0_0 n0_0 l0_0 A0_1 n0_1 l0_1 x0_2 x0_3 A1_0 n1_0 l1_0 A1_1 n1_1 l1_1 A2_0 n2_0 l2_0 A2_1 n2_1 l2_1 W ha0_0 hl0_0 hm0_0 hz0_0 ho0_0 ha0_1 hl0_1 hm0_1 hz0_1 ho0_1 w0_2 w0_3 ha1_0 hl1_0 hm1_0 hz1_0 ho1_0 ha1_1 hl1_1 hm1_1 hz1_1 ho1_1 ha2_0 hl2_0 hm2_0 hz2_0 ho2_0 ha2_1 hl2_1 hm2_1 hz2_1 ho2_1).mono fun e W' ⟨he, bel⟩ => ?_
  subst he
  exact ⟨_, rfl, _, _, _, [], _, [], hW', trodAll_mk1 (shut_bool Tryz.underlying4 _), (trodAll_cons_mk (Below.trod laidOut (by kernel_rfl) (of_decide_eq_true (by kernel_rfl)) k0 bel lt0) (trodAll_cons_mk (Below.trod laidOut (by kernel_rfl) (of_decide_eq_true (by kernel_rfl)) k1 bel lt1) (trodAll_cons_mk (Below.trod laidOut (by kernel_rfl) (of_decide_eq_true (by kernel_rfl)) k2 bel lt2) trodAll_mk0))), rfl, bel.frame _, fun h => by cases h⟩

theorem over : Rows.siftTestsRow.holds Tryz.pinned (OpenSpec.ofChange Rows.siftTestsSpec) :=
  OpenClaim.holds_of_wide 3 Tryz.f3 rfl rfl rfl rfl rfl rfl rfl ⟨rfl, rfl, rfl, rfl, rfl⟩ rfl rfl rfl rfl rfl (by kernel_rfl) Tryz.func3 (by kernel_rfl)
    (of_decide_eq_true (by kernel_rfl)) (by unfold Func.isWrapper; first | (rw [if_pos (by decide +kernel)]; kernel_rfl) | (rw [if_neg (by decide +kernel)]; exact ⟨rfl, rfl⟩))
    (fun os started H enc _ => lifted os started H enc)

theorem proved : Rows.SiftTestsSaid := over
#print axioms proved
end Go.Proofs.YtdngehgjbledfaaGreat.siftTests
