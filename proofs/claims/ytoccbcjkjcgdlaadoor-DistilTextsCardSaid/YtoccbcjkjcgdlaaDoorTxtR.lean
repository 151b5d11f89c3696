/- Contracts of the reference's words, digits and Text. For a ledger. -/
import Derived.Test.YtoccbcjkjcgdlaaDoorTxtA
import Derived.Test.YtoccbcjkjcgdlaaDoorLedF
import Derived.Deep.RegionHeld3
namespace Go.Proofs.YtoccbcjkjcgdlaaDoor
open Go.RowKit
set_option linter.unusedVariables false
set_option linter.unusedSimpArgs false

/-- The condition on the worlds may be strengthened on the way. -/
theorem held_mono {P : Program} {md : Region.Mode} {ops : Array Oper} {Q : Exit → Act → World → Prop} {S S' : World → Prop} (hS : ∀ w, S' w → S w) : ∀ (fuel : Nat) (listed : Array Bool) (a : Act) (w : World), wpAnyH P md ops Q S' fuel listed a w → wpAnyH P md ops Q S fuel listed a w
  | 0, _, _, _, h => h
  | fuel + 1, listed, a, w, h => ⟨h.1, fun i hi => wpOp_mono (fun a' w' hh => ⟨hS w' hh.1, held_mono hS fuel _ a' w' hh.2⟩) (h.2 i hi)⟩

theorem words_any (w : World) : Calls Tryd.prog 43 #[] w fun e w' => ∃ b, e = .returned (.slice (some ⟨b, 0, none⟩) 5 5) ∧ w'.cell? ⟨b, 1, none⟩ = some (.string ⟨(wordL 1).toArray⟩) ∧ w'.cell? ⟨b, 2, none⟩ = some (.string ⟨(wordL 2).toArray⟩) ∧ w'.cell? ⟨b, 3, none⟩ = some (.string ⟨(wordL 3).toArray⟩) ∧ w'.cell? ⟨b, 4, none⟩ = some (.string ⟨(wordL 4).toArray⟩) ∧ Below w.heap.size w w' := by
  go_enter Tryd.func43, Tryd.ntmps43
  go_wp2
  go_ret
  exact ⟨_, rfl, new_cell rfl, new_cell rfl, new_cell rfl, new_cell rfl, below_alloc (Below.refl _ _) _⟩

theorem dec_step {n : Nat} (h : ¬ n < 10) : Lib.decDigits n = Lib.decDigits (n / 10) ++ Lib.decDigits (n % 10) := by
  conv => lhs; rw [Lib.decDigits]
  rw [dif_neg h, Lib.decDigits_one (i := n % 10) (by omega)]
theorem dec_len {n : Nat} (h : n ≤ 65536) : (Lib.decDigits n).length ≤ 21 := by
  have := Lib.itoa_length_le (n : Int) (by omega) (by omega)
  rwa [Lib.itoa_nonneg] at this

set_option maxHeartbeats 1000000 in
theorem digits6_any (n : Nat) : ∀ (w : World), n ≤ 65536 → Calls Tryd.prog 67 #[.int .i64 n] w fun e w' => e = .returned (.string ⟨(Lib.decDigits n).toArray⟩) ∧ w = w' := by
  induction n using Nat.strongRecOn with
  | ind n ih =>
    intro w hn
    by_cases h : n < 10
    · rcases (show n = 0 ∨ n = 1 ∨ n = 2 ∨ n = 3 ∨ n = 4 ∨ n = 5 ∨ n = 6 ∨ n = 7 ∨ n = 8 ∨ n = 9 by omega) with rfl | rfl | rfl | rfl | rfl | rfl | rfl | rfl | rfl | rfl
      all_goals (
        rw [Lib.decDigits_one (by decide)]
        go_enter Tryd.func67, Tryd.ntmps67
        go_wp2
        go_ret
        exact ⟨rfl, rfl⟩)
    · obtain ⟨q, hq⟩ : ∃ q : Nat, (n : Int) / 10 = (q : Int) := ⟨n / 10, by omega⟩
      obtain ⟨r, hr⟩ : ∃ r : Nat, (n : Int) % 10 = (r : Int) := ⟨n % 10, by omega⟩
      have hqn : q = n / 10 := by omega
      have hrn : r = n % 10 := by omega
      have c1 := fun w' => ih q (by omega) w' (by omega)
      have c2 := fun w' => ih r (by omega) w' (by omega)
      have l1 := dec_len (n := q) (by omega)
      have l2 := dec_len (n := r) (by omega)
      have st : Hid (Lib.decDigits n = Lib.decDigits q ++ Lib.decDigits r) := Lib.hid (by rw [hqn, hrn]; exact dec_step h)
      clear ih hqn hrn
      obtain ⟨X, hX⟩ : ∃ X, Lib.decDigits q = X := ⟨_, rfl⟩
      obtain ⟨Y, hY⟩ : ∃ X, Lib.decDigits r = X := ⟨_, rfl⟩
      rw [hX, hY] at st
      rw [hX] at l1
      rw [hY] at l2
      simp only [hX] at c1
      simp only [hY] at c2
      have s1 : ∀ w' : World, (Op.stringOp .add ⟨X.toArray⟩ ⟨Y.toArray⟩).run Tryd.prog w' = .ok (.string ⟨(X ++ Y).toArray⟩) w' := fun w' => run_string_add_lists w' X Y (by omega) (by omega)
      clear hX hY
      have n1 : ¬ (n : Int) < 10 := by omega
      go_enter Tryd.func67, Tryd.ntmps67
      go_wp2_with (go_at_call 67; first | (refine Calls.on (args' := #[.int .i64 (q : Int)]) rfl ?_; refine (c1 _).mono ?_; rintro e w' ⟨rfl, rfl⟩) | (refine Calls.on (args' := #[.int .i64 (r : Int)]) rfl ?_; refine (c2 _).mono ?_; rintro e w' ⟨rfl, rfl⟩))
      go_ret
      exact ⟨by rw [st.out]; rfl, rfl⟩

set_option maxRecDepth 100000 in
set_option maxHeartbeats 4000000 in
theorem rText_main (A : Option Addr) (c : Nat) (l : List Itm) (w : World) (h : Arr 2 Itm.enc w w.heap.size A l) (h0 : ledE l = 0) :
    Calls Tryd.prog 44 #[.slice A l.length c] w fun e w' => e = .returned (.tuple #[.string ⟨(textL l).toArray⟩, .int .i64 0]) ∧ Below w.heap.size w w' := by
  obtain ⟨hl1, hf⟩ := ledE_zero.1 h0
  have cC := rLed_any A c l w h (by omega)
  rw [h0] at cC
  have Hf := Lib.hid hf
  clear h0 hf
  go_enter Tryd.func44, Tryd.ntmps44
  go_wp2_with (go_at_call 66; refine (cC).mono ?_; rintro e w' ⟨rfl, rfl⟩)
  go_loopw [4, 5] (fun s i wr => ∃ k : Nat, k ≤ l.length ∧ i = .int .i64 k ∧ s = .string ⟨(textL (l.take k)).toArray⟩ ∧ Below w.heap.size w wr) (fun _ i _ => l.length - (intOf i).toNat)
  case atStart => exact ⟨0, Nat.zero_le _, rfl, rfl, Below.refl _ _⟩
  case round =>
    obtain ⟨k, hk, rfl, rfl, hb⟩ := hrel
    by_cases hlt : k < l.length
    · obtain ⟨b, off, qk, qb, rfl, hbb, hq, c0, c1⟩ := h.itm hlt hb
      obtain ⟨q0, q1, q2⟩ := first_all Hf.out hq.out
      simp only at q0 q1 q2
      obtain ⟨n, rfl⟩ := Int.eq_ofNat_of_zero_le q1
      have tl := text_len (first_sub Hf.out k)
      rw [List.length_take] at tl
      have ta := Lib.hid (text_take hq.out)
      have wl := word_len qk
      have il := dec_len (n := n) (by omega)
      have hL : Hid (lineL ⟨qk, (n : Int)⟩ = wordL qk ++ [32] ++ Lib.decDigits n ++ [10]) := Lib.hid (by unfold lineL; rw [Lib.itoa_nonneg])
      obtain ⟨T, hT⟩ : ∃ T, textL (l.take k) = T := ⟨_, rfl⟩
      rw [hT] at tl ta ⊢
      obtain ⟨W, hW⟩ : ∃ W, wordL qk = W := ⟨_, rfl⟩
      obtain ⟨I, hI⟩ : ∃ I, Lib.decDigits n = I := ⟨_, rfl⟩
      have cI := fun w' => digits6_any n w' (by omega)
      simp only [hI] at cI
      rw [hW, hI] at hL
      rw [hW] at wl
      rw [hI] at il
      have Tl : T.length ≤ 30000 := by omega
      obtain ⟨X1, hX1⟩ : ∃ X, T ++ W = X := ⟨_, rfl⟩
      obtain ⟨X2, hX2⟩ : ∃ X, X1 ++ [32] = X := ⟨_, rfl⟩
      obtain ⟨X3, hX3⟩ : ∃ X, X2 ++ I = X := ⟨_, rfl⟩
      obtain ⟨X4, hX4⟩ : ∃ X, X3 ++ [10] = X := ⟨_, rfl⟩
      have hX : Hid (textL (l.take (k + 1)) = X4) := Lib.hid (by rw [ta.out, hL.out, ← hX4, ← hX3, ← hX2, ← hX1]; simp)
      have x1 : X1.length ≤ 40000 := by rw [← hX1]; simp; omega
      have x2 : X2.length ≤ 50000 := by rw [← hX2]; simp; omega
      have x3 : X3.length ≤ 60000 := by rw [← hX3]; simp; omega
      have s1 : ∀ w' : World, (Op.stringOp .add ⟨T.toArray⟩ ⟨W.toArray⟩).run Tryd.prog w' = .ok (.string ⟨X1.toArray⟩) w' := fun w' => by rw [← hX1]; exact run_string_add_lists w' T W (by omega) (by omega)
      have s2 : ∀ w' : World, (Op.stringOp .add ⟨X1.toArray⟩ ⟨#[32]⟩).run Tryd.prog w' = .ok (.string ⟨X2.toArray⟩) w' := fun w' => by rw [← hX2]; exact run_string_add_lists w' X1 [32] (by omega) (by simp)
      have s3 : ∀ w' : World, (Op.stringOp .add ⟨X2.toArray⟩ ⟨I.toArray⟩).run Tryd.prog w' = .ok (.string ⟨X3.toArray⟩) w' := fun w' => by rw [← hX3]; exact run_string_add_lists w' X2 I (by omega) (by omega)
      have s4 : ∀ w' : World, (Op.stringOp .add ⟨X3.toArray⟩ ⟨#[10]⟩).run Tryd.prog w' = .ok (.string ⟨X4.toArray⟩) w' := fun w' => by rw [← hX4]; exact run_string_add_lists w' X3 [10] (by omega) (by simp)
      have L0 := fun w' (hb' : Below wr.heap.size wr w') => bel_cell hb' c0
      have L1 := fun w' (hb' : Below wr.heap.size wr w') => bel_cell hb' c1
      have i1 : (k : Int) < (l.length : Int) := by omega
      obtain ⟨g1, g2⟩ : 1 ≤ qk ∧ qk ≤ 4 := by simpa [kindB, betwB] using q0
      clear hX1 hX2 hX3 hX4 hI hT q0
      rcases (show qk = 1 ∨ qk = 2 ∨ qk = 3 ∨ qk = 4 by omega) with rfl | rfl | rfl | rfl
      all_goals
        have cW := fun w' => words_any w'
        simp only [hW] at cW
        clear hW
        go_wp2_with fail
        refine wp_region_held_drew (S := fun w' => Below wr.heap.size wr w') (by kernel_rfl) (Below.refl _ _).drew (fun hHeld => ?_)
        (refine wpAnyH_take (i := 0) (v := ?_) rfl (by kernel_rfl) (by kernel_rfl) (by kernel_rfl) (fun _ _ _ h => h) (Or.inl ⟨by rfl, ?_⟩) (by assumption) ?_; rotate_left 1; (focus (intro wz hSz; (try dsimp only at hSz); go_simp; (try with_reducible rfl))); (try simp only [Act.put, List.setIfInBounds_toArray, List.set_cons_zero, List.set_cons_succ]))
        (refine wpAnyH_take (i := 2) (v := ?_) rfl (by kernel_rfl) (by kernel_rfl) (by kernel_rfl) (fun _ _ _ h => h) (Or.inl ⟨by rfl, ?_⟩) (by assumption) ?_; rotate_left 1; (focus (intro wz hSz; (try dsimp only at hSz); go_simp; (try with_reducible rfl))); (try simp only [Act.put, List.setIfInBounds_toArray, List.set_cons_zero, List.set_cons_succ]))
        (refine wpAnyH_take (i := 3) (v := ?_) rfl (by kernel_rfl) (by kernel_rfl) (by kernel_rfl) (fun _ _ _ h => h) (Or.inl ⟨by rfl, ?_⟩) (by assumption) ?_; rotate_left 1; (focus (intro wz hSz; (try dsimp only at hSz); go_simp; (try with_reducible rfl))); (try simp only [Act.put, List.setIfInBounds_toArray, List.set_cons_zero, List.set_cons_succ]))
        (refine wpAnyH_take (i := 4) (v := ?_) rfl (by kernel_rfl) (by kernel_rfl) (by kernel_rfl) (fun _ _ _ h => h) (Or.inl ⟨by rfl, ?_⟩) (by assumption) ?_; rotate_left 1; (focus (intro wz hSz; (try dsimp only at hSz); go_simp; (try with_reducible rfl))); (try simp only [Act.put, List.setIfInBounds_toArray, List.set_cons_zero, List.set_cons_succ]))
        (refine wpAnyH_take (i := 5) (v := ?_) rfl (by kernel_rfl) (by kernel_rfl) (by kernel_rfl) (fun _ _ _ h => h) (Or.inl ⟨by rfl, ?_⟩) (by assumption) ?_; rotate_left 1; (focus (intro wz hSz; (try dsimp only at hSz); go_simp; (try with_reducible rfl))); (try simp only [Act.put, List.setIfInBounds_toArray, List.set_cons_zero, List.set_cons_succ]))
        (refine wpAnyH_take (i := 6) (v := ?_) rfl (by kernel_rfl) (by kernel_rfl) (by kernel_rfl) (fun _ _ _ h => h) (Or.inl ⟨by rfl, ?_⟩) (by assumption) ?_; rotate_left 1; (focus (intro wz hSz; (try dsimp only at hSz); go_simp; (try with_reducible rfl))); (try simp only [Act.put, List.setIfInBounds_toArray, List.set_cons_zero, List.set_cons_succ]))
        (refine wpAnyH_take (i := 11) (v := ?_) rfl (by kernel_rfl) (by kernel_rfl) (by kernel_rfl) (fun _ _ _ h => h) (Or.inl ⟨by rfl, ?_⟩) (by assumption) ?_; rotate_left 1; (focus (intro wz hSz; (try dsimp only at hSz); go_simp; (try with_reducible rfl))); (try simp only [Act.put, List.setIfInBounds_toArray, List.set_cons_zero, List.set_cons_succ]))
        (refine wpAnyH_take (i := 12) (v := ?_) rfl (by kernel_rfl) (by kernel_rfl) (by kernel_rfl) (fun _ _ _ h => h) (Or.inl ⟨by rfl, ?_⟩) (by assumption) ?_; rotate_left 1; (focus (intro wz hSz; (try dsimp only at hSz); go_simp; (try with_reducible rfl))); (try simp only [Act.put, List.setIfInBounds_toArray, List.set_cons_zero, List.set_cons_succ]))
        (refine wpAnyH_take (i := 13) (v := ?_) rfl (by kernel_rfl) (by kernel_rfl) (by kernel_rfl) (fun _ _ _ h => h) (Or.inl ⟨by rfl, ?_⟩) (by assumption) ?_; rotate_left 1; (focus (intro wz hSz; (try dsimp only at hSz); go_simp; (try with_reducible rfl))); (try simp only [Act.put, List.setIfInBounds_toArray, List.set_cons_zero, List.set_cons_succ]))
        (refine wpAnyH_take (i := 14) (v := ?_) rfl (by kernel_rfl) (by kernel_rfl) (by kernel_rfl) (fun _ _ _ h => h) (Or.inl ⟨by rfl, ?_⟩) (by assumption) ?_; rotate_left 1; (focus (intro wz hSz; (try dsimp only at hSz); go_simp; (try with_reducible rfl))); (try simp only [Act.put, List.setIfInBounds_toArray, List.set_cons_zero, List.set_cons_succ]))
        (refine wpAnyH_take (i := 15) (v := ?_) rfl (by kernel_rfl) (by kernel_rfl) (by kernel_rfl) (fun _ _ _ h => h) (Or.inl ⟨by rfl, ?_⟩) (by assumption) ?_; rotate_left 1; (focus (intro wz hSz; (try dsimp only at hSz); go_simp; (try with_reducible rfl))); (try simp only [Act.put, List.setIfInBounds_toArray, List.set_cons_zero, List.set_cons_succ]))
        refine wpAnyH_ready (rs := [1]) (by kernel_rfl) (by simp) ?_
        refine AllReadyH.cons rfl (fun K hK => ?_) AllReadyH.nil
        · go_simp
          refine (cW _).mono ?_
          rintro e y1 ⟨b1, rfl, k1, k2, k3, k4, hx1⟩
          go_wp2_with fail
          refine hK.out _ _ (below_trans hHeld hx1) (fun hHeld2 => ?_)
          clear hK K
          try simp only [Act.put, List.setIfInBounds_toArray, List.set_cons_zero, List.set_cons_succ]
          refine held_mono (S' := fun w' => Below y1.heap.size y1 w') (fun w' h => below_trans hHeld2 h) _ _ _ _ ?_
          have hS1 : Below y1.heap.size y1 y1 := Below.refl _ _
          have M1 := fun w' (hb' : Below y1.heap.size y1 w') => bel_cell hb' k1
          have M2 := fun w' (hb' : Below y1.heap.size y1 w') => bel_cell hb' k2
          have M3 := fun w' (hb' : Below y1.heap.size y1 w') => bel_cell hb' k3
          have M4 := fun w' (hb' : Below y1.heap.size y1 w') => bel_cell hb' k4
          clear k1 k2 k3 k4
          (refine wpAnyH_take (i := 7) (v := ?_) rfl (by kernel_rfl) (by kernel_rfl) (by kernel_rfl) (fun _ _ _ h => h) (Or.inl ⟨by rfl, ?_⟩) (by assumption) ?_; rotate_left 1; (focus (intro wz hSz; (try dsimp only at hSz); go_simp; (try with_reducible rfl))); (try simp only [Act.put, List.setIfInBounds_toArray, List.set_cons_zero, List.set_cons_succ]))
          (refine wpAnyH_take (i := 8) (v := ?_) rfl (by kernel_rfl) (by kernel_rfl) (by kernel_rfl) (fun _ _ _ h => h) (Or.inl ⟨by rfl, ?_⟩) (by assumption) ?_; rotate_left 1; (focus (intro wz hSz; (try dsimp only at hSz); go_simp; (try with_reducible rfl))); (try simp only [Act.put, List.setIfInBounds_toArray, List.set_cons_zero, List.set_cons_succ]))
          (refine wpAnyH_take (i := 9) (v := ?_) rfl (by kernel_rfl) (by kernel_rfl) (by kernel_rfl) (fun _ _ _ h => h) (Or.inl ⟨by rfl, ?_⟩) (by assumption) ?_; rotate_left 1; (focus (intro wz hSz; (try dsimp only at hSz); go_simp; (try with_reducible rfl))); (try simp only [Act.put, List.setIfInBounds_toArray, List.set_cons_zero, List.set_cons_succ]))
          (refine wpAnyH_take (i := 10) (v := ?_) rfl (by kernel_rfl) (by kernel_rfl) (by kernel_rfl) (fun _ _ _ h => h) (Or.inl ⟨by rfl, ?_⟩) (by assumption) ?_; rotate_left 1; (focus (intro wz hSz; (try dsimp only at hSz); go_simp; (try with_reducible rfl))); (try simp only [Act.put, List.setIfInBounds_toArray, List.set_cons_zero, List.set_cons_succ]))
          refine wpAnyH_ready (rs := [16]) (by kernel_rfl) (by simp) ?_
          refine AllReadyH.cons rfl (fun K hK => ?_) AllReadyH.nil
          go_simp
          refine (cI _).mono ?_
          rintro e y2 ⟨rfl, rfl⟩
          go_wp2_with fail
          refine hK.out _ _ (by assumption) (fun hHeld3 => ?_)
          clear hK K
          try simp only [Act.put, List.setIfInBounds_toArray, List.set_cons_zero, List.set_cons_succ]
          (refine wpAnyH_take (i := 17) (v := ?_) rfl (by kernel_rfl) (by kernel_rfl) (by kernel_rfl) (fun _ _ _ h => h) (Or.inl ⟨by rfl, ?_⟩) (by assumption) ?_; rotate_left 1; (focus (intro wz hSz; (try dsimp only at hSz); go_simp; (try with_reducible rfl))); (try simp only [Act.put, List.setIfInBounds_toArray, List.set_cons_zero, List.set_cons_succ]))
          (refine wpAnyH_take (i := 18) (v := ?_) rfl (by kernel_rfl) (by kernel_rfl) (by kernel_rfl) (fun _ _ _ h => h) (Or.inl ⟨by rfl, ?_⟩) (by assumption) ?_; rotate_left 1; (focus (intro wz hSz; (try dsimp only at hSz); go_simp; (try with_reducible rfl))); (try simp only [Act.put, List.setIfInBounds_toArray, List.set_cons_zero, List.set_cons_succ]))
          (refine wpAnyH_take (i := 19) (v := ?_) rfl (by kernel_rfl) (by kernel_rfl) (by kernel_rfl) (fun _ _ _ h => h) (Or.inl ⟨by rfl, ?_⟩) (by assumption) ?_; rotate_left 1; (focus (intro wz hSz; (try dsimp only at hSz); go_simp; (try with_reducible rfl))); (try simp only [Act.put, List.setIfInBounds_toArray, List.set_cons_zero, List.set_cons_succ]))
          refine wpAnyH_done (by kernel_rfl) ?_ _
          clear s1 s2 s3 s4 L0 L1 cW cI M1 M2 M3 M4
          go_wp2_with fail
          go_roundw
          case rel => exact ⟨k + 1, by omega, by go_num, by rw [hX.out], hb.trans (hHeld2.mono hb.size)⟩
          case measure => simp [intOf]; omega
    · have e1 : Hid (l.take k = l) := Lib.hid (List.take_of_length_le (by omega))
      rw [e1.out]
      go_wp2
      go_ret2
      exact ⟨rfl, hb⟩

theorem rText_any (A : Option Addr) (c : Nat) (l : List Itm) (w : World) (h : Arr 2 Itm.enc w w.heap.size A l) (hl : l.length ≤ 4611686018427387904) :
    Calls Tryd.prog 44 #[.slice A l.length c] w fun e w' => e = .returned (.tuple #[.string ⟨(if ledE l = 0 then textL l else []).toArray⟩, .int .i64 (ledE l)]) ∧ Below w.heap.size w w' := by
  by_cases h0 : ledE l = 0
  · rw [if_pos h0, h0]; exact rText_main A c l w h h0
  · rw [if_neg h0]
    have h0' : (ledE l != 0) = true := by simpa using h0
    go_enter Tryd.func44, Tryd.ntmps44
    go_wp2_with (go_at_call 66; refine (rLed_any A c l w h hl).mono ?_; rintro e w' ⟨rfl, rfl⟩)
    go_ret2
    exact ⟨rfl, Below.refl _ _⟩

end Go.Proofs.YtoccbcjkjcgdlaaDoor
