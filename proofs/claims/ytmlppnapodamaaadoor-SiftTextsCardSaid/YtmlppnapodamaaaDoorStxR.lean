/- Contracts of the reference's digits and Text of announcements. No condition but on sizes. -/
import Derived.Test.YtmlppnapodamaaaDoorProg
import Derived.Test.YtmlppnapodamaaaDoorStxP
import Derived.Test.YtmlppnapodamaaaDoorRise2
import Derived.BigQuiet
import Derived.Deep.QuietTactic
namespace Go.Proofs.YtmlppnapodamaaaDoor
open Go.RowKit
set_option linter.unusedVariables false
set_option linter.unusedSimpArgs false

theorem below_drw (w : World) (n : Nat) : Below w.heap.size w (w.drewN n) := ⟨rfl, rfl, rfl, Nat.le_refl _, fun _ _ => rfl⟩
set_option maxHeartbeats 1000000 in
theorem digits4_any (n : Nat) : ∀ (w : World), n ≤ 65536 → Calls Tryd.prog 17 #[.int .i64 n] w fun e w' => e = .returned (.string ⟨(Lib.decDigits n).toArray⟩) ∧ w = w' := by
  induction n using Nat.strongRecOn with
  | ind n ih =>
    intro w hn
    by_cases h : n < 10
    · rcases (show n = 0 ∨ n = 1 ∨ n = 2 ∨ n = 3 ∨ n = 4 ∨ n = 5 ∨ n = 6 ∨ n = 7 ∨ n = 8 ∨ n = 9 by omega) with rfl | rfl | rfl | rfl | rfl | rfl | rfl | rfl | rfl | rfl
      all_goals (
        rw [Lib.decDigits_one (by decide)]
        go_enter Tryd.func17, Tryd.ntmps17
        go_wp2
        go_ret
        exact ⟨rfl, rfl⟩)
    · obtain ⟨q, hq⟩ : ∃ q : Nat, (n : Int) / 10 = (q : Int) := ⟨n / 10, by omega⟩
      obtain ⟨r, hr⟩ : ∃ r : Nat, (n : Int) % 10 = (r : Int) := ⟨n % 10, by omega⟩
      have hqn : q = n / 10 := by omega
      have hrn : r = n % 10 := by omega
      have c1 := fun w' => ih q (by omega) w' (by omega)
      have c2 := fun w' => ih r (by omega) w' (by omega)
      have l1 := dec_len (n := q) (by omega)
      have l2 := dec_len (n := r) (by omega)
      have st : Hid (Lib.decDigits n = Lib.decDigits q ++ Lib.decDigits r) := Lib.hid (by rw [hqn, hrn]; exact dec_step h)
      clear ih hqn hrn
      obtain ⟨X, hX⟩ : ∃ X, Lib.decDigits q = X := ⟨_, rfl⟩
      obtain ⟨Y, hY⟩ : ∃ X, Lib.decDigits r = X := ⟨_, rfl⟩
      rw [hX, hY] at st
      rw [hX] at l1
      rw [hY] at l2
      simp only [hX] at c1
      simp only [hY] at c2
      have s1 : ∀ w' : World, (Op.stringOp .add ⟨X.toArray⟩ ⟨Y.toArray⟩).run Tryd.prog w' = .ok (.string ⟨(X ++ Y).toArray⟩) w' := fun w' => run_string_add_lists w' X Y (by omega) (by omega)
      clear hX hY
      have n1 : ¬ (n : Int) < 10 := by omega
      go_enter Tryd.func17, Tryd.ntmps17
      go_wp2_with (go_at_call 17; first | (refine Calls.on (args' := #[.int .i64 (q : Int)]) rfl ?_; refine (c1 _).mono ?_; rintro e w' ⟨rfl, rfl⟩) | (refine Calls.on (args' := #[.int .i64 (r : Int)]) rfl ?_; refine (c2 _).mono ?_; rintro e w' ⟨rfl, rfl⟩))
      go_ret
      exact ⟨by rw [st.out]; rfl, rfl⟩

theorem good_sub {l : List Hrd} (h : GoodH l) (k : Nat) : GoodH (l.take k) := fun x hx => h x (List.mem_of_mem_take hx)
set_option maxRecDepth 100000 in
set_option maxHeartbeats 4000000 in
theorem rTextH_main (A : Option Addr) (c : Nat) (l : List Hrd) (w : World) (h : Arr 2 Hrd.enc w w.heap.size A l) (h0 : hdE l = 0) :
    Calls Tryd.prog 6 #[.slice A l.length c] w fun e w' => e = .returned (.tuple #[.string ⟨(textH l).toArray⟩, .int .i64 0]) ∧ Below w.heap.size w w' := by
  obtain ⟨hl1, hf⟩ := hdE_zero.1 h0
  have Hg := goodH hf
  have cF := fun w' (hb : Below w.heap.size w w') => refFault_any A c l 0 4095 w' (h.on hb) (by omega)
  rw [hf] at cF
  have d1 : decide (4096 < (l.length : Int)) = false := by simp; omega
  clear h0 hf
  go_enter Tryd.func6, Tryd.ntmps6
  go_wp2_with (go_at_call 16; refine (cF _ (Below.refl _ _)).mono ?_; rintro e w1 ⟨rfl, hb1⟩)
  go_loopw [4, 5] (fun s i wr => ∃ k : Nat, k ≤ l.length ∧ i = .int .i64 k ∧ s = .string ⟨(textH (l.take k)).toArray⟩ ∧ Below w.heap.size w wr) (fun _ i _ => l.length - (intOf i).toNat)
  case atStart => exact ⟨0, Nat.zero_le _, rfl, rfl, hb1⟩
  case round =>
    obtain ⟨k, hk, rfl, rfl, hb⟩ := hrel
    by_cases hlt : k < l.length
    · obtain ⟨b, off, qs, qb, rfl, hbb, hq, c0, c1⟩ := h.hrd hlt hb
      obtain ⟨q0, q1, q2, q3⟩ := Hg _ (List.mem_of_getElem? hq.out)
      simp only at q0 q1 q2 q3
      obtain ⟨n, rfl⟩ := Int.eq_ofNat_of_zero_le q0
      obtain ⟨m, rfl⟩ := Int.eq_ofNat_of_zero_le q2
      have tl := textH_len (good_sub Hg k)
      rw [List.length_take] at tl
      have ta := Lib.hid (textH_take hq.out)
      have in1 := dec_len (n := n) (by omega)
      have im1 := dec_len (n := m) (by omega)
      have hL : Hid (lineH ⟨(n : Int), (m : Int)⟩ = Lib.decDigits n ++ [32] ++ Lib.decDigits m ++ [10]) := Lib.hid (by unfold lineH; rw [Lib.itoa_nonneg, Lib.itoa_nonneg])
      obtain ⟨T, hT⟩ : ∃ T, textH (l.take k) = T := ⟨_, rfl⟩
      rw [hT] at tl ta ⊢
      obtain ⟨I, hI⟩ : ∃ I, Lib.decDigits n = I := ⟨_, rfl⟩
      obtain ⟨J, hJ⟩ : ∃ I, Lib.decDigits m = I := ⟨_, rfl⟩
      have cI := fun w' => digits4_any n w' (by omega)
      have cJ := fun w' => digits4_any m w' (by omega)
      simp only [hI] at cI
      simp only [hJ] at cJ
      rw [hI, hJ] at hL
      rw [hI] at in1
      rw [hJ] at im1
      have Tl : T.length ≤ 200000 := by omega
      obtain ⟨X1, hX1⟩ : ∃ X, T ++ I = X := ⟨_, rfl⟩
      obtain ⟨X2, hX2⟩ : ∃ X, X1 ++ [32] = X := ⟨_, rfl⟩
      obtain ⟨X3, hX3⟩ : ∃ X, X2 ++ J = X := ⟨_, rfl⟩
      obtain ⟨X4, hX4⟩ : ∃ X, X3 ++ [10] = X := ⟨_, rfl⟩
      have hX : Hid (textH (l.take (k + 1)) = X4) := Lib.hid (by rw [ta.out, hL.out, ← hX4, ← hX3, ← hX2, ← hX1]; simp)
      have x1 : X1.length ≤ 210000 := by rw [← hX1]; simp; omega
      have x2 : X2.length ≤ 220000 := by rw [← hX2]; simp; omega
      have x3 : X3.length ≤ 230000 := by rw [← hX3]; simp; omega
      have s1 : ∀ w' : World, (Op.stringOp .add ⟨T.toArray⟩ ⟨I.toArray⟩).run Tryd.prog w' = .ok (.string ⟨X1.toArray⟩) w' := fun w' => by rw [← hX1]; exact run_string_add_lists w' T I (by omega) (by omega)
      have s2 : ∀ w' : World, (Op.stringOp .add ⟨X1.toArray⟩ ⟨#[32]⟩).run Tryd.prog w' = .ok (.string ⟨X2.toArray⟩) w' := fun w' => by rw [← hX2]; exact run_string_add_lists w' X1 [32] (by omega) (by simp)
      have s3 : ∀ w' : World, (Op.stringOp .add ⟨X2.toArray⟩ ⟨J.toArray⟩).run Tryd.prog w' = .ok (.string ⟨X3.toArray⟩) w' := fun w' => by rw [← hX3]; exact run_string_add_lists w' X2 J (by omega) (by omega)
      have s4 : ∀ w' : World, (Op.stringOp .add ⟨X3.toArray⟩ ⟨#[10]⟩).run Tryd.prog w' = .ok (.string ⟨X4.toArray⟩) w' := fun w' => by rw [← hX4]; exact run_string_add_lists w' X3 [10] (by omega) (by simp)
      have i1 : (k : Int) < (l.length : Int) := by omega
      clear hX1 hX2 hX3 hX4 hI hJ hT cF
      go_wp2_with fail
      go_quiet ((go_at_call 17; first | (refine Calls.on (args' := #[.int .i64 (n : Int)]) rfl ?_; exact Calls.quiet_of_same ((cI _).mono fun _ _ h => ⟨h.1, h.2.symm⟩)) | (refine Calls.on (args' := #[.int .i64 (m : Int)]) rfl ?_; exact Calls.quiet_of_same ((cJ _).mono fun _ _ h => ⟨h.1, h.2.symm⟩))))
      clear s1 s2 s3 s4 cI cJ
      go_wp2_with fail
      go_roundw
      case rel => exact ⟨k + 1, by omega, by go_num, by rw [hX.out], below_trans hb (below_drw _ _)⟩
      case measure => simp [intOf]; omega
    · have e1 : Hid (l.take k = l) := Lib.hid (List.take_of_length_le (by omega))
      rw [e1.out]
      go_wp2
      go_ret2
      exact ⟨rfl, hb⟩

theorem rTextH_any (A : Option Addr) (c : Nat) (l : List Hrd) (w : World) (h : Arr 2 Hrd.enc w w.heap.size A l) (hl : l.length ≤ 4611686018427387904) :
    Calls Tryd.prog 6 #[.slice A l.length c] w fun e w' => e = .returned (.tuple #[.string ⟨(if hdE l = 0 then textH l else []).toArray⟩, .int .i64 (hdE l)]) ∧ Below w.heap.size w w' := by
  by_cases h0 : hdE l = 0
  · rw [if_pos h0, h0]; exact rTextH_main A c l w h h0
  · rw [if_neg h0]
    by_cases h1 : 4096 < l.length
    · have d1 : decide (4096 < (l.length : Int)) = true := by simp; omega
      have e1 : hdE l = 5 := by unfold hdE; rw [if_pos h1]
      rw [e1]
      clear e1 h0 h1
      go_enter Tryd.func6, Tryd.ntmps6
      go_wp2
      go_ret2
      exact ⟨rfl, Below.refl _ _⟩
    · have d1 : decide (4096 < (l.length : Int)) = false := by simp; omega
      have e1 : hdE l = heardE l 0 4095 := by unfold hdE; rw [if_neg h1]
      rw [e1] at h0 ⊢
      have h0' : (heardE l 0 4095 != 0) = true := by simpa using h0
      have cF := fun w' (hb : Below w.heap.size w w') => refFault_any A c l 0 4095 w' (h.on hb) hl
      generalize heardE l 0 4095 = E at *
      clear e1 h0 h1
      go_enter Tryd.func6, Tryd.ntmps6
      go_wp2_with (first
        | (go_at_call 16; refine (cF _ (Below.refl _ _)).mono ?_; rintro e w1 ⟨rfl, hb1⟩)
        | (go_at_call 16; refine (cF _ hb1).mono ?_; rintro e w2 ⟨rfl, hb2⟩))
      go_ret2
      exact ⟨rfl, below_trans hb1 hb2⟩

end Go.Proofs.YtmlppnapodamaaaDoor
