/- Contracts of Seed, Amplify and Distil, the program's and the reference's. For any numbers, blocks and ledgers. -/
import Derived.Test.YtliekcfcdfakjaaDoorTopB
import Derived.Test.YtliekcfcdfakjaaDoorLenA
namespace Go.Proofs.YtliekcfcdfakjaaDoor
open Go.RowKit
set_option linter.unusedVariables false
set_option linter.unusedSimpArgs false

def sdB (n out : Int) : Bool := betwB n 0 512 && betwB out 0 512
def seedE (n out : Int) : Int := if sdB n out = true then 0 else 3
def seedL (n out : Int) (s : Nat) : List Bool := if sdB n out = true then drwL s (n.toNat + out.toNat - 1) else []
theorem sd_yes {n out : Int} (h : sdB n out = true) : ∃ N O : Nat, n = N ∧ out = O ∧ N ≤ 512 ∧ O ≤ 512 := by
  unfold sdB betwB at h
  simp only [Bool.and_eq_true, decide_eq_true_eq] at h
  exact ⟨n.toNat, out.toNat, by omega, by omega, by omega, by omega⟩
theorem sd_no {n out : Int} (h : sdB n out = false) : betwB n 0 512 = false ∨ (betwB n 0 512 = true ∧ betwB out 0 512 = false) := by
  unfold sdB at h
  cases h1 : betwB n 0 512 <;> simp [h1] at h ⊢
  exact h
theorem sd_both {n out : Int} (h : sdB n out = true) : betwB n 0 512 = true ∧ betwB out 0 512 = true := by
  unfold sdB at h; simpa using h

set_option maxRecDepth 100000 in
set_option maxHeartbeats 2000000 in
theorem Seed_any (n out : Int) (s : Nat) (w : World) :
    Calls Tryd.prog 40 #[.int .i64 n, .int .i64 out, .int .u64 s] w fun e w' => ∃ v, e = .returned (.tuple #[v, .int .i64 (seedE n out)]) ∧ Own w' w.heap.size 4 1 encB v (seedL n out s) ∧ Below w.heap.size w w' := by
  cases hB : sdB n out
  · have F : Hid (seedE n out = 3 ∧ seedL n out s = []) := Lib.hid ⟨by unfold seedE; rw [hB]; rfl, by unfold seedL; rw [hB]; rfl⟩
    rw [F.out.1, F.out.2]
    rcases sd_no hB with h1 | ⟨h1, h2⟩
    · have H1 := Lib.hid h1
      clear h1 hB
      go_enter Tryd.func40, Tryd.ntmps40
      go_wp2_with (go_at_call 59; refine (dbetween_any _ _ _ _).mono ?_; rintro e w' ⟨rfl, rfl⟩; rw [H1.out])
      go_ret2
      exact ⟨_, rfl, Own.nil, Below.refl _ _⟩
    · have c1 := dbetween_any n 0 512 w
      have c2 := dbetween_any out 0 512 w
      rw [h1] at c1
      rw [h2] at c2
      clear h1 h2 hB
      go_enter Tryd.func40, Tryd.ntmps40
      go_wp2_with (first
        | (go_at_call 59; refine Calls.on (args' := #[.int .i64 n, .int .i64 0, .int .i64 512]) rfl ?_; refine c1.mono ?_; rintro e w' ⟨rfl, rfl⟩)
        | (go_at_call 59; refine Calls.on (args' := #[.int .i64 out, .int .i64 0, .int .i64 512]) rfl ?_; refine c2.mono ?_; rintro e w' ⟨rfl, rfl⟩))
      go_ret2
      exact ⟨_, rfl, Own.nil, Below.refl _ _⟩
  · obtain ⟨b1, b2⟩ := sd_both hB
    obtain ⟨N, O, rfl, rfl, hN, hO⟩ := sd_yes hB
    have F : Hid (seedE N O = 0 ∧ seedL N O s = drwL s (N + O - 1)) := Lib.hid ⟨by unfold seedE; rw [hB]; rfl, by unfold seedL; rw [hB]; rfl⟩
    rw [F.out.1, F.out.2]
    have c1 := fun w' => dbetween_any N 0 512 w'
    have c2 := fun w' => dbetween_any O 0 512 w'
    rw [b1] at c1
    rw [b2] at c2
    have cN := New_any s w
    obtain ⟨k, hk⟩ : ∃ k, N + O - 1 = k := ⟨_, rfl⟩
    rw [hk]
    have cB := dBits_any w.heap.size s k (w.alloc (.cells #[.int .u64 s, .bool true] 143)) (new_cell rfl) (by simp [go_sem]) (new_cell rfl) (by omega)
    have hmx : (1 < (N : Int) + (O : Int) ∧ (N : Int) + (O : Int) - 1 = (k : Int)) ∨ (¬ 1 < (N : Int) + (O : Int) ∧ k = 0) := by omega
    have Hk := Lib.hid hk
    clear b1 b2 hB hk
    rcases hmx with ⟨m1, m2⟩ | ⟨m1, rfl⟩
    all_goals (
      go_enter Tryd.func40, Tryd.ntmps40
      go_wp2_with (first
        | (go_at_call 59; refine Calls.on (args' := #[.int .i64 (N : Int), .int .i64 0, .int .i64 512]) rfl ?_; refine (c1 _).mono ?_; rintro e w' ⟨rfl, rfl⟩)
        | (go_at_call 59; refine Calls.on (args' := #[.int .i64 (O : Int), .int .i64 0, .int .i64 512]) rfl ?_; refine (c2 _).mono ?_; rintro e w' ⟨rfl, rfl⟩)
        | (go_at_call 83; refine cN.mono ?_; rintro e w' ⟨rfl, rfl⟩)
        | (go_at_call 84; refine cB.mono ?_; rintro e w2 ⟨v2, rfl, own2, gr2, _, _, _⟩))
      go_ret2
      exact ⟨_, rfl, own2.down (by simp), ((below_alloc (Below.refl _ _) _).grown gr2 (by simp) (fun j hj => by simp at hj; omega))⟩)

set_option maxHeartbeats 400000 in
theorem SeedBits_any (N O k : Nat) (w : World) (hN : N ≤ 512) (hO : O ≤ 512) (hk : N + O - 1 = k) : Calls Tryd.prog 86 #[.int .i64 N, .int .i64 O] w fun e w' => e = .returned (.int .i64 k) ∧ w = w' := by
  have hmx : (1 < (N : Int) + (O : Int) ∧ (N : Int) + (O : Int) - 1 = (k : Int)) ∨ (¬ 1 < (N : Int) + (O : Int) ∧ k = 0) := by omega
  clear hk
  rcases hmx with ⟨m1, m2⟩ | ⟨m1, rfl⟩
  all_goals (
    go_enter Tryd.func86, Tryd.ntmps86
    go_wp2
    go_ret
    exact ⟨rfl, rfl⟩)

set_option maxRecDepth 100000 in
set_option maxHeartbeats 2000000 in
theorem rSeed_any (n out : Int) (s : Nat) (w : World) :
    Calls Tryd.prog 41 #[.int .i64 n, .int .i64 out, .int .u64 s] w fun e w' => ∃ v, e = .returned (.tuple #[v, .int .i64 (seedE n out)]) ∧ Own w' w.heap.size 4 1 encB v (seedL n out s) ∧ Below w.heap.size w w' := by
  cases hB : sdB n out
  · have F : Hid (seedE n out = 3 ∧ seedL n out s = []) := Lib.hid ⟨by unfold seedE; rw [hB]; rfl, by unfold seedL; rw [hB]; rfl⟩
    rw [F.out.1, F.out.2]
    rcases sd_no hB with h1 | ⟨h1, h2⟩
    · have c1 := within6_any n 512 w
      rw [h1] at c1
      clear h1 hB
      go_enter Tryd.func41, Tryd.ntmps41
      go_wp2_with (go_at_call 60; refine (c1).mono ?_; rintro e w' ⟨rfl, rfl⟩)
      go_ret2
      exact ⟨_, rfl, Own.nil, Below.refl _ _⟩
    · have c1 := within6_any n 512 w
      have c2 := within6_any out 512 w
      rw [h1] at c1
      rw [h2] at c2
      clear h1 h2 hB
      go_enter Tryd.func41, Tryd.ntmps41
      go_wp2_with (first
        | (go_at_call 60; refine Calls.on (args' := #[.int .i64 n, .int .i64 512]) rfl ?_; refine c1.mono ?_; rintro e w' ⟨rfl, rfl⟩)
        | (go_at_call 60; refine Calls.on (args' := #[.int .i64 out, .int .i64 512]) rfl ?_; refine c2.mono ?_; rintro e w' ⟨rfl, rfl⟩))
      go_ret2
      exact ⟨_, rfl, Own.nil, Below.refl _ _⟩
  · obtain ⟨b1, b2⟩ := sd_both hB
    obtain ⟨N, O, rfl, rfl, hN, hO⟩ := sd_yes hB
    have F : Hid (seedE N O = 0 ∧ seedL N O s = drwL s (N + O - 1)) := Lib.hid ⟨by unfold seedE; rw [hB]; rfl, by unfold seedL; rw [hB]; rfl⟩
    rw [F.out.1, F.out.2]
    have c1 := within6_any N 512 w
    have c2 := within6_any O 512 w
    rw [b1] at c1
    rw [b2] at c2
    obtain ⟨k, hk⟩ : ∃ k, N + O - 1 = k := ⟨_, rfl⟩
    rw [hk]
    have cS := SeedBits_any N O k w hN hO hk
    have cB := rdBits_any s k w (by omega)
    clear b1 b2 hB hk
    go_enter Tryd.func41, Tryd.ntmps41
    go_wp2_with (first
      | (go_at_call 60; refine Calls.on (args' := #[.int .i64 (N : Int), .int .i64 512]) rfl ?_; refine c1.mono ?_; rintro e w' ⟨rfl, rfl⟩)
      | (go_at_call 60; refine Calls.on (args' := #[.int .i64 (O : Int), .int .i64 512]) rfl ?_; refine c2.mono ?_; rintro e w' ⟨rfl, rfl⟩)
      | (go_at_call 86; refine (cS).mono ?_; rintro e w' ⟨rfl, rfl⟩)
      | (go_at_call 85; refine cB.mono ?_; rintro e w2 ⟨v2, rfl, own2, hb2⟩))
    go_ret2
    exact ⟨_, rfl, own2, hb2⟩

end Go.Proofs.YtliekcfcdfakjaaDoor
