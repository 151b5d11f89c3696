/- Contracts of Amplify and Distil, the program's and the reference's. For any numbers, blocks and ledgers. -/
import Derived.Test.YtliekcfcdfakjaaDoorShoA
namespace Go.Proofs.YtliekcfcdfakjaaDoor
open Go.RowKit
set_option linter.unusedVariables false
set_option linter.unusedSimpArgs false

def ampE (a : List Bool) (out : Int) : Int := if 512 < a.length then 4 else seedE a.length out
def ampL (a : List Bool) (out : Int) (s : Nat) : List Bool := if ampE a out = 0 then toepL (drwL s (a.length + out.toNat - 1)) a out.toNat else []
theorem amp_long {a : List Bool} (h : 512 < a.length) (out : Int) (s : Nat) : ampE a out = 4 ∧ ampL a out s = [] := by
  have e : ampE a out = 4 := by unfold ampE; rw [if_pos h]
  exact ⟨e, by unfold ampL; rw [e]; rfl⟩
theorem amp_no {a : List Bool} (h : ¬ 512 < a.length) {out : Int} (hs : sdB a.length out = false) (s : Nat) : ampE a out = 3 ∧ ampL a out s = [] ∧ seedE a.length out = 3 := by
  have e1 : seedE a.length out = 3 := by unfold seedE; rw [hs]; rfl
  have e : ampE a out = 3 := by unfold ampE; rw [if_neg h, e1]
  exact ⟨e, by unfold ampL; rw [e]; rfl, e1⟩
theorem amp_yes {a : List Bool} (h : ¬ 512 < a.length) {O : Nat} (hs : sdB a.length O = true) (s : Nat) : ampE a O = 0 ∧ ampL a O s = toepL (drwL s (a.length + O - 1)) a O ∧ seedE a.length O = 0 ∧ seedL a.length O s = drwL s (a.length + O - 1) := by
  have e1 : seedE a.length O = 0 := by unfold seedE; rw [hs]; rfl
  have e : ampE a O = 0 := by unfold ampE; rw [if_neg h, e1]
  exact ⟨e, by unfold ampL; rw [if_pos e]; rfl, e1, by unfold seedL; rw [hs]; rfl⟩

set_option maxRecDepth 100000 in
set_option maxHeartbeats 2000000 in
theorem Amplify_any (A : Option Addr) (cA : Nat) (a : List Bool) (out : Int) (s : Nat) (w : World) (hA : Arr 1 encB w w.heap.size A a) :
    Calls Tryd.prog 42 #[.slice A a.length cA, .int .i64 out, .int .u64 s] w fun e w' => ∃ v, e = .returned (.tuple #[v, .int .i64 (ampE a out)]) ∧ Own w' w.heap.size 4 1 encB v (ampL a out s) ∧ Below w.heap.size w w' := by
  by_cases hl : 512 < a.length
  · obtain ⟨e1, e2⟩ := amp_long hl out s
    rw [e1, e2]
    have d1 : decide (512 < (a.length : Int)) = true := by simp; omega
    clear e1 e2
    go_enter Tryd.func42, Tryd.ntmps42
    go_wp2
    go_ret2
    exact ⟨_, rfl, Own.nil, Below.refl _ _⟩
  · have d1 : decide (512 < (a.length : Int)) = false := by simp; omega
    have cS := Seed_any a.length out s w
    cases hB : sdB a.length out
    · obtain ⟨e1, e2, e3⟩ := amp_no hl hB s
      rw [e1, e2]
      rw [e3] at cS
      clear e1 e2 e3 hB
      go_enter Tryd.func42, Tryd.ntmps42
      go_wp2_with (go_at_call 40; refine cS.mono ?_; rintro e w1 ⟨v1, rfl, own1, hb1⟩)
      go_ret2
      exact ⟨_, rfl, Own.nil, hb1⟩
    · obtain ⟨N0, O, hN0, rfl, hN1, hO⟩ := sd_yes hB
      clear hN0 hN1
      obtain ⟨e1, e2, e3, e4⟩ := amp_yes hl hB s
      rw [e1, e2]
      rw [e3, e4] at cS
      have la : a.length ≤ 512 := by omega
      have hln : Hid ((drwL s (a.length + O - 1)).length = a.length + O - 1) := Lib.hid (drwL_len _ _)
      generalize drwL s (a.length + O - 1) = D at *
      clear e1 e2 e3 e4 hB
      go_enter Tryd.func42, Tryd.ntmps42
      go_wp2_with (first
        | (go_at_call 40; refine cS.mono ?_; rintro e w1 ⟨v1, rfl, own1, hb1⟩; obtain ⟨A1, c1, hv1, lc1, mc1, n1, ar1⟩ := own1.form encB_len; subst hv1)
        | (go_at_call 70; refine (Toeplitz_any A1 A c1 cA D a O w1 ar1 (hA.on hb1) la hO hln.out lc1 mc1).mono ?_; rintro e w2 ⟨v2, rfl, own2, hb2⟩))
      go_ret2
      exact ⟨_, rfl, own2.down hb1.size, below_trans hb1 hb2⟩
set_option maxRecDepth 100000 in
set_option maxHeartbeats 2000000 in
theorem rAmplify_any (A : Option Addr) (cA : Nat) (a : List Bool) (out : Int) (s : Nat) (w : World) (hA : Arr 1 encB w w.heap.size A a) :
    Calls Tryd.prog 43 #[.slice A a.length cA, .int .i64 out, .int .u64 s] w fun e w' => ∃ v, e = .returned (.tuple #[v, .int .i64 (ampE a out)]) ∧ Own w' w.heap.size 4 1 encB v (ampL a out s) ∧ Below w.heap.size w w' := by
  by_cases hl : 512 < a.length
  · obtain ⟨e1, e2⟩ := amp_long hl out s
    rw [e1, e2]
    have d1 : decide (512 < (a.length : Int)) = true := by simp; omega
    clear e1 e2
    go_enter Tryd.func43, Tryd.ntmps43
    go_wp2
    go_ret2
    exact ⟨_, rfl, Own.nil, Below.refl _ _⟩
  · have d1 : decide (512 < (a.length : Int)) = false := by simp; omega
    have cS := rSeed_any a.length out s w
    cases hB : sdB a.length out
    · obtain ⟨e1, e2, e3⟩ := amp_no hl hB s
      rw [e1, e2]
      rw [e3] at cS
      clear e1 e2 e3 hB
      go_enter Tryd.func43, Tryd.ntmps43
      go_wp2_with (go_at_call 41; refine cS.mono ?_; rintro e w1 ⟨v1, rfl, own1, hb1⟩)
      go_ret2
      exact ⟨_, rfl, Own.nil, hb1⟩
    · obtain ⟨N0, O, hN0, rfl, hN1, hO⟩ := sd_yes hB
      clear hN0 hN1
      obtain ⟨e1, e2, e3, e4⟩ := amp_yes hl hB s
      rw [e1, e2]
      rw [e3, e4] at cS
      have la : a.length ≤ 512 := by omega
      have hln : Hid ((drwL s (a.length + O - 1)).length = a.length + O - 1) := Lib.hid (drwL_len _ _)
      generalize drwL s (a.length + O - 1) = D at *
      clear e1 e2 e3 e4 hB
      go_enter Tryd.func43, Tryd.ntmps43
      go_wp2_with (first
        | (go_at_call 41; refine cS.mono ?_; rintro e w1 ⟨v1, rfl, own1, hb1⟩; obtain ⟨A1, c1, hv1, lc1, mc1, n1, ar1⟩ := own1.form encB_len; subst hv1)
        | (go_at_call 87; refine (rToeplitz_any A1 A c1 cA D a O w1 ar1 (hA.on hb1) la hO hln.out).mono ?_; rintro e w2 ⟨v2, rfl, own2, hb2⟩))
      go_ret2
      exact ⟨_, rfl, own2.down hb1.size, below_trans hb1 hb2⟩

/-- The error of Distil, and its key. -/
def dsE (a : List Bool) (n t : Int) (l : List Itm) (m : Int) : Int :=
  if 512 < a.length then 4 else if betwB n 0 a.length = false then 3 else if lenE n t l m ≠ 0 then lenE n t l m else if lenI n t l m = 0 then 14 else ampE a (lenI n t l m)
def dsL (a : List Bool) (n t : Int) (l : List Itm) (m : Int) (s : Nat) : List Bool :=
  if 512 < a.length then [] else if betwB n 0 a.length = false then [] else if lenE n t l m ≠ 0 then [] else if lenI n t l m = 0 then [] else ampL a (lenI n t l m) s

section
variable {a : List Bool} {n t : Int} {l : List Itm} {m : Int} {s : Nat}
theorem ds1 (h1 : 512 < a.length) : dsE a n t l m = 4 ∧ dsL a n t l m s = [] := by simp [dsE, dsL, h1]
theorem ds2 (h1 : ¬ 512 < a.length) (h2 : betwB n 0 a.length = false) : dsE a n t l m = 3 ∧ dsL a n t l m s = [] := by
  constructor
  · unfold dsE; rw [if_neg h1, if_pos h2]
  · unfold dsL; rw [if_neg h1, if_pos h2]
theorem ds3 (h1 : ¬ 512 < a.length) (h2 : betwB n 0 a.length = true) (h3 : ¬ lenE n t l m = 0) : dsE a n t l m = lenE n t l m ∧ dsL a n t l m s = [] := by
  have h2' : ¬ betwB n 0 a.length = false := by simp [h2]
  constructor
  · unfold dsE; rw [if_neg h1, if_neg h2', if_pos h3]
  · unfold dsL; rw [if_neg h1, if_neg h2', if_pos h3]
theorem ds4 (h1 : ¬ 512 < a.length) (h2 : betwB n 0 a.length = true) (h3 : lenE n t l m = 0) (h4 : lenI n t l m = 0) : dsE a n t l m = 14 ∧ dsL a n t l m s = [] := by
  have h2' : ¬ betwB n 0 a.length = false := by simp [h2]
  have h3' : ¬ lenE n t l m ≠ 0 := by simp [h3]
  constructor
  · unfold dsE; rw [if_neg h1, if_neg h2', if_neg h3', if_pos h4]
  · unfold dsL; rw [if_neg h1, if_neg h2', if_neg h3', if_pos h4]
theorem ds5 (h1 : ¬ 512 < a.length) (h2 : betwB n 0 a.length = true) (h3 : lenE n t l m = 0) (h4 : ¬ lenI n t l m = 0) : dsE a n t l m = ampE a (lenI n t l m) ∧ dsL a n t l m s = ampL a (lenI n t l m) s := by
  have h2' : ¬ betwB n 0 a.length = false := by simp [h2]
  have h3' : ¬ lenE n t l m ≠ 0 := by simp [h3]
  constructor
  · unfold dsE; rw [if_neg h1, if_neg h2', if_neg h3', if_neg h4]
  · unfold dsL; rw [if_neg h1, if_neg h2', if_neg h3', if_neg h4]
end

set_option maxRecDepth 100000 in
set_option maxHeartbeats 2000000 in
theorem Distil_any (A : Option Addr) (cA : Nat) (a : List Bool) (n t : Int) (B : Option Addr) (cB : Nat) (l : List Itm) (m : Int) (s : Nat) (w : World) (hA : Arr 1 encB w w.heap.size A a) (hB : Arr 2 Itm.enc w w.heap.size B l) (hl : l.length ≤ 1000) :
    Calls Tryd.prog 45 #[.slice A a.length cA, .int .i64 n, .int .i64 t, .slice B l.length cB, .int .i64 m, .int .u64 s] w fun e w' => ∃ v, e = .returned (.tuple #[v, .int .i64 (dsE a n t l m)]) ∧ Own w' w.heap.size 4 1 encB v (dsL a n t l m s) ∧ Below w.heap.size w w' := by
  by_cases h1 : 512 < a.length
  · obtain ⟨e1, e2⟩ := ds1 (n := n) (t := t) (l := l) (m := m) (s := s) h1
    rw [e1, e2]
    clear e1 e2
    have d1 : decide (512 < (a.length : Int)) = true := by simp; omega
    go_enter Tryd.func45, Tryd.ntmps45
    go_wp2
    go_ret2
    exact ⟨_, rfl, Own.nil, Below.refl _ _⟩
  have d1 : decide (512 < (a.length : Int)) = false := by simp; omega
  have cb := dbetween_any n 0 a.length w
  cases h2 : betwB n 0 a.length
  · obtain ⟨e1, e2⟩ := ds2 (t := t) (l := l) (m := m) (s := s) h1 h2
    rw [e1, e2]
    rw [h2] at cb
    clear h2 e1 e2
    go_enter Tryd.func45, Tryd.ntmps45
    go_wp2_with (go_at_call 59; refine (cb).mono ?_; rintro e w' ⟨rfl, rfl⟩)
    go_ret2
    exact ⟨_, rfl, Own.nil, Below.refl _ _⟩
  rw [h2] at cb
  have cL := Length_any n t B cB l m w hB (by omega)
  by_cases h3 : lenE n t l m = 0
  · rw [h3] at cL
    have cA' := fun w' (hb : Below w.heap.size w w') => Amplify_any A cA a (lenI n t l m) s w' (hA.on hb)
    by_cases h4 : lenI n t l m = 0
    · obtain ⟨e1, e2⟩ := ds4 (s := s) h1 h2 h3 h4
      rw [e1, e2]
      rw [h4] at cL
      clear h3 h4 cA' e1 e2 h2
      go_enter Tryd.func45, Tryd.ntmps45
      go_wp2_with (first | (go_at_call 59; refine (cb).mono ?_; rintro e w' ⟨rfl, rfl⟩) | (go_at_call 17; refine cL.mono ?_; rintro e w1 ⟨rfl, hb1⟩))
      go_ret2
      exact ⟨_, rfl, Own.nil, hb1⟩
    · obtain ⟨e1, e2⟩ := ds5 (s := s) h1 h2 h3 h4
      rw [e1, e2]
      have d4 : (lenI n t l m == 0) = false := by simpa using h4
      clear e1 e2 h3 h4 h2
      generalize lenI n t l m = I at *
      go_enter Tryd.func45, Tryd.ntmps45
      go_wp2_with (first | (go_at_call 59; refine (cb).mono ?_; rintro e w' ⟨rfl, rfl⟩) | (go_at_call 17; refine cL.mono ?_; rintro e w1 ⟨rfl, hb1⟩) | (go_at_call 42; refine (cA' _ hb1).mono ?_; rintro e w2 ⟨v2, rfl, own2, hb2⟩))
      go_ret2
      exact ⟨_, rfl, own2.down hb1.size, below_trans hb1 hb2⟩
  · obtain ⟨e1, e2⟩ := ds3 (s := s) h1 h2 h3
    rw [e1, e2]
    have d3 : (lenE n t l m != 0) = true := by simpa using h3
    clear e1 e2 h3 h2
    generalize lenE n t l m = E at *
    go_enter Tryd.func45, Tryd.ntmps45
    go_wp2_with (first | (go_at_call 59; refine (cb).mono ?_; rintro e w' ⟨rfl, rfl⟩) | (go_at_call 17; refine cL.mono ?_; rintro e w1 ⟨rfl, hb1⟩))
    go_ret2
    exact ⟨_, rfl, Own.nil, hb1⟩

set_option maxRecDepth 100000 in
set_option maxHeartbeats 2000000 in
theorem rDistil_any (A : Option Addr) (cA : Nat) (a : List Bool) (n t : Int) (B : Option Addr) (cB : Nat) (l : List Itm) (m : Int) (s : Nat) (w : World) (hA : Arr 1 encB w w.heap.size A a) (hB : Arr 2 Itm.enc w w.heap.size B l) (hl : l.length ≤ 1000) :
    Calls Tryd.prog 46 #[.slice A a.length cA, .int .i64 n, .int .i64 t, .slice B l.length cB, .int .i64 m, .int .u64 s] w fun e w' => ∃ v, e = .returned (.tuple #[v, .int .i64 (dsE a n t l m)]) ∧ Own w' w.heap.size 4 1 encB v (dsL a n t l m s) ∧ Below w.heap.size w w' := by
  by_cases h1 : 512 < a.length
  · obtain ⟨e1, e2⟩ := ds1 (n := n) (t := t) (l := l) (m := m) (s := s) h1
    rw [e1, e2]
    clear e1 e2
    have d1 : decide (512 < (a.length : Int)) = true := by simp; omega
    go_enter Tryd.func46, Tryd.ntmps46
    go_wp2
    go_ret2
    exact ⟨_, rfl, Own.nil, Below.refl _ _⟩
  have d1 : decide (512 < (a.length : Int)) = false := by simp; omega
  have cb := within6_any n a.length w
  cases h2 : betwB n 0 a.length
  · obtain ⟨e1, e2⟩ := ds2 (t := t) (l := l) (m := m) (s := s) h1 h2
    rw [e1, e2]
    rw [h2] at cb
    clear h2 e1 e2
    go_enter Tryd.func46, Tryd.ntmps46
    go_wp2_with (go_at_call 60; refine (cb).mono ?_; rintro e w' ⟨rfl, rfl⟩)
    go_ret2
    exact ⟨_, rfl, Own.nil, Below.refl _ _⟩
  rw [h2] at cb
  have cL := rLength_any n t B cB l m w hB (by omega)
  by_cases h3 : lenE n t l m = 0
  · rw [h3] at cL
    have cA' := fun w' (hb : Below w.heap.size w w') => rAmplify_any A cA a (lenI n t l m) s w' (hA.on hb)
    by_cases h4 : lenI n t l m = 0
    · obtain ⟨e1, e2⟩ := ds4 (s := s) h1 h2 h3 h4
      rw [e1, e2]
      rw [h4] at cL
      clear h3 h4 cA' e1 e2 h2
      go_enter Tryd.func46, Tryd.ntmps46
      go_wp2_with (first | (go_at_call 60; refine (cb).mono ?_; rintro e w' ⟨rfl, rfl⟩) | (go_at_call 18; refine cL.mono ?_; rintro e w1 ⟨rfl, hb1⟩))
      go_ret2
      exact ⟨_, rfl, Own.nil, hb1⟩
    · obtain ⟨e1, e2⟩ := ds5 (s := s) h1 h2 h3 h4
      rw [e1, e2]
      have d4 : (lenI n t l m == 0) = false := by simpa using h4
      clear e1 e2 h3 h4 h2
      generalize lenI n t l m = I at *
      go_enter Tryd.func46, Tryd.ntmps46
      go_wp2_with (first | (go_at_call 60; refine (cb).mono ?_; rintro e w' ⟨rfl, rfl⟩) | (go_at_call 18; refine cL.mono ?_; rintro e w1 ⟨rfl, hb1⟩) | (go_at_call 43; refine (cA' _ hb1).mono ?_; rintro e w2 ⟨v2, rfl, own2, hb2⟩))
      go_ret2
      exact ⟨_, rfl, own2.down hb1.size, below_trans hb1 hb2⟩
  · obtain ⟨e1, e2⟩ := ds3 (s := s) h1 h2 h3
    rw [e1, e2]
    have d3 : (lenE n t l m != 0) = true := by simpa using h3
    clear e1 e2 h3 h2
    generalize lenE n t l m = E at *
    go_enter Tryd.func46, Tryd.ntmps46
    go_wp2_with (first | (go_at_call 60; refine (cb).mono ?_; rintro e w' ⟨rfl, rfl⟩) | (go_at_call 18; refine cL.mono ?_; rintro e w1 ⟨rfl, hb1⟩))
    go_ret2
    exact ⟨_, rfl, Own.nil, hb1⟩

end Go.Proofs.YtliekcfcdfakjaaDoor
