/- Contracts of algebra's Toeplitz and of the reference's. For at most 512 bits, a result of at most 512 bits, a seed that fits. Contracts of Seed, Amplify and Distil, the program's and the reference's. For any numbers, blocks and ledgers. Contracts of Amplify and Distil, the program's and the reference's. For any numbers, blocks and ledgers. -/
import Derived.Test.YtfolgmcoggejbaaGreatTstAll
import Derived.Test.YtfolgmcoggejbaaGreatLenA
namespace Go.Proofs.YtfolgmcoggejbaaGreat
open Go.RowKit
set_option linter.unusedVariables false
set_option linter.unusedSimpArgs false

set_option maxRecDepth 100000 in
set_option maxHeartbeats 2000000 in
theorem Toeplitz_any (A B : Option Addr) (cA cB : Nat) (s a : List Bool) (out : Nat) (w : World) (hA : Arr 1 encB w w.heap.size A s) (hB : Arr 1 encB w w.heap.size B a) (la : a.length ≤ 512) (lo : out ≤ 512) (ls : s.length = a.length + out - 1) (lc : s.length ≤ cA) (mc : cA ≤ maxLen) :
    Calls Tryz.prog 119 #[.slice A s.length cA, .slice B a.length cB, .int .i64 out] w fun e w' => ∃ v, e = .returned (.tuple #[v, .int .i64 0]) ∧ Own w' w.heap.size 4 1 encB v (toepL s a out) ∧ Below w.heap.size w w' := by
  obtain ⟨i0, hi, hz0, hz1, hz2⟩ := info_parts bool_info3
  have Hi := Lib.hid hi; have Hz0 := Lib.hid hz0; have Hz1 := Lib.hid hz1; have Hz2 := Lib.hid hz2
  clear hi hz0 hz1 hz2
  unfold maxLen at mc
  have d2 : decide (512 < (a.length : Int)) = false := by simp; omega
  have d3 : decide ((out : Int) < 0) = false := by simp
  have d4 : decide (512 < (out : Int)) = false := by simp; omega
  have hmx : (1 < (a.length : Int) + (out : Int) ∧ ((s.length : Int) != (a.length : Int) + (out : Int) - 1) = false) ∨ (¬ 1 < (a.length : Int) + (out : Int) ∧ ((s.length : Int) != 0) = false) := by
    by_cases h : 1 < (a.length : Int) + (out : Int)
    · left; exact ⟨h, by simp; omega⟩
    · right; exact ⟨h, by rw [show s.length = 0 from by omega]; rfl⟩
  have Hs := Lib.hid ls
  have ls2 : s.length ≤ 1023 := by omega
  clear ls
  have hT0 : Hid (List.replicate out false = toepK s a out 0) := Lib.hid (toepK_zero s a out).symm
  rcases hmx with ⟨m1, m2⟩ | ⟨m1, m2⟩
  all_goals (
    go_enter Tryz.func119, Tryz.ntmps119
    go_wp2_with (at_make; refine wpList_mk rfl _ _ 22 rfl 4 i0 _ 1 Tryz.underlying22 Hi.out Hz0.out Hz1.out Hz2.out rfl (fun b : Bool => Value.bool b) false rfl _ _ _ _ out rfl rfl rfl rfl (by omega) (by unfold maxLen; omega) ?_; intro w1 own1 hb1)
    go_loopw [8, 34] (fun v i wr => ∃ k : Nat, k ≤ a.length ∧ i = .int .i64 k ∧ Own wr w.heap.size 4 1 encB v (toepK s a out k) ∧ Below w.heap.size w wr) (fun _ i _ => a.length - (intOf i).toNat)
    case atStart => exact ⟨0, Nat.zero_le _, rfl, by rw [← hT0.out]; exact own1, hb1⟩
    case round =>
      obtain ⟨k, hk, rfl, ow, hb⟩ := hrel
      rcases Nat.lt_or_ge k a.length with hlt | hge
      · obtain ⟨p, o, x, rfl, hp, hx, c0⟩ := hB.bool (k := k) hlt hb
        have hlk : Hid ((toepK s a out k).length = out) := Lib.hid (toepK_len _ _ _ _)
        obtain ⟨q, hq⟩ : ∃ q : Nat, (a.length : Int) - 1 - (k : Int) = (q : Int) := ⟨a.length - 1 - k, by omega⟩
        have Hq : Hid (q = a.length - 1 - k) := Lib.hid (by omega)
        cases x
        · have st : Hid (toepK s a out (k + 1) = toepK s a out k) := Lib.hid (toepK_no hx.out)
          clear hx
          go_wp2_with fail
          exact ⟨⟨k + 1, by omega, by go_num, by rw [st.out]; exact ow, hb⟩, by simp [intOf]; omega⟩
        · by_cases ho : 0 < out
          · have hqs : q + out ≤ s.length := by have := Hq.out; have := Hs.out; omega
            have m3 : 1 < (a.length : Int) + (out : Int) := by omega
            first
            | (exfalso; omega)
            | (
              have st : Hid (toepK s a out (k + 1) = xorL (toepK s a out k) ((s.drop q).take out)) := Lib.hid (by rw [Hq.out]; exact toepK_yes hx.out (by rw [← Hq.out]; exact hqs))
              clear hx
              obtain ⟨b2, o2, y2, hA2, hb2, _, _⟩ := hA.bool (k := 0) (by omega) (Below.refl _ _)
              subst hA2
              have ar := arr_take ((hA.on hb).drop q) out
              have hl2 : ((s.drop q).take out).length = out := by rw [List.length_take, List.length_drop]; omega
              obtain ⟨A3, c3, hv3, lc3, mc3, n3, ar3⟩ := ow.form encB_len
              subst hv3
              have cZ := zip_any A3 (some ⟨b2, o2 + q * 1, none⟩) c3 (cA - q) (toepK s a out k) ((s.drop q).take out) wr ar3 ar (by rw [hl2, hlk.out]) (by rw [hlk.out]; omega)
              rw [hlk.out, hl2, Nat.mul_one] at cZ
              rw [hlk.out]
              rw [← st.out] at cZ
              have bs := hb.size
              have i1 : (q : Int) + (out : Int) ≤ (s.length : Int) := by omega
              have i2 : (s.length : Int) ≤ (cA : Int) := by omega
              have i3 : q < cA := by omega
              have i4 : ((q : Int) + (out : Int)) - (q : Int) = (out : Int) := by omega
              clear hl2 ar
              go_wp2_with (go_at_call 95; ((with_reducible refine cZ.mono ?_)); rintro e w4 ⟨v4, rfl, own4, hb4⟩)
              exact ⟨⟨k + 1, by omega, by go_num, own4.down bs, below_trans hb hb4⟩, by simp [intOf]; omega⟩)
          · obtain rfl : out = 0 := by omega
            have st : Hid (toepK s a 0 (k + 1) = toepK s a 0 k) := Lib.hid rfl
            clear hx
            go_wp2_with fail
            exact ⟨⟨k + 1, by omega, by go_num, by rw [st.out]; exact ow, hb⟩, by simp [intOf]; omega⟩
      · obtain rfl : k = a.length := by omega
        go_wp2_with fail
        go_ret2
        exact ⟨_, rfl, ow, hb⟩)

end Go.Proofs.YtfolgmcoggejbaaGreat

namespace Go.Proofs.YtfolgmcoggejbaaGreat
open Go.RowKit
set_option linter.unusedVariables false
set_option linter.unusedSimpArgs false

def sdB (n out : Int) : Bool := betwB n 0 512 && betwB out 0 512
def seedE (n out : Int) : Int := if sdB n out = true then 0 else 3
def seedL (n out : Int) (s : Nat) : List Bool := if sdB n out = true then drwL s (n.toNat + out.toNat - 1) else []
theorem sd_yes {n out : Int} (h : sdB n out = true) : ∃ N O : Nat, n = N ∧ out = O ∧ N ≤ 512 ∧ O ≤ 512 := by
  unfold sdB betwB at h
  simp only [Bool.and_eq_true, decide_eq_true_eq] at h
  exact ⟨n.toNat, out.toNat, by omega, by omega, by omega, by omega⟩
theorem sd_no {n out : Int} (h : sdB n out = false) : betwB n 0 512 = false ∨ (betwB n 0 512 = true ∧ betwB out 0 512 = false) := by
  unfold sdB at h
  cases h1 : betwB n 0 512 <;> simp [h1] at h ⊢
  exact h
theorem sd_both {n out : Int} (h : sdB n out = true) : betwB n 0 512 = true ∧ betwB out 0 512 = true := by
  unfold sdB at h; simpa using h

set_option maxRecDepth 100000 in
set_option maxHeartbeats 16000000 in
theorem Seed_any (n out : Int) (s : Nat) (w : World) :
    Calls Tryz.prog 118 #[.int .i64 n, .int .i64 out, .int .u64 s] w fun e w' => ∃ v, e = .returned (.tuple #[v, .int .i64 (seedE n out)]) ∧ Own w' w.heap.size 4 1 encB v (seedL n out s) ∧ Below w.heap.size w w' := by
  cases hB : sdB n out
  · have F : Hid (seedE n out = 3 ∧ seedL n out s = []) := Lib.hid ⟨by unfold seedE; rw [hB]; rfl, by unfold seedL; rw [hB]; rfl⟩
    rw [F.out.1, F.out.2]
    rcases sd_no hB with h1 | ⟨h1, h2⟩
    · have H1 := Lib.hid h1
      clear h1 hB
      go_enter Tryz.func118, Tryz.ntmps118
      go_wp2_with (go_at_call 50; refine (dbetween_any _ _ _ _).mono ?_; rintro e w' ⟨rfl, rfl⟩; rw [H1.out])
      go_ret2
      exact ⟨_, rfl, Own.nil, Below.refl _ _⟩
    · have c1 := dbetween_any n 0 512 w
      have c2 := dbetween_any out 0 512 w
      rw [h1] at c1
      rw [h2] at c2
      clear h1 h2 hB
      go_enter Tryz.func118, Tryz.ntmps118
      go_wp2_with (first
        | (go_at_call 50; refine Calls.on (args' := #[.int .i64 n, .int .i64 0, .int .i64 512]) rfl ?_; refine c1.mono ?_; rintro e w' ⟨rfl, rfl⟩)
        | (go_at_call 50; refine Calls.on (args' := #[.int .i64 out, .int .i64 0, .int .i64 512]) rfl ?_; refine c2.mono ?_; rintro e w' ⟨rfl, rfl⟩))
      go_ret2
      exact ⟨_, rfl, Own.nil, Below.refl _ _⟩
  · obtain ⟨b1, b2⟩ := sd_both hB
    obtain ⟨N, O, rfl, rfl, hN, hO⟩ := sd_yes hB
    have F : Hid (seedE N O = 0 ∧ seedL N O s = drwL s (N + O - 1)) := Lib.hid ⟨by unfold seedE; rw [hB]; rfl, by unfold seedL; rw [hB]; rfl⟩
    rw [F.out.1, F.out.2]
    have c1 := fun w' => dbetween_any N 0 512 w'
    have c2 := fun w' => dbetween_any O 0 512 w'
    rw [b1] at c1
    rw [b2] at c2
    have cN := New_any s w
    obtain ⟨k, hk⟩ : ∃ k, N + O - 1 = k := ⟨_, rfl⟩
    rw [hk]
    have cB := dBits_any w.heap.size s k (w.alloc (.cells #[.int .u64 s, .bool true] 254)) (new_cell rfl) (by simp [go_sem]) (new_cell rfl) (by omega)
    have mx : max (0 : Int) ((N : Int) + (O : Int) - 1) = (k : Int) := by rw [Int.max_def]; split <;> omega
    clear b1 b2 hB hk
    go_enter Tryz.func118, Tryz.ntmps118
    go_wp2_with (first
      | (go_at_call 50; refine Calls.on (args' := #[.int .i64 (N : Int), .int .i64 0, .int .i64 512]) rfl ?_; refine (c1 _).mono ?_; rintro e w' ⟨rfl, rfl⟩)
      | (go_at_call 50; refine Calls.on (args' := #[.int .i64 (O : Int), .int .i64 0, .int .i64 512]) rfl ?_; refine (c2 _).mono ?_; rintro e w' ⟨rfl, rfl⟩)
      | (go_at_call 98; refine cN.mono ?_; rintro e w' ⟨rfl, rfl⟩)
      | (go_at_call 166; refine Calls.on (args' := #[.pointer (some ⟨w.heap.size, 0, none⟩), .int .i64 (k : Int)]) rfl ?_; refine cB.mono ?_; rintro e w2 ⟨v2, rfl, own2, gr2, _, _, _⟩))
    go_ret2
    exact ⟨_, rfl, own2.down (by simp), ((below_alloc (Below.refl _ _) _).grown gr2 (by simp) (fun j hj => by simp at hj; omega))⟩

end Go.Proofs.YtfolgmcoggejbaaGreat

namespace Go.Proofs.YtfolgmcoggejbaaGreat
open Go.RowKit
set_option linter.unusedVariables false
set_option linter.unusedSimpArgs false

def ampE (a : List Bool) (out : Int) : Int := if 512 < a.length then 4 else seedE a.length out
def ampL (a : List Bool) (out : Int) (s : Nat) : List Bool := if ampE a out = 0 then toepL (drwL s (a.length + out.toNat - 1)) a out.toNat else []
theorem amp_long {a : List Bool} (h : 512 < a.length) (out : Int) (s : Nat) : ampE a out = 4 ∧ ampL a out s = [] := by
  have e : ampE a out = 4 := by unfold ampE; rw [if_pos h]
  exact ⟨e, by unfold ampL; rw [e]; rfl⟩
theorem amp_no {a : List Bool} (h : ¬ 512 < a.length) {out : Int} (hs : sdB a.length out = false) (s : Nat) : ampE a out = 3 ∧ ampL a out s = [] ∧ seedE a.length out = 3 := by
  have e1 : seedE a.length out = 3 := by unfold seedE; rw [hs]; rfl
  have e : ampE a out = 3 := by unfold ampE; rw [if_neg h, e1]
  exact ⟨e, by unfold ampL; rw [e]; rfl, e1⟩
theorem amp_yes {a : List Bool} (h : ¬ 512 < a.length) {O : Nat} (hs : sdB a.length O = true) (s : Nat) : ampE a O = 0 ∧ ampL a O s = toepL (drwL s (a.length + O - 1)) a O ∧ seedE a.length O = 0 ∧ seedL a.length O s = drwL s (a.length + O - 1) := by
  have e1 : seedE a.length O = 0 := by unfold seedE; rw [hs]; rfl
  have e : ampE a O = 0 := by unfold ampE; rw [if_neg h, e1]
  exact ⟨e, by unfold ampL; rw [if_pos e]; rfl, e1, by unfold seedL; rw [hs]; rfl⟩

set_option maxRecDepth 100000 in
set_option maxHeartbeats 16000000 in
theorem Amplify_any (A : Option Addr) (cA : Nat) (a : List Bool) (out : Int) (s : Nat) (w : World) (hA : Arr 1 encB w w.heap.size A a) :
    Calls Tryz.prog 54 #[.slice A a.length cA, .int .i64 out, .int .u64 s] w fun e w' => ∃ v, e = .returned (.tuple #[v, .int .i64 (ampE a out)]) ∧ Own w' w.heap.size 4 1 encB v (ampL a out s) ∧ Below w.heap.size w w' := by
  by_cases hl : 512 < a.length
  · obtain ⟨e1, e2⟩ := amp_long hl out s
    rw [e1, e2]
    have d1 : decide (512 < (a.length : Int)) = true := by simp; omega
    clear e1 e2
    go_enter Tryz.func54, Tryz.ntmps54
    go_wp2
    go_ret2
    exact ⟨_, rfl, Own.nil, Below.refl _ _⟩
  · have d1 : decide (512 < (a.length : Int)) = false := by simp; omega
    have cS := Seed_any a.length out s w
    cases hB : sdB a.length out
    · obtain ⟨e1, e2, e3⟩ := amp_no hl hB s
      rw [e1, e2]
      rw [e3] at cS
      clear e1 e2 e3 hB
      go_enter Tryz.func54, Tryz.ntmps54
      go_wp2_with (go_at_call 118; refine cS.mono ?_; rintro e w1 ⟨v1, rfl, own1, hb1⟩)
      go_ret2
      exact ⟨_, rfl, Own.nil, hb1⟩
    · obtain ⟨N0, O, hN0, rfl, hN1, hO⟩ := sd_yes hB
      clear hN0 hN1
      obtain ⟨e1, e2, e3, e4⟩ := amp_yes hl hB s
      rw [e1, e2]
      rw [e3, e4] at cS
      have la : a.length ≤ 512 := by omega
      have hln : Hid ((drwL s (a.length + O - 1)).length = a.length + O - 1) := Lib.hid (drwL_len _ _)
      generalize drwL s (a.length + O - 1) = D at *
      clear e1 e2 e3 e4 hB
      go_enter Tryz.func54, Tryz.ntmps54
      go_wp2_with (first
        | (go_at_call 118; refine cS.mono ?_; rintro e w1 ⟨v1, rfl, own1, hb1⟩; obtain ⟨A1, c1, hv1, lc1, mc1, n1, ar1⟩ := own1.form encB_len; subst hv1)
        | (go_at_call 119; refine (Toeplitz_any A1 A c1 cA D a O w1 ar1 (hA.on hb1) la hO hln.out lc1 mc1).mono ?_; rintro e w2 ⟨v2, rfl, own2, hb2⟩))
      go_ret2
      exact ⟨_, rfl, own2.down hb1.size, below_trans hb1 hb2⟩
/-- The error of Distil, and its key. -/
def dsE (a : List Bool) (n t : Int) (l : List Itm) (m : Int) : Int :=
  if 512 < a.length then 4 else if betwB n 0 a.length = false then 3 else if lenE n t l m ≠ 0 then lenE n t l m else if lenI n t l m = 0 then 14 else ampE a (lenI n t l m)
def dsL (a : List Bool) (n t : Int) (l : List Itm) (m : Int) (s : Nat) : List Bool :=
  if 512 < a.length then [] else if betwB n 0 a.length = false then [] else if lenE n t l m ≠ 0 then [] else if lenI n t l m = 0 then [] else ampL a (lenI n t l m) s

section
variable {a : List Bool} {n t : Int} {l : List Itm} {m : Int} {s : Nat}
theorem ds1 (h1 : 512 < a.length) : dsE a n t l m = 4 ∧ dsL a n t l m s = [] := by simp [dsE, dsL, h1]
theorem ds2 (h1 : ¬ 512 < a.length) (h2 : betwB n 0 a.length = false) : dsE a n t l m = 3 ∧ dsL a n t l m s = [] := by
  constructor
  · unfold dsE; rw [if_neg h1, if_pos h2]
  · unfold dsL; rw [if_neg h1, if_pos h2]
theorem ds3 (h1 : ¬ 512 < a.length) (h2 : betwB n 0 a.length = true) (h3 : ¬ lenE n t l m = 0) : dsE a n t l m = lenE n t l m ∧ dsL a n t l m s = [] := by
  have h2' : ¬ betwB n 0 a.length = false := by simp [h2]
  constructor
  · unfold dsE; rw [if_neg h1, if_neg h2', if_pos h3]
  · unfold dsL; rw [if_neg h1, if_neg h2', if_pos h3]
theorem ds4 (h1 : ¬ 512 < a.length) (h2 : betwB n 0 a.length = true) (h3 : lenE n t l m = 0) (h4 : lenI n t l m = 0) : dsE a n t l m = 14 ∧ dsL a n t l m s = [] := by
  have h2' : ¬ betwB n 0 a.length = false := by simp [h2]
  have h3' : ¬ lenE n t l m ≠ 0 := by simp [h3]
  constructor
  · unfold dsE; rw [if_neg h1, if_neg h2', if_neg h3', if_pos h4]
  · unfold dsL; rw [if_neg h1, if_neg h2', if_neg h3', if_pos h4]
theorem ds5 (h1 : ¬ 512 < a.length) (h2 : betwB n 0 a.length = true) (h3 : lenE n t l m = 0) (h4 : ¬ lenI n t l m = 0) : dsE a n t l m = ampE a (lenI n t l m) ∧ dsL a n t l m s = ampL a (lenI n t l m) s := by
  have h2' : ¬ betwB n 0 a.length = false := by simp [h2]
  have h3' : ¬ lenE n t l m ≠ 0 := by simp [h3]
  constructor
  · unfold dsE; rw [if_neg h1, if_neg h2', if_neg h3', if_neg h4]
  · unfold dsL; rw [if_neg h1, if_neg h2', if_neg h3', if_neg h4]
end

set_option maxRecDepth 100000 in
set_option maxHeartbeats 16000000 in
theorem Distil_any (A : Option Addr) (cA : Nat) (a : List Bool) (n t : Int) (B : Option Addr) (cB : Nat) (l : List Itm) (m : Int) (s : Nat) (w : World) (hA : Arr 1 encB w w.heap.size A a) (hB : Arr 2 Itm.enc w w.heap.size B l) (hl : l.length ≤ 1000) :
    Calls Tryz.prog 15 #[.slice A a.length cA, .int .i64 n, .int .i64 t, .slice B l.length cB, .int .i64 m, .int .u64 s] w fun e w' => ∃ v, e = .returned (.tuple #[v, .int .i64 (dsE a n t l m)]) ∧ Own w' w.heap.size 4 1 encB v (dsL a n t l m s) ∧ Below w.heap.size w w' := by
  by_cases h1 : 512 < a.length
  · obtain ⟨e1, e2⟩ := ds1 (n := n) (t := t) (l := l) (m := m) (s := s) h1
    rw [e1, e2]
    clear e1 e2
    have d1 : decide (512 < (a.length : Int)) = true := by simp; omega
    go_enter Tryz.func15, Tryz.ntmps15
    go_wp2
    go_ret2
    exact ⟨_, rfl, Own.nil, Below.refl _ _⟩
  have d1 : decide (512 < (a.length : Int)) = false := by simp; omega
  have cb := dbetween_any n 0 a.length w
  cases h2 : betwB n 0 a.length
  · obtain ⟨e1, e2⟩ := ds2 (t := t) (l := l) (m := m) (s := s) h1 h2
    rw [e1, e2]
    rw [h2] at cb
    clear h2 e1 e2
    go_enter Tryz.func15, Tryz.ntmps15
    go_wp2_with (go_at_call 50; refine (cb).mono ?_; rintro e w' ⟨rfl, rfl⟩)
    go_ret2
    exact ⟨_, rfl, Own.nil, Below.refl _ _⟩
  rw [h2] at cb
  have cL := Length_any n t B cB l m w hB (by omega)
  by_cases h3 : lenE n t l m = 0
  · rw [h3] at cL
    have cA' := fun w' (hb : Below w.heap.size w w') => Amplify_any A cA a (lenI n t l m) s w' (hA.on hb)
    by_cases h4 : lenI n t l m = 0
    · obtain ⟨e1, e2⟩ := ds4 (s := s) h1 h2 h3 h4
      rw [e1, e2]
      rw [h4] at cL
      clear h3 h4 cA' e1 e2 h2
      go_enter Tryz.func15, Tryz.ntmps15
      go_wp2_with (first | (go_at_call 50; refine (cb).mono ?_; rintro e w' ⟨rfl, rfl⟩) | (go_at_call 52; refine cL.mono ?_; rintro e w1 ⟨rfl, hb1⟩))
      go_ret2
      exact ⟨_, rfl, Own.nil, hb1⟩
    · obtain ⟨e1, e2⟩ := ds5 (s := s) h1 h2 h3 h4
      rw [e1, e2]
      have d4 : (lenI n t l m == 0) = false := by simpa using h4
      clear e1 e2 h3 h4 h2
      generalize lenI n t l m = I at *
      go_enter Tryz.func15, Tryz.ntmps15
      go_wp2_with (first | (go_at_call 50; refine (cb).mono ?_; rintro e w' ⟨rfl, rfl⟩) | (go_at_call 52; refine cL.mono ?_; rintro e w1 ⟨rfl, hb1⟩) | (go_at_call 54; refine (cA' _ hb1).mono ?_; rintro e w2 ⟨v2, rfl, own2, hb2⟩))
      go_ret2
      exact ⟨_, rfl, own2.down hb1.size, below_trans hb1 hb2⟩
  · obtain ⟨e1, e2⟩ := ds3 (s := s) h1 h2 h3
    rw [e1, e2]
    have d3 : (lenE n t l m != 0) = true := by simpa using h3
    clear e1 e2 h3 h2
    generalize lenE n t l m = E at *
    go_enter Tryz.func15, Tryz.ntmps15
    go_wp2_with (first | (go_at_call 50; refine (cb).mono ?_; rintro e w' ⟨rfl, rfl⟩) | (go_at_call 52; refine cL.mono ?_; rintro e w1 ⟨rfl, hb1⟩))
    go_ret2
    exact ⟨_, rfl, Own.nil, hb1⟩

end Go.Proofs.YtfolgmcoggejbaaGreat
