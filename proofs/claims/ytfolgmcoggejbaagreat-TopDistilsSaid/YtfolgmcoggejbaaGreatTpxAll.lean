/- Whether two lists of bits are equal: the reference's Bools of layer 5. For any lists. Plain: what TopDistils says, without a program. For strings of at most 120 bits. Small examples of the layers up to 6, as TopDistils has them. No condition. The two strings and the plan of TopDistils. For any job. -/
import Derived.Test.YtfolgmcoggejbaaGreatCasB
import Derived.Test.YtfolgmcoggejbaaGreatTstAll
import Derived.Test.YtfolgmcoggejbaaGreatShoAll
import Derived.Test.YtfolgmcoggejbaaGreatColP
import Derived.Test.YtfolgmcoggejbaaGreatBallA
import Derived.Test.YtfolgmcoggejbaaGreatLedAll
import Derived.Test.YtfolgmcoggejbaaGreatCasL
import Derived.Test.YtfolgmcoggejbaaGreatCasM
import Derived.Test.YtfolgmcoggejbaaGreatNtxAll
import Derived.Test.YtfolgmcoggejbaaGreatGcdAll
namespace Go.Proofs.YtfolgmcoggejbaaGreat
open Go.RowKit
set_option linter.unusedVariables false
set_option linter.unusedSimpArgs false

theorem take_nextT {α : Type} {l m : List α} {k : Nat} (hl : k < l.length) (hm : k < m.length) (h : l.take k = m.take k) (hx : l[k] = m[k]) : l.take (k + 1) = m.take (k + 1) := by
  rw [List.take_succ_eq_append_getElem hl, List.take_succ_eq_append_getElem hm, h, hx]
/-- Whether two lists of bits are equal. -/
theorem Bools5T_any (A B : Option Addr) (n c : Nat) (l m : List Bool) (w : World) (hA : Arr 1 encB w w.heap.size A l) (hB : Arr 1 encB w w.heap.size B m) (hl : l.length ≤ 4611686018427387904) (hm : m.length ≤ 4611686018427387904) :
    Calls Tryz.prog 13 #[.slice A l.length n, .slice B m.length c] w fun e w' => e = .returned (.bool (decide (l = m))) ∧ Below w.heap.size w w' := by
  have hEq : Hid (∀ b, decide (l = m) = b ↔ decide (l = m) = b) := Lib.hid (fun _ => Iff.rfl)
  obtain ⟨D, hD⟩ : ∃ D, decide (l = m) = D := ⟨_, rfl⟩
  have HD := Lib.hid hD
  clear hEq
  rw [hD]
  clear hD
  go_enter Tryz.func13, Tryz.ntmps13
  by_cases hlen : l.length = m.length
  · rw [← hlen]
    have Hlen := Lib.hid hlen
    have hm2 : ∀ k, k < l.length → k < m.length := fun k h => by omega
    have Hm2 := Lib.hid hm2
    clear hlen hm hm2
    go_wp2_with fail
    go_loopw [5] (fun i wr => ∃ k : Nat, k ≤ l.length ∧ i = .int .i64 k ∧ Hid (l.take k = m.take k) ∧ Below w.heap.size w wr) (fun i _ => l.length - (intOf i).toNat)
    case atStart => exact ⟨0, by omega, rfl, Lib.hid (by simp), Below.refl _ _⟩
    case round =>
      obtain ⟨k, hk, rfl, ht, hb⟩ := hrel
      by_cases hlt : k < l.length
      · obtain ⟨b1, o1, x, rfl, _, hx, c1⟩ := hA.bool hlt hb
        obtain ⟨b2, o2, y, rfl, _, hy, c2⟩ := hB.bool (Hm2.out k hlt) hb
        have hno : Hid (x ≠ y → D = false) := Lib.hid (fun h => by
          rw [← HD.out, decide_eq_false_iff_not]
          rintro rfl
          exact h (Option.some.inj (hx.out.symm.trans hy.out)))
        have hst : Hid (x = y → l.take (k + 1) = m.take (k + 1)) := Lib.hid (fun h => take_nextT hlt (Hm2.out k hlt) ht.out (by
          obtain ⟨_, h1⟩ := List.getElem?_eq_some_iff.1 hx.out
          obtain ⟨_, h2⟩ := List.getElem?_eq_some_iff.1 hy.out
          rw [h1, h2, h]))
        cases x <;> cases y
        · go_wp2_with fail
          go_region
          go_wp2_with fail
          go_roundw
          case rel => exact ⟨k + 1, by omega, by go_num, Lib.hid (by first | exact hst.out rfl | exact hst.out trivial | exact hst.out), hb.drew⟩
          case measure => simp [intOf]; omega
        · go_wp2_with fail
          go_region
          go_wp2_with fail
          go_ret
          exact ⟨ret_bool (hno.out (by decide)).symm, hb.drew⟩
        · go_wp2_with fail
          go_region
          go_wp2_with fail
          go_ret
          exact ⟨ret_bool (hno.out (by decide)).symm, hb.drew⟩
        · go_wp2_with fail
          go_region
          go_wp2_with fail
          go_roundw
          case rel => exact ⟨k + 1, by omega, by go_num, Lib.hid (by first | exact hst.out rfl | exact hst.out trivial | exact hst.out), hb.drew⟩
          case measure => simp [intOf]; omega
      · have e1 : Hid (D = true) := Lib.hid (by
          have h1 : l.take k = l := List.take_of_length_le (by omega)
          have h2 : m.take k = m := List.take_of_length_le (by have := Hlen.out; omega)
          rw [← HD.out, decide_eq_true_iff, ← h1, ht.out, h2])
        go_wp2_with fail
        go_ret
        exact ⟨ret_bool e1.out.symm, hb⟩
  · have e1 : Hid (D = false) := Lib.hid (by
      rw [← HD.out, decide_eq_false_iff_not]
      rintro rfl; exact hlen rfl)
    have g1 : ((l.length : Int) != (m.length : Int)) = true := by simpa using (by omega : ¬ ((l.length : Int) = (m.length : Int)))
    clear hlen
    go_wp2_with fail
    go_ret
    exact ⟨ret_bool e1.out.symm, Below.refl _ _⟩

end Go.Proofs.YtfolgmcoggejbaaGreat

namespace Go.Proofs.YtfolgmcoggejbaaGreat
open Go.RowKit
set_option linter.unusedVariables false
set_option linter.unusedSimpArgs false

theorem rs_leng {s n k : Nat} (hk : k ≤ n) (hn : n ≤ 512) : (rsL s n k).length = n - k := by
  have hE : smE n k = 0 := by unfold smE betwB; simp; omega
  have hR : rsL s n k = rstL (smpL s n k) n := by unfold rsL; rw [if_pos hE]; simp
  have := (up_parts (smpL_nodup s n k) (fun x hx => smpL_mem hx)).length_eq
  rw [List.length_append, smpL_len hk, upL_len] at this
  rw [hR]; omega
theorem tl_small {n : Nat} (h : n < 4294967296) : (limbs n).length ≤ 1 := limbs_len (m := 32) (by simpa using h) (by decide)
theorem tf_valid (A : Option Addr) (c : Nat) (C : Option Addr) (d p q : Nat) (hp : p < 4294967296) (hq : q < 4294967296) (h0 : 0 < q) : validE [⟨A, c, limbs p, C, d, limbs q⟩] = 0 := by
  have l1 := tl_small (n := p) hp
  have l2 := tl_small (n := q) hq
  refine validE_zero.2 ⟨?_, ?_⟩
  · simp [Frc.lng]; omega
  · simp [Frc.zro, V_limbs]; omega
/-- What Test answers for the limit 1 and a bound below 1. -/
theorem top_test {a b : List Bool} {N k s E : Nat} (ha : a.length = N) (hb : b.length = N) (hk : k ≤ N) (hN : N ≤ 512) (hE1 : 2 ≤ E) (hE2 : E < 4294967296) (A1 A2 A3 A4 : Option Addr) (c1 c2 c3 c4 : Nat) :
    ∃ sn bd t : Int, 0 ≤ t ∧ t ≤ 512 ∧ tstE a b k s ⟨A1, c1, limbs 1, A2, c2, limbs E⟩ ⟨A3, c3, limbs 1, A4, c4, limbs 1⟩ = 0 ∧ tstV a b k s ⟨A1, c1, limbs 1, A2, c2, limbs E⟩ ⟨A3, c3, limbs 1, A4, c4, limbs 1⟩ = .agg #[.int .i64 N, .int .i64 k, .int .i64 sn, .int .i64 bd, .int .i64 t] ∧
      ∀ x, tstP x a b k s ⟨A1, c1, limbs 1, A2, c2, limbs E⟩ ⟨A3, c3, limbs 1, A4, c4, limbs 1⟩ = pickL x (rsL s N k) ∧ (pickL x (rsL s N k)).length = N - k := by
  have hE : smE N k = 0 := by unfold smE betwB; simp; omega
  have v1 := tf_valid A1 c1 A2 c2 1 E (by decide) hE2 (by omega)
  have v2 := tf_valid A3 c3 A4 c4 1 1 (by decide) (by decide) (by decide)
  have hTE := test_case a b k s N ⟨A1, c1, limbs 1, A2, c2, limbs E⟩ ⟨A3, c3, limbs 1, A4, c4, limbs 1⟩ ha hb hE
  have hsn : seenN a b k s ≤ k := by
    have := seen_le (a := a) (b := b) (k := k) (s := s) (by rw [ha]; exact hE)
    simpa using this
  have hV : tstV a b k s ⟨A1, c1, limbs 1, A2, c2, limbs E⟩ ⟨A3, c3, limbs 1, A4, c4, limbs 1⟩ = if tstE a b k s ⟨A1, c1, limbs 1, A2, c2, limbs E⟩ ⟨A3, c3, limbs 1, A4, c4, limbs 1⟩ = 0 then rateV N k (seenN a b k s) ⟨A1, c1, limbs 1, A2, c2, limbs E⟩ else zero5 := by unfold tstV; rw [ha]
  have hP : ∀ x, tstP x a b k s ⟨A1, c1, limbs 1, A2, c2, limbs E⟩ ⟨A3, c3, limbs 1, A4, c4, limbs 1⟩ = if tstE a b k s ⟨A1, c1, limbs 1, A2, c2, limbs E⟩ ⟨A3, c3, limbs 1, A4, c4, limbs 1⟩ = 0 then pickL x (rsL s N k) else [] := fun x => by unfold tstP; rw [ha]
  generalize seenN a b k s = S at *
  have hB : boundE N k (S : Int) ⟨A1, c1, limbs 1, A2, c2, limbs E⟩ = 0 := (boundE4 v1 (by omega) (by simp [V_limbs]; omega)).1
  have hJ : judgeE k (S : Int) ⟨A3, c3, limbs 1, A4, c4, limbs 1⟩ = 0 := by
    by_cases h0 : (k : Int) = 0
    · exact judgeE3 v2 (by omega) h0
    · rw [judgeE4 v2 (by omega) h0, if_neg (by simp [V_limbs]; omega)]
  rw [hB, if_neg (by simp), hJ] at hTE
  have hbd := bound_ok hB
  refine ⟨S, boundI N k (S : Int) ⟨A1, c1, limbs 1, A2, c2, limbs E⟩, boundI N k (S : Int) ⟨A1, c1, limbs 1, A2, c2, limbs E⟩ - S, by omega, by omega, hTE, ?_, fun x => ⟨?_, ?_⟩⟩
  · rw [hV, hTE, if_pos rfl]
    unfold rateV
    rw [if_pos hB]
  · rw [hP, hTE, if_pos rfl]
  · rw [pick_len, rs_leng hk hN]

/-- The ledger of a distillation. -/
def topL (T W : Nat) : List Itm := [⟨1, (T : Int)⟩, ⟨3, (W : Int)⟩]
theorem top_led {T W : Nat} (hT : T ≤ 65536) (hW : W ≤ 65536) : ent [] 1 (T : Int) = .yes [⟨1, (T : Int)⟩] ∧ ent [⟨1, (T : Int)⟩] 3 (W : Int) = .yes (topL T W) ∧ ledE (topL T W) = 0 ∧ totE (topL T W) = (T : Int) + W := by
  have k1 : kindB 1 = true := by decide
  have k3 : kindB 3 = true := by decide
  have b1 : betwB (T : Int) 0 65536 = true := by simp [betwB]; omega
  have b3 : betwB (W : Int) 0 65536 = true := by simp [betwB]; omega
  have i1 : itmE ⟨1, (T : Int)⟩ = 0 := by unfold itmE; rw [if_pos k1, if_pos b1]
  have i3 : itmE ⟨3, (W : Int)⟩ = 0 := by unfold itmE; rw [if_pos k3, if_pos b3]
  have l1 : ledE [⟨1, (T : Int)⟩] = 0 := by simp [ledE, firstE, i1]
  have l2 : ledE (topL T W) = 0 := by simp [ledE, topL, firstE, i1, i3]
  refine ⟨ent_nil k1 b1, ?_, l2, ?_⟩
  · rw [ent_last l1 k3 b3 (x := ⟨1, (T : Int)⟩) rfl]
    simp [topL]
  · unfold totE
    rw [if_pos l2]
    simp [topL, sumBy]
theorem dsE_len {a b : List Bool} (h : a.length = b.length) (n t : Int) (l : List Itm) (m : Int) : dsE a n t l m = dsE b n t l m := by
  unfold dsE ampE; rw [h]
/-- What Distil answers: there is no key, or it has as many bits as are left. -/
theorem top_ds {a : List Bool} (h : a.length ≤ 120) {t m : Int} (ht : 0 ≤ t ∧ t ≤ 512) (hm : 0 ≤ m ∧ m ≤ 512) {T W : Nat} (hT : T ≤ 65536) (hW : W ≤ 65536) (s : Nat) :
    (dsE a a.length t (topL T W) m = 14 ∧ dsL a a.length t (topL T W) m s = []) ∨ (dsE a a.length t (topL T W) m = 0 ∧ 0 < (dsL a a.length t (topL T W) m s).length ∧ ((bitLen (ballN a.length t) : Nat) : Int) + T + W + m + ((dsL a a.length t (topL T W) m s).length : Int) = a.length) := by
  obtain ⟨_, _, l0, tt⟩ := top_led hT hW
  have hB : lenB a.length t m = true := by simp [lenB, betwB]; omega
  have hE : lenE a.length t (topL T W) m = 0 := by unfold lenE; rw [if_pos hB, l0]
  have h2 : betwB (a.length : Int) 0 a.length = true := by simp [betwB]
  have hc : costI a.length t = (bitLen (ballN a.length t) : Int) := by
    unfold costI; rw [if_pos (by simp [betwB]; omega)]; simp
  by_cases h4 : lenI a.length t (topL T W) m = 0
  · exact .inl (ds4 (s := s) (by omega) h2 hE h4)
  · right
    obtain ⟨d1, d2⟩ := ds5 (s := s) (by omega) h2 hE h4
    have hI : lenI a.length t (topL T W) m = lenV a.length t (topL T W) m := by unfold lenI; rw [if_pos hE]
    have hV : lenV a.length t (topL T W) m = a.length - costI a.length t - totE (topL T W) - m := by
      unfold lenV
      split
      · rfl
      · rename_i hn
        rw [hI] at h4
        unfold lenV at h4
        rw [if_neg hn] at h4
        exact (h4 rfl).elim
    have hpos : 0 < lenI a.length t (topL T W) m := by
      rw [hI] at h4 ⊢
      unfold lenV at h4 ⊢
      split at h4
      · rename_i hn; rw [if_pos hn]; omega
      · exact (h4 rfl).elim
    rw [hI, hV, hc, tt] at hpos
    obtain ⟨O, hO⟩ := Int.eq_ofNat_of_zero_le (show 0 ≤ lenI a.length t (topL T W) m by rw [hI, hV, hc, tt]; omega)
    have hOe : (O : Int) = a.length - (bitLen (ballN a.length t) : Int) - ((T : Int) + W) - m := by rw [← hO, hI, hV, hc, tt]
    have hs : sdB a.length O = true := by simp [sdB, betwB]; omega
    have aE : ampE a (O : Int) = 0 := (amp_yes (by omega) hs s).1
    have aL := (amp_yes (by omega) hs s).2.1
    have lL : (dsL a a.length t (topL T W) m s).length = O := by
      rw [d2, hO, aL]; exact toepK_len _ _ _ _
    refine ⟨by rw [d1, hO, aE], by rw [lL]; omega, by rw [lL]; omega⟩

theorem ds_short {a : List Bool} (h : a.length ≤ 120) {t m : Int} (ht : 0 ≤ t ∧ t ≤ 512) (hm : 0 ≤ m ∧ m ≤ 512) {T W : Nat} (hT : T ≤ 65536) (hW : W ≤ 65536) (s : Nat) : (dsL a a.length t (topL T W) m s).length ≤ 120 := by
  rcases top_ds h ht hm hT hW s with ⟨_, h1⟩ | ⟨_, h1, h2⟩
  · rw [h1]; simp
  · omega
theorem dig_ok3 {n k : Nat} (hn : n = 8 ∨ n = 16 ∨ n = 32) (hk : k < 2 ^ n) {m : List Bool} (hl : m.length ≤ 512) : digE n k m = 0 ∧ digN n k m = hashN n k m := by
  have hB : wdB (n : Int) = true := by rcases hn with rfl | rfl | rfl <;> decide
  obtain ⟨h1, h2⟩ := hsh_ok (m := m) hB hk (by omega)
  exact ⟨by unfold digE; rw [if_neg (by omega), h1], by unfold digN; rw [if_neg (by omega), h2]⟩
/-- A block is refused only if it is another one. -/
theorem top_conf {n k : Nat} (hn : n = 8 ∨ n = 16 ∨ n = 32) (hk : k < 2 ^ n) {m b : List Bool} (hl : m.length ≤ 512) (h : cfE n k b (digN n k m) ≠ 0) : b ≠ m := by
  rintro rfl
  have h1 := (dig_ok3 hn hk hl).1
  unfold cfE at h
  rw [if_neg (by simp), h1] at h
  exact h rfl
/-- Two blocks of the same digest are a collision; there are few. -/
theorem top_col {k : Nat} (hk : k < 256) {m b : List Bool} (hm : m.length ≤ 120) (hb : b.length = m.length) (h : cfE 8 k b (digN 8 k m) = 0) (hne : b ≠ m) : colE 8 b m = 0 ∧ 1 ≤ colN 8 b m ∧ colN 8 b m ≤ m.length / 8 + 2 := by
  have hW : W2 8 := .inl rfl
  have h : cfE ((8 : Nat) : Int) k b (digN ((8 : Nat) : Int) k m) = 0 := h
  rw [(dig_ok hW (k := k) (by simpa using hk) (m := m) (by omega)).2] at h
  obtain ⟨c1, c2⟩ := cl_yes (n := 8) (by decide) b m
  obtain ⟨e1, e2⟩ := ky_ok 8 (a := b) (b := m) (by omega) (by omega) 0
  have p := cf_col hW (k := k) (by simpa using hk) (a := m) (b := b) (by omega) h
  have q := keyN_le hW b m 0 (by decide) (.inl hne)
  have hsym : keyN 8 m b 0 = keyN 8 b m 0 := by
    unfold keyN keyP
    congr 1
    funext x
    rw [Nat.xor_comm]
  rw [hb, Nat.max_self] at q
  refine ⟨by rw [show (8 : Int) = ((8 : Nat) : Int) from rfl, c1, e1], ?_, ?_⟩
  · rw [show (8 : Int) = ((8 : Nat) : Int) from rfl, c2, e2, ← hsym]; exact p
  · rw [show (8 : Int) = ((8 : Nat) : Int) from rfl, c2, e2]; exact q

end Go.Proofs.YtfolgmcoggejbaaGreat

namespace Go.Proofs.YtfolgmcoggejbaaGreat
open Go.RowKit
set_option linter.unusedVariables false
set_option linter.unusedSimpArgs false

theorem tail_known (w : World) : Calls Tryz.prog 115 #[.int .i64 4, .int .i64 1, .int .i64 2, .int .i64 0] w fun e w' => ∃ v1 v2, e = .returned (.tuple #[.agg #[v1, v2], .int .i64 0]) ∧ Big w' w.heap.size v1 1 ∧ Big w' w.heap.size v2 2 ∧ Below w.heap.size w w' := by
  have cW := fun w' => ways_any 4 1 2 0 w' (by decide) (by decide) (by decide) (by decide)
  have cC := fun w' => choose_any 4 2 w' (by decide) (by decide)
  have s1 := fun w' => sane_any 4 1 w'
  have s2 := fun w' => sane_any 4 2 w'
  have e1 : waysN 4 1 2 0 = 3 := by decide +kernel
  have e2 : ch 4 2 = 6 := by decide +kernel
  rw [e1] at cW
  rw [e2] at cC
  go_enter Tryz.func115, Tryz.ntmps115
  go_wp2_with (first
    | (go_at_call 152; refine Calls.on (args' := #[.int .i64 4, .int .i64 1]) rfl ?_; refine (s1 _).mono ?_; rintro e w' ⟨rfl, rfl⟩)
    | (go_at_call 152; refine Calls.on (args' := #[.int .i64 4, .int .i64 2]) rfl ?_; refine (s2 _).mono ?_; rintro e w' ⟨rfl, rfl⟩)
    | (go_at_call 156; refine (cW _).mono ?_; rintro e w2 ⟨v2, rfl, hV2, hb2⟩)
    | (go_at_call 154; refine (cC _).mono ?_; rintro e w3 ⟨v3, rfl, hV3, hb3⟩))
  obtain ⟨A, cA, rfl, nA⟩ := own_nt hV2 (limbs_dig 3)
  obtain ⟨C, cC, rfl, nC⟩ := own_nt hV3 (limbs_dig 6)
  have l3 : (limbs 3).length ≤ 1 := tl_small (by decide)
  have l6 : (limbs 6).length ≤ 1 := tl_small (by decide)
  have r1 : rfN (V (limbs 3)) (V (limbs 6)) = 1 := by rw [V_limbs, V_limbs]; decide
  have r2 : rdD (V (limbs 3)) (V (limbs 6)) = 2 := by rw [V_limbs, V_limbs]; decide
  have cR := reduced_any A cA (limbs 3) C cC (limbs 6) w3 (nA.on hb3) nC (by omega) (by omega) (by rw [V_limbs]; decide) (by rw [r1]; exact Nat.le_trans (tl_small (by decide)) (by decide)) (by rw [r2]; exact Nat.le_trans (tl_small (by decide)) (by decide))
  rw [r1, r2] at cR
  refine cR.mono ?_
  rintro e w4 ⟨v1, v2, rfl, h1, h2, hb4⟩
  obtain ⟨A3, e3, rfl, n3⟩ := own_nt h1 (limbs_dig 1)
  obtain ⟨A4, e4, rfl, n4⟩ := own_nt h2 (limbs_dig 2)
  have HB := below_trans (below_trans hb2 hb3) hb4
  obtain ⟨z0, z1⟩ := blk_new HB (g := w.heap.size) rfl (j := 0) rfl
  obtain ⟨z2, z3⟩ := blk_new HB (g := w.heap.size) rfl (j := 1) rfl
  have sz : w.heap.size < w3.heap.size := by have := (below_trans hb2 hb3).size; simp at this; omega
  have F1 := Big.down (base' := w.heap.size) (big_set2 h1 (g := w.heap.size) (by omega) (.slice A3 (limbs 1).length e3) (.slice A4 (limbs 2).length e4)) (by omega)
  have F2 := Big.down (base' := w.heap.size) (big_set2 h2 (g := w.heap.size) (by omega) (.slice A3 (limbs 1).length e3) (.slice A4 (limbs 2).length e4)) (by omega)
  have F3 := ((below_trans (below_alloc (Below.refl w.heap.size w) _) HB).setCell (p := ⟨w.heap.size, 0, none⟩) (by simp) (.slice A3 (limbs 1).length e3)).setCell (p := ⟨w.heap.size, 1, none⟩) (by simp) (.slice A4 (limbs 2).length e4)
  go_wp2_with fail
  (try simp only [Exit.inBlock, Exit.then])
  refine bodyPost_ret (v := .tuple #[.agg #[.slice A3 (limbs 1).length e3, .slice A4 (limbs 2).length e4], .int .i64 0]) ?_ rfl ⟨_, _, rfl, F1, F2, F3⟩
  rw [results_cell_tmp rfl]
  go_simp

theorem rate_known (w : World) (f : Frc) (hf : f.In w) (h1 : f.l = limbs 1) (h2 : f.m = limbs 6) : Calls Tryz.prog 41 #[.int .i64 4, .int .i64 2, .int .i64 0, f.val] w fun e w' => e = .returned (.tuple #[.agg #[.int .i64 4, .int .i64 2, .int .i64 0, .int .i64 1, .int .i64 1], .int .i64 0]) ∧ Below w.heap.size w w' := by
  have hv : validE [f] = 0 := by cases f; subst h1 h2; exact tf_valid _ _ _ _ 1 6 (by decide) (by decide) (by decide)
  have hB := boundE4 (t := 4) (s := 2) (n := 0) hv (by decide) (by rw [h1, h2, V_limbs, V_limbs]; decide)
  have e1 : boundI 4 2 0 f = 1 := by
    rw [hB.2, h1, h2, V_limbs, V_limbs]
    decide +kernel
  have cR := Rate_any 4 2 0 f w hf
  have hV : rateV 4 2 0 f = .agg #[.int .i64 4, .int .i64 2, .int .i64 0, .int .i64 1, .int .i64 1] := by
    unfold rateV
    rw [if_pos hB.1, e1]
    rfl
  rw [hB.1, hV] at cR
  exact cR

theorem count_one (w : World) (b : Nat) (h : w.cell? ⟨b, 0, none⟩ = some (.bool true)) : Calls Tryz.prog 165 #[.slice (some ⟨b, 0, none⟩) 1 1] w fun e w' => e = .returned (.int .i64 1) ∧ w = w' := by
  go_enter Tryz.func165, Tryz.ntmps165
  go_wp2_with fail
  go_loopw [2, 7] (fun n i wr => (i = .int .i64 0 ∧ n = .int .i64 0 ∧ w = wr) ∨ (i = .int .i64 1 ∧ n = .int .i64 1 ∧ w = wr)) (fun _ i _ => 1 - (intOf i).toNat)
  case atStart => exact .inl ⟨rfl, rfl, rfl⟩
  case round =>
    rcases hrel with ⟨rfl, rfl, rfl⟩ | ⟨rfl, rfl, rfl⟩
    · go_wp2_with fail
      go_roundw
      case rel => exact .inr ⟨rfl, rfl, trivial⟩
      case measure => simp [intOf]
    · go_wp2_with fail
      go_ret
      exact ⟨rfl, rfl⟩

theorem parity_one (w : World) (b : Nat) (h : w.cell? ⟨b, 0, none⟩ = some (.bool true)) : Calls Tryz.prog 117 #[.slice (some ⟨b, 0, none⟩) 1 1] w fun e w' => e = .returned (.bool true) ∧ w = w' := by
  have c1 := count_one w b h
  go_enter Tryz.func117, Tryz.ntmps117
  go_wp2_with (go_at_call 165; refine c1.mono ?_; rintro e w' ⟨rfl, rfl⟩)
  go_ret
  exact ⟨rfl, rfl⟩

theorem half_cmp (A1 C1 A2 C2 : Option Addr) (c1 d1 c2 d2 : Nat) : fcmpI ⟨A1, c1, limbs 1, C1, d1, limbs 2⟩ ⟨A2, c2, limbs 1, C2, d2, limbs 2⟩ = 0 ∧ validE [⟨A1, c1, limbs 1, C1, d1, limbs 2⟩, ⟨A2, c2, limbs 1, C2, d2, limbs 2⟩] = 0 := by
  have v : validE [⟨A1, c1, limbs 1, C1, d1, limbs 2⟩, ⟨A2, c2, limbs 1, C2, d2, limbs 2⟩] = 0 := by
    have l1 := tl_small (n := 1) (by decide)
    have l2 := tl_small (n := 2) (by decide)
    refine validE_zero.2 ⟨?_, ?_⟩
    · simp [Frc.lng]; omega
    · simp [Frc.zro, V_limbs]
  refine ⟨?_, v⟩
  unfold fcmpI
  rw [v]
  simp [V_limbs, cmpI]
/-- The fraction 1/2 is 1/2. -/
theorem frac_half (A C : Option Addr) (c d : Nat) (w : World) (hf : (⟨A, c, limbs 1, C, d, limbs 2⟩ : Frc).In w) : Calls Tryz.prog 116 #[.agg #[.slice A (limbs 1).length c, .slice C (limbs 2).length d], .int .u64 1, .int .u64 2] w fun e w' => e = .returned (.bool true) ∧ Below w.heap.size w w' := by
  have c1 := fun w' => Of_any 1 w' (by decide)
  have c2 := fun w' => Of_any 2 w' (by decide)
  have bw := below_alloc (Below.refl w.heap.size w) (.cells #[.slice A (limbs 1).length c, .slice C (limbs 2).length d] 33)
  have k0 : (w.alloc (.cells #[.slice A (limbs 1).length c, .slice C (limbs 2).length d] 33)).cell? ⟨w.heap.size, 0, none⟩ = some (.slice A (limbs 1).length c) := new_cell rfl
  have k1 : (w.alloc (.cells #[.slice A (limbs 1).length c, .slice C (limbs 2).length d] 33)).cell? ⟨w.heap.size, 1, none⟩ = some (.slice C (limbs 2).length d) := new_cell rfl
  go_enter Tryz.func116, Tryz.ntmps116
  go_upto_region 1 with fail
  obtain ⟨W, hW⟩ : ∃ x, w.alloc (.cells #[.slice A (limbs 1).length c, .slice C (limbs 2).length d] 33) = x := ⟨_, rfl⟩
  simp only [hW] at bw k0 k1 ⊢
  have hf1 := hf.on bw
  have L0 := fun w' (hb : Below W.heap.size W w') => bel_cell hb k0
  have L1 := fun w' (hb : Below W.heap.size W w') => bel_cell hb k1
  go_region_held3 (fun w' => Below W.heap.size W w')
    (first | (exact (Below.refl _ _).drew) | (exact below_trans (by assumption) hb2) | (exact below_trans (by assumption) hb3) | (exact below_trans (by assumption) hb4))
    (first
      | (go_at_call 6; refine Calls.on (args' := #[.int .u64 1]) rfl ?_; refine (c1 _).mono ?_; rintro e w2 ⟨v1, rfl, b1, hb2⟩; obtain ⟨A1, e1, rfl, n1⟩ := own_nt b1 (limbs_dig 1))
      | (go_at_call 6; refine Calls.on (args' := #[.int .u64 2]) rfl ?_; refine (c2 _).mono ?_; rintro e w3 ⟨v2, rfl, b2, hb3⟩; obtain ⟨A2, e2, rfl, n2⟩ := own_nt b2 (limbs_dig 2))
      | (go_at_call 102; refine (FracCompare_any ⟨A, c, limbs 1, C, d, limbs 2⟩ ⟨A1, e1, limbs 1, A2, e2, limbs 2⟩ _ (hf1.on (below_trans (below_trans (Below.refl _ _).drew hb2) hb3)) ⟨n1.on hb3, n2⟩).mono ?_; rintro e w4 ⟨rfl, hb4⟩; rw [(half_cmp A C A1 A2 c d e1 e2).1, (half_cmp A C A1 A2 c d e1 e2).2]))
  all_goals (
    have l1 : (limbs 2).length = 1 := by
      have h1 := tl_small (n := 2) (by decide)
      have h2 : limbs 2 ≠ [] := fun e => by have := V_limbs 2; rw [e] at this; simp [V, valB] at this
      have h3 := List.length_pos_iff.2 h2
      omega
    go_wp2_with fail
    go_ret
    exact ⟨rfl, below_trans bw (below_trans (below_trans (below_trans (Below.refl _ _).drew hb2) hb3) hb4)⟩)

theorem works4_any (w : World) : Calls Tryz.prog 53 #[] w fun e w' => e = .returned (.bool true) ∧ Below w.heap.size w w' := by
  have cT := fun w' => tail_known w'
  have c1 := fun w' => Of_any 1 w' (by decide)
  have c2 := fun w' => Of_any 6 w' (by decide)
  go_enter Tryz.func53, Tryz.ntmps53
  go_wp2_with fail
  refine (cT _).mono ?_
  rintro e w2 ⟨v1, v2, rfl, h1, h2, hb2⟩
  obtain ⟨A, c, rfl, nA⟩ := own_nt h1 (limbs_dig 1)
  obtain ⟨C, d, rfl, nC⟩ := own_nt h2 (limbs_dig 2)
  have x0 : (w2.alloc (.cells #[.slice A (limbs 1).length c, .slice C (limbs 2).length d] 33)).cell? ⟨w2.heap.size, 0, none⟩ = some (.slice A (limbs 1).length c) := new_cell rfl
  have x1 : (w2.alloc (.cells #[.slice A (limbs 1).length c, .slice C (limbs 2).length d] 33)).cell? ⟨w2.heap.size, 1, none⟩ = some (.slice C (limbs 2).length d) := new_cell rfl
  go_wp2_with fail
  refine (c1 _).mono ?_
  rintro e w3 ⟨v3, rfl, b3, hb3⟩
  obtain ⟨A3, e3, rfl, n3⟩ := own_nt b3 (limbs_dig 1)
  go_wp2_with fail
  refine (c2 _).mono ?_
  rintro e w4 ⟨v4, rfl, b4, hb4⟩
  obtain ⟨A4, e4, rfl, n4⟩ := own_nt b4 (limbs_dig 6)
  go_wp2_with fail
  refine (rate_known w4 ⟨A3, e3, limbs 1, A4, e4, limbs 6⟩ ⟨n3.on hb4, n4⟩ rfl rfl).mono ?_
  rintro e w5 ⟨rfl, hb5⟩
  go_upto_region 3 with fail
  have b6 := below_alloc (Below.refl w5.heap.size w5) (.cells #[.int .i64 4, .int .i64 2, .int .i64 0, .int .i64 1, .int .i64 1] 35)
  have y3 : (w5.alloc (.cells #[.int .i64 4, .int .i64 2, .int .i64 0, .int .i64 1, .int .i64 1] 35)).cell? ⟨w5.heap.size, 3, none⟩ = some (.int .i64 1) := new_cell rfl
  obtain ⟨w6, hw6⟩ : ∃ x, w5.alloc (.cells #[.int .i64 4, .int .i64 2, .int .i64 0, .int .i64 1, .int .i64 1] 35) = x := ⟨_, rfl⟩
  simp only [hw6] at b6 y3 ⊢
  have H3 := below_trans (below_trans (below_trans hb3 hb4) hb5) b6
  have z0 := bel_cell H3 x0
  have z1 := bel_cell H3 x1
  have b1 := below_alloc (Below.refl w2.heap.size w2) (.cells #[.slice A (limbs 1).length c, .slice C (limbs 2).length d] 33)
  have cF := fun w' (hb : Below w6.heap.size w6 w') => frac_half A C c d w' ⟨nA.on (below_trans (below_trans b1 H3) hb), nC.on (below_trans (below_trans b1 H3) hb)⟩
  have HA := below_trans (below_trans hb2 b1) H3
  clear x0 x1 hb2 hb3 hb4 hb5 b3 b4 h1 h2 nA nC n3 n4 cT c1 c2 b6 b1 H3
  go_wp2_with (first
    | (go_at_call 116; refine (cF _ (Below.refl _ _)).mono ?_; rintro e w7 ⟨rfl, hb7⟩; have y7 := bel_cell hb7 y3)
    | (go_at_call 117; refine (parity_one _ _ (new_cell rfl)).mono ?_; rintro e w8 ⟨rfl, rfl⟩))
  go_ret
  exact ⟨rfl, below_alloc (below_trans HA hb7) _⟩

theorem run_known : ((⟨1, 4, 0, 4⟩ : Cas).runT [false, true, false, false] [false, false, false, false]).b = [false, true, false, false] := by decide +kernel
theorem len_known : lenI 64 0 [⟨3, 16⟩] 10 = 37 ∧ lenE 64 0 [⟨3, 16⟩] 10 = 0 := by decide +kernel
set_option maxRecDepth 100000 in
theorem works6_any (w : World) : Calls Tryz.prog 14 #[] w fun e w' => e = .returned (.bool true) ∧ Below w.heap.size w w' := by
  have c4 := fun w' => works4_any w'
  have ok : (⟨1, 4, 0, 4⟩ : Cas).Ok := ⟨by decide, by decide, by decide⟩
  have cL := Length_any 64 0 (some ⟨w.heap.size, 0, none⟩) 1 [⟨3, 16⟩] 10 (w.alloc (.cells #[.int .i64 3, .int .i64 16] 141)) (arr_lit (sz := 2) (enc := Itm.enc) w [⟨3, 16⟩] #[.int .i64 3, .int .i64 16] 141 rfl (fun _ => rfl)) (by simp)
  rw [len_known.1, len_known.2] at cL
  have cR := fun w' A B (hA : Arr 1 encB w' w'.heap.size (some A) [false, false, false, false]) (hB : Arr 1 encB w' w'.heap.size (some B) [false, true, false, false]) => Run_any ⟨1, 4, 0, 4⟩ (some A) 4 [false, false, false, false] (some B) 4 [false, true, false, false] w' ok rfl rfl hA (by simp) (by decide) (by decide) hB
  rw [run_known] at cR
  obtain ⟨i0, hi, hz0, hz1, hz2⟩ := info_parts bool_info3
  have Hi := Lib.hid hi; have Hz0 := Lib.hid hz0; have Hz1 := Lib.hid hz1; have Hz2 := Lib.hid hz2
  clear hi hz0 hz1 hz2
  go_enter Tryz.func14, Tryz.ntmps14
  go_wp2_with fail
  refine cL.mono ?_
  rintro e w2 ⟨rfl, hb2⟩
  go_wp2_with (at_make; refine wpList_mk rfl _ _ 22 rfl 4 i0 _ 1 Tryz.underlying22 Hi.out Hz0.out Hz1.out Hz2.out rfl (fun b : Bool => Value.bool b) false rfl _ _ _ _ 4 rfl rfl rfl rfl (by omega) (by unfold maxLen; omega) ?_; intro w3 own3 hb3)
  have ar3 : Arr 1 encB w3 w3.heap.size (some ⟨w2.heap.size, 0, none⟩) [false, false, false, false] := by
    obtain ⟨A, c, e3, _, _, _, ar⟩ := own3.form (enc := encB) encB_len
    simp only [Value.slice.injEq] at e3
    obtain ⟨e4, _, _⟩ := e3
    rw [← e4] at ar
    exact ar
  have b4 := below_alloc (Below.refl w3.heap.size w3) (.cells #[.bool false, .bool true, .bool false, .bool false] 4)
  have HA := below_trans (below_trans (below_trans (below_alloc (Below.refl w.heap.size w) (.cells #[.int .i64 3, .int .i64 16] 141)) hb2) hb3) b4
  refine (cR _ _ _ (ar3.on b4) (arr_lit (sz := 1) (enc := encB) w3 [false, true, false, false] _ _ rfl encB_len)).mono ?_
  rintro e w5 ⟨u, v, rfl, ou, ov, hb5⟩
  obtain ⟨A5, c5, rfl, l5, m5, n5, ar5⟩ := ou.form encB_len
  obtain ⟨A6, c6, rfl, l6, m6, n6, ar6⟩ := ov.form encA_len
  obtain ⟨a, o1, x, rfl, _, hx, c1⟩ := ar5.bool (k := 1) (by decide) (Below.refl _ _)
  have hx1 : x = true := by have := hx.out; simpa using this.symm
  subst hx1
  have H6 := below_trans HA hb5
  clear ar3 ar5 ar6 cL cR own3 hb2 hb3 b4 hb5 HA ou ov hx
  generalize List.length (Mac.told _) = T6 at *
  have e4 : [false, true, false, false].length = 4 := rfl
  simp only [e4] at *
  go_wp2_with (go_at_call 53; refine (c4 _).mono ?_; rintro e w7 ⟨rfl, hb7⟩)
  go_ret
  exact ⟨rfl, below_trans H6 hb7⟩

end Go.Proofs.YtfolgmcoggejbaaGreat

namespace Go.Proofs.YtfolgmcoggejbaaGreat
open Go.RowKit
set_option linter.unusedVariables false
set_option linter.unusedSimpArgs false

def encW (n : Nat) : List Value := [.int .u16 n]
/-- A job's cells. -/
def jobC (A : Option Addr) (n c : Nat) (B : Option Addr) (m d : Nat) (p b s g wd e : Nat) (sd : Nat) : Array Value := #[.slice A n c, .slice B m d, .int .u8 p, .int .u8 b, .int .u8 s, .int .u8 g, .int .u8 wd, .int .u8 e, .int .u64 sd]
theorem wpList_appM {P : Program} {w : World} {ops : Array Oper} {rest : List Oper} {o : Oper} {a : Act} {Q : Exit → Act → World → Prop} (hgd : o.guard = none) (s x : Operand) (t : TypeId)
    (ho : o.op = .call { callee := .builtin .append, args := #[s, x], argTypes := #[t, t] })
    (base : Nat) (e : TypeId) (i : TypeInfo) (z : Value) (size bytes : Nat) (ht : P.underlying t = some (.slice e)) (hi : P.info? e = some i) (hz : i.zero = some z)
    (hsize : i.size = size) (hby : i.bytes = bytes) (hzs : z.cells.size = size) (hsz : 0 < size)
    {α : Type} {enc : α → List Value} (hs' : ∀ x, (enc x).length = size) (h1 : ∀ x, ∀ u ∈ enc x, u.oneCell' = true) (v : Value) (l : List α) (l2 : List α) (A : Option Addr) (n c B : Nat) (hn : l2.length = n) (hs : a.eval s = v) (hown : Own w base e size enc v l)
    (hx : a.eval x = .slice A n c) (hA : Arr size enc w B A l2) (hnil : A = none → c = 0)
    (hbytes : (l.length + l2.length) * bytes ≤ 140737488355328) (hbp : 0 < bytes) (hbase : base ≤ w.heap.size)
    (h : ∀ v' w', Own w' base e size enc v' (l ++ l2) → Below base w w' → wpList P ops Q rest (a.put o.dst v') w') : wpList P ops Q (o :: rest) a w := by
  subst hn
  exact wpList_app hgd s x t ho base e i z size bytes ht hi hz hsize hby hzs hsz hs' h1 v l l2 A c B hs hown hx hA hnil hbytes hbp hbase h

theorem results_c1 {fn : Func} {p : Tmp} {ty : TypeId} (h : fn.results = #[.cell p ty]) (tmps : Array Value) (P : Program) (w : World) :
    (results fn tmps).run P w =
      ((asAddr (tmps.getD p undef)).run P w).andThen fun a w₁ => (loadVar ty a).run P w₁ := by
  simp only [results, h]
  simp [Sem.run_bind, Result.andThen]
theorem plan_any (A : Option Addr) (n c : Nat) (B : Option Addr) (m d : Nat) (p b s g wd e : Nat) (sd : Nat) (w : World) (hp : p < 256) (hb : b < 256) :
    Calls Tryz.prog 9 #[.agg (jobC A n c B m d p b s g wd e sd)] w fun e w' => e = .returned (.agg #[.int .i64 ((1 + p % 3 : Nat) : Int), .int .i64 ((1 + b % 32 : Nat) : Int), .int .u64 sd]) ∧ Below w.heap.size w w' := by
  unfold jobC
  go_enter Tryz.func9, Tryz.ntmps9
  go_wp2_with fail
  (try simp only [Exit.inBlock, Exit.then])
  refine bodyPost_ret (v := .agg #[.int .i64 (1 + (p : Int) % 3), .int .i64 (1 + (b : Int) % 32), .int .u64 sd]) ?_ rfl ⟨by rw [show (1 : Int) + (p : Int) % 3 = ((1 + p % 3 : Nat) : Int) by omega, show (1 : Int) + (b : Int) % 32 = ((1 + b % 32 : Nat) : Int) by omega], below_alloc (below_alloc (Below.refl _ _) _) _⟩
  rw [results_c1 rfl]
  go_simp
set_option maxRecDepth 100000 in
set_option maxHeartbeats 2000000 in
theorem two_any (A : Option Addr) (c : Nat) (l : List Bool) (B : Option Addr) (d : Nat) (es : List Nat) (p b s g wd e : Nat) (sd : Nat) (w : World) (hA : Arr 1 encB w w.heap.size A l) (nA : A = none → c = 0) (hl : l.length ≤ c) (hc : c ≤ maxLen) (hB : Arr 1 encW w w.heap.size B es) (hd : es.length ≤ d) (hdm : d ≤ maxLen) (he : ∀ q ∈ es, q < 65536) :
    Calls Tryz.prog 5 #[.agg (jobC A l.length c B es.length d p b s g wd e sd), .int .i64 120] w fun e w' => ∃ u v x, e = .returned (.tuple #[u, v]) ∧ Own w' w.heap.size 4 1 encB u (l.take 120) ∧ Own w' w.heap.size 4 1 encB v x ∧ x.length = (l.take 120).length ∧ Below w.heap.size w w' := by
  obtain ⟨i0, hi, hz0, hz1, hz2⟩ := info_parts bool_info3
  have Hi := Lib.hid hi; have Hz0 := Lib.hid hz0; have Hz1 := Lib.hid hz1; have Hz2 := Lib.hid hz2
  clear hi hz0 hz1 hz2
  obtain ⟨N, hN⟩ : ∃ N, (l.take 120).length = N := ⟨_, rfl⟩
  have hN1 : N ≤ 120 ∧ N ≤ l.length := by rw [List.length_take] at hN; omega
  have mn : min (l.length : Int) 120 = (N : Int) := by rw [List.length_take] at hN; rw [Int.min_def]; split <;> omega
  have i1 : (0 : Int) ≤ (N : Int) := by omega
  have i2 : (N : Int) ≤ (c : Int) := by omega
  have arT := hA.take 120
  have HN := Lib.hid hN
  have He := Lib.hid he
  clear he
  obtain ⟨W, hW⟩ : ∃ x, w.alloc (.cells (jobC A l.length c B es.length d p b s g wd e sd) 26) = x := ⟨_, rfl⟩
  have bW : Below w.heap.size w W := by rw [← hW]; exact below_alloc (Below.refl _ _) _
  have x0 : W.cell? ⟨w.heap.size, 0, none⟩ = some (.slice A l.length c) := by rw [← hW]; exact new_cell rfl
  have x1 : W.cell? ⟨w.heap.size, 1, none⟩ = some (.slice B es.length d) := by rw [← hW]; exact new_cell rfl
  have oL := own_lit (enc := encB) (sz := 1) W W.heap.size 4 ([] : List Bool) #[] 0 (Nat.le_refl _) rfl (by unfold maxLen; omega) rfl rfl
  have arT1 := arT.on (below_trans bW (below_alloc (Below.refl W.heap.size W) (.cells #[] 4)))
  have szW : w.heap.size < W.heap.size := World.block_lt_of_cell? W _ x0
  rw [HN.out]
  unfold jobC at *
  go_enter Tryz.func5, Tryz.ntmps5
  go_upto_region 1 with fail
  repeat ((fail_if_success at_builtin); go_step)
  refine wpList_appM rfl (.tmp 10) (.tmp 18) 22 rfl W.heap.size 4 i0 _ 1 1 Tryz.underlying22 Hi.out Hz0.out Hz1.out Hz2.out rfl (by decide) encB_len encB_one _ [] (l.take 120) A N c _ HN.out rfl oL rfl arT1 nA (by rw [HN.out]; simp; omega) (by decide) (by simp) ?_
  intro v3 w3 own3 hb3
  have bl1 := below_alloc (Below.refl W.heap.size W) (.cells #[] 4)
  have H3 : Below w.heap.size w w3 := bW.trans ((bl1.trans hb3).mono bW.size)
  have y1 : w3.cell? ⟨w.heap.size, 1, none⟩ = some (.slice B es.length d) := bel_cell (bl1.trans hb3) x1
  rw [List.nil_append] at own3
  obtain ⟨A3, c3, rfl, l3, m3, n3, ar3⟩ := own3.form encB_len
  rw [HN.out] at l3
  rw [HN.out] at own3 ⊢
  have oL3 := own_lit (enc := encB) (sz := 1) w3 w3.heap.size 4 ([] : List Bool) #[] 0 (Nat.le_refl _) rfl (by unfold maxLen; omega) rfl rfl
  have ar4 := ar3.on (below_alloc (Below.refl w3.heap.size w3) (.cells #[] 4))
  have Sz3 := Nat.le_trans (Nat.le_of_lt szW) (bl1.trans hb3).size
  clear oL arT1 arT hb3 bl1 x0 x1 ar3 hA hN mn i1 i2 szW
  go_upto_region 2 with fail
  repeat ((fail_if_success at_builtin); go_step)
  refine wpList_appM rfl (.tmp 20) (.tmp 21) 22 rfl w3.heap.size 4 i0 _ 1 1 Tryz.underlying22 Hi.out Hz0.out Hz1.out Hz2.out rfl (by decide) encB_len encB_one _ [] (l.take 120) A3 N c3 _ HN.out rfl oL3 rfl ar4 n3 (by rw [HN.out]; simp; omega) (by decide) (by simp) ?_
  intro v5 w5 own5 hb5
  have bl3 := (below_alloc (Below.refl w3.heap.size w3) (.cells #[] 4)).trans hb5
  rw [List.nil_append] at own5
  obtain ⟨A5, c5, rfl, l5, m5, n5, ar5⟩ := own5.form encB_len
  rw [HN.out] at l5
  rw [HN.out] at own5 ⊢
  clear ar5 ar4 oL3 hb5
  go_wp2_with fail
  go_loopw [8] (fun i wr => ∃ (k : Nat) (x : List Bool), i = .int .i64 k ∧ k ≤ 100 ∧ x.length = N ∧ Own wr w3.heap.size 4 1 encB (.slice A5 N c5) x ∧ Below w3.heap.size w3 wr) (fun i _ => 100 - (intOf i).toNat)
  case atStart => exact ⟨0, l.take 120, rfl, by omega, HN.out, own5, bl3⟩
  case round =>
    obtain ⟨k, x, rfl, hk, hx, own, bw⟩ := hrel
    have z1 := bel_cell bw y1
    have hH : Below w.heap.size w wr := H3.trans (bw.mono H3.size)
    have End : ∃ u v x, Ending.returned (.tuple #[.slice A3 N c3, .slice A5 N c5]) = Ending.returned (.tuple #[u, v]) ∧ Own wr w.heap.size 4 1 encB u (l.take 120) ∧ Own wr w.heap.size 4 1 encB v x ∧ x.length = N ∧ Below w.heap.size w wr :=
      ⟨_, _, x, rfl, Own.down (Own.below own3 bw) bW.size, Own.down own H3.size, hx, hH⟩
    rcases Nat.lt_or_ge k es.length with h1 | h1
    case inr =>
      have d1 : decide ((k : Int) < (es.length : Int)) = false := by simp; omega
      go_wp2_with fail
      go_ret2
      exact End
    rcases Nat.lt_or_ge k 100 with h2 | h2
    case inr =>
      have d1 : decide ((k : Int) < (es.length : Int)) = true := by simp; omega
      have d2 : decide ((k : Int) < 100) = false := by simp; omega
      go_wp2_with fail
      go_ret2
      exact End
    rcases Nat.eq_zero_or_pos N with h3 | h3
    · have d1 : decide ((k : Int) < (es.length : Int)) = true := by simp; omega
      have d2 : decide ((k : Int) < 100) = true := by simp; omega
      have d3 : decide (0 < (N : Int)) = false := by simp; omega
      go_wp2_with fail
      go_ret2
      exact End
    · have d1 : decide ((k : Int) < (es.length : Int)) = true := by simp; omega
      have d2 : decide ((k : Int) < 100) = true := by simp; omega
      have d3 : decide (0 < (N : Int)) = true := by simp; omega
      obtain ⟨b1, o1, rfl, _, hcb⟩ := hB.get h1 hH
      have hq : wr.cell? ⟨b1, o1 + k * 1 + 0, none⟩ = some (.int .u16 (es[k] : Int)) := hcb 0 _ rfl
      rw [Nat.mul_one, Nat.add_zero] at hq
      obtain ⟨q, hqe⟩ : ∃ q, es[k] = q := ⟨_, rfl⟩
      rw [hqe] at hq
      have hq2 : q < 65536 := He.out q (by rw [← hqe]; exact List.getElem_mem h1)
      obtain ⟨R, hR, hRN⟩ : ∃ R : Nat, (q : Int) % (N : Int) = (R : Int) ∧ R < N := ⟨q % N, by simp, Nat.mod_lt _ h3⟩
      obtain ⟨g, cap, hv, hg1, hg2⟩ := own_ptr own (by omega)
      simp only [Value.slice.injEq] at hv
      obtain ⟨rfl, hnx, rfl⟩ := hv
      clear hnx
      obtain ⟨y, hy⟩ : ∃ y, x[R]? = some y := ⟨_, List.getElem?_eq_getElem (by omega)⟩
      have hc1 := own.at1 hx hy
      have hf1 := own.fr1 hx R
      have set1 := own.set1 hx R (!y)
      have ws : Below w3.heap.size w3 (wr.setCell ⟨g, R, none⟩ (.bool !y)) := bw.setCell hg1 _
      have i1 : (0 : Int) ≤ (R : Int) := by omega
      have i2 : (R : Int) < (N : Int) := by omega
      have i3 : (0 : Int) ≤ (k : Int) := by omega
      have i4 : (k : Int) < (es.length : Int) := by omega
      have Set1 := Lib.hid set1; have Own0 := Lib.hid own; have Ws := Lib.hid ws
      clear End set1 own ws hcb hB own3 own5 hW bW bl3 hy hqe
      go_wp2_with fail
      exact ⟨⟨k + 1, x.set R (!y), by go_num, by omega, by simpa using hx, Set1.out, Ws.out⟩, by simp [intOf]; omega⟩

end Go.Proofs.YtfolgmcoggejbaaGreat
