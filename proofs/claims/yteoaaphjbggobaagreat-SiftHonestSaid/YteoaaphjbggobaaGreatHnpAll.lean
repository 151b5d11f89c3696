/- Plain: light without losses, noise and an eavesdropper: every slot fires one detector, and where the bases are the same the bit is the sender's. No condition. Plain: what Test answers for two equal strings and the fractions 1/100 and 0. For at most 512 bits. -/
import Derived.Test.YteoaaphjbggobaaGreatOpsAll
import Derived.Test.YteoaaphjbggobaaGreatEndP
import Derived.Test.YteoaaphjbggobaaGreatBestP
import Derived.Test.YteoaaphjbggobaaGreatRulB
import Derived.Test.YteoaaphjbggobaaGreatTstAll
namespace Go.Proofs.YteoaaphjbggobaaGreat
open Go.RowKit
set_option linter.unusedVariables false
set_option linter.unusedSimpArgs false

/-- The arrangement: one class, one photon in each pulse, whatever arrives is detected, nothing is detected in the dark. -/
def oH : Opt := ⟨0, 0, 0, 256, 256, 0, 0, 0, 256, 0, 0, 0, 0, 256, 0, 0, 256, 0⟩
theorem oH_ok : optB oH = true := by decide +kernel
/-- The one rule: the shift. -/
def rlH (a b : Int) : List Rul := [⟨3, 0, 0, a, b⟩]
theorem rlH_ok {a b : Int} (h1 : b = 0 ∨ b = 1) (h2 : b ≤ a) (h3 : a ≤ 16) : (rlH a b).all ruleB = true ∧ rulesE (rlH a b) = 0 := by
  have h : (rlH a b).all ruleB = true := by
    rcases h1 with rfl | rfl <;> simp [rlH, ruleB, bitB, h2, h3]
  refine ⟨h, ?_⟩
  unfold rulesE
  rw [if_neg (by simp [rlH]), if_neg (by simp [h]), if_neg (by simp [shiftsN, rlH])]
theorem rlH_shf (a b : Int) : shfX (rlH a b) = a * (1 - 2 * b) := by simp [rlH, shfX]

theorem ch_all (s : Nat) : chB s 256 = true := by
  have := Nat.mod_lt (nxY s) (show 0 < 256 by decide)
  simp [chB]; omega
theorem ch_none (s : Nat) : chB s 0 = false := by simp [chB]; omega

/-- A pulse as this arrangement sends it. -/
def HonPls (x : Pls) : Prop := x.ph = 1 ∧ x.seen = true ∧ (x.basis = 0 ∨ x.basis = 1)
theorem plsH (s : Nat) : HonPls (plsF oH s).1 := by
  have h2 := Nat.mod_lt (nxY s) (show 0 < 2 by decide)
  have hc : clsF oH (nxS (nxS s)) = (2, nxS (nxS s)) := rfl
  have hw : ∀ t : Nat, (phoF oH 2 t).1 = 1 := fun t => by
    have h3 := Nat.mod_lt (nxY t) (show 0 < 256 by decide)
    show wgh [0, 256, 0, 0] ((nxY t % 256 : Nat) : Int) = 1
    rw [wgh, if_neg (by omega), wgh, if_pos (by omega)]
  refine ⟨?_, rfl, ?_⟩
  · show ((phoF oH (clsF oH (nxS (nxS s))).1 (clsF oH (nxS (nxS s))).2).1 : Int) = 1
    rw [hc, hw]; rfl
  · show ((nxY s % 2 : Nat) : Int) = 0 ∨ ((nxY s % 2 : Nat) : Int) = 1
    omega
theorem emH (s : Nat) : ∀ n, ∀ x ∈ (emX oH s n).1, HonPls x
  | 0, x, h => by simp [emX] at h
  | n + 1, x, h => by
    rw [emX, List.mem_append] at h
    rcases h with h | h
    · exact emH s n x h
    · simp only [List.mem_singleton] at h
      rw [h]; exact plsH _

theorem carH (a b : Int) (p : List Pls) (hp : ∀ x ∈ p, HonPls x) (s : Nat) : ∀ k, k ≤ p.length → carX (rlH a b) p s k = ((p.take k).map plsX, s, [])
  | 0, _ => by simp [carX]
  | k + 1, h => by
    have hx : p[k]? = some p[k] := List.getElem?_eq_getElem (by omega)
    obtain ⟨h1, h2, h3⟩ := hp p[k] (List.getElem_mem _)
    have hr : ∀ z : Lgt × Nat × List Nte, z.1.br = false → rulX (rlH a b) k z (rlH a b).length = (z.1, z.2.1, z.2.2 ++ []) := fun z hz => by
      obtain ⟨z1, z2, z3⟩ := z
      simp only at hz
      simp [rulX, rlH, stpX, onB, actX, hz]
    rw [carX_snoc hx, carH a b p hp s k (by omega), hr _ rfl, List.take_add_one, hx, List.map_append]
    simp only [List.append_nil, Option.toList, List.map_cons, List.map_nil]
    have ho : outX (plsX p[k]) = plsX p[k] := by
      unfold outX
      rw [if_pos (.inl (by show 0 < p[k].ph.toNat; rw [h1]; decide))]
    rw [ho]

theorem det_at (eta dark : Int) (l : List Lgt) (sh : Int) (s : Nat) : ∀ n j, j < n → ∃ t, (detX eta dark l sh s n).1[j]? = some (clkX eta dark (lgtAt l sh j) t).1
  | 0, j, h => by omega
  | n + 1, j, h => by
    rw [detX]
    simp only
    by_cases hj : j < n
    · obtain ⟨t, ht⟩ := det_at eta dark l sh s n j hj
      exact ⟨t, by rw [List.getElem?_append_left (by rw [detX_len]; exact hj)]; exact ht⟩
    · obtain rfl : j = n := by omega
      exact ⟨(detX eta dark l sh s j).2, by rw [List.getElem?_append_right (by rw [detX_len]; omega), detX_len]; simp⟩
theorem clkH (x : Lgt) (s : Nat) (h1 : x.ph = 1) (h2 : x.br = false) : singleB (clkX 256 0 x s).1.kind = true ∧ (x.basis = (clkX 256 0 x s).1.basis → x.bit = decide ((clkX 256 0 x s).1.kind = 2)) := by
  obtain ⟨ph, basis, bit, br⟩ := x
  simp only at h1 h2
  subst h1 h2
  unfold clkX
  simp only [firX, ch_all, ch_none, Bool.false_eq_true, if_false, if_true, Bool.false_or, Bool.or_false]
  by_cases hb : ((nxY s % 2 : Nat) : Int) = basis
  · simp only [decide_eq_true hb, if_true]
    cases bit <;> simp [kindX, singleB]
  · simp only [decide_eq_false hb, Bool.false_eq_true, if_false]
    refine ⟨?_, fun h => (hb h.symm).elim⟩
    have := Nat.mod_lt (nxY (nxS (nxS s))) (show 0 < 2 by decide)
    rcases (by omega : nxY (nxS (nxS s)) % 2 = 0 ∨ nxY (nxS (nxS s)) % 2 = 1) with h | h <;> simp [h, kindX, singleB]

section
variable (a b : Int) (s0 s1 s2 n : Nat)
def pH : List Pls := (emX oH s0 n).1
def cH : List Clk := (detX oH.eta oH.dark (carX (rlH a b) (emX oH s0 n).1 s1 n).1 (shfX (rlH a b)) s2 n).1
theorem pH_len : (pH s0 n).length = n := emX_len _ _ _
theorem cH_len : (cH a b s0 s1 s2 n).length = n := detX_len _ _ _ _ _ _
/-- What a slot of the sender and its click have to do with each other. -/
theorem slotH {i : Nat} {x : Pls} {q : Clk} (hx : (pH s0 n)[i]? = some x) (h0 : 0 ≤ (i : Int) + shfX (rlH a b)) (hq : (cH a b s0 s1 s2 n)[((i : Int) + shfX (rlH a b)).toNat]? = some q) :
    x.seen = true ∧ singleB q.kind = true ∧ (x.basis = q.basis → x.bit = decide (q.kind = 2)) := by
  have hm := emH s0 n x (List.mem_of_getElem? hx)
  have hi : i < n := by have := (List.getElem?_eq_some_iff.1 hx).1; rw [pH_len] at this; exact this
  have hj : ((i : Int) + shfX (rlH a b)).toNat < n := by have := (List.getElem?_eq_some_iff.1 hq).1; rw [cH_len] at this; exact this
  refine ⟨hm.2.1, ?_⟩
  obtain ⟨t, ht⟩ := det_at 256 0 (carX (rlH a b) (emX oH s0 n).1 s1 n).1 (shfX (rlH a b)) s2 n _ hj
  have hc : carX (rlH a b) (emX oH s0 n).1 s1 n = (((emX oH s0 n).1.take n).map plsX, s1, []) := carH a b _ (emH s0 n) s1 n (by rw [emX_len]; exact Nat.le_refl _)
  rw [List.take_of_length_le (by rw [emX_len]; exact Nat.le_refl _)] at hc
  have hx' : (emX oH s0 n).1[i]? = some x := hx
  have hl : lgtAt (carX (rlH a b) (emX oH s0 n).1 s1 n).1 (shfX (rlH a b)) ((i : Int) + shfX (rlH a b)).toNat = plsX x := by
    rw [hc]
    unfold lgtAt
    have e : ((((i : Int) + shfX (rlH a b)).toNat : Int) - shfX (rlH a b)) = (i : Int) := by omega
    rw [e, if_pos (by omega), Int.toNat_natCast, List.getElem?_map, hx']
    rfl
  rw [hl] at ht
  have hq' : q = (clkX 256 0 (plsX x) t).1 := by
    have : some q = some (clkX 256 0 (plsX x) t).1 := by rw [← hq]; exact ht
    simpa using this
  rw [hq']
  exact clkH (plsX x) t (by show x.ph.toNat = 1; rw [hm.1]; rfl) rfl
theorem agrH (k : Nat) (h : agrAt (pH s0 n) (cH a b s0 s1 s2 n) (shfX (rlH a b)) k = true) : pt (pH s0 n) (cH a b s0 s1 s2 n) (shfX (rlH a b)) k = 1 ∧ difB (pH s0 n) (cH a b s0 s1 s2 n) (shfX (rlH a b)) k = false := by
  unfold agrAt at h
  unfold pt difB bitAt rcvB kindAt
  split at h
  · cases h
  · rename_i x hx
    split at h
    · rename_i h0
      split at h
      · cases h
      · rename_i q hq
        obtain ⟨h1, h2, h3⟩ := slotH a b s0 s1 s2 n hx h0 hq
        simp only [Bool.and_eq_true, beq_iff_eq] at h
        have h4 := h3 h.1.2
        rw [if_pos h0, hx, hq, Int.toNat_natCast, hx]
        simp only [Option.map_some, Option.getD_some]
        refine ⟨?_, by rw [h4]; simp⟩
        unfold ptAt
        rw [if_neg (by simp [h1, h2, h.1.2]), if_pos h4]
    · cases h
theorem agrN (k : Nat) (h : agrAt (pH s0 n) (cH a b s0 s1 s2 n) (shfX (rlH a b)) k = false) : pt (pH s0 n) (cH a b s0 s1 s2 n) (shfX (rlH a b)) k = 0 := by
  unfold agrAt at h
  unfold pt
  split
  · rename_i h0
    split at h
    · rename_i hx; rw [hx]
    · rename_i x hx
      rw [if_pos h0] at h
      split at h
      · rename_i hq; rw [hx, hq]
      · rename_i q hq
        rw [hx, hq]
        simp only
        refine ptAt_zero ?_
        obtain ⟨h1, h2, h3⟩ := slotH a b s0 s1 s2 n hx h0 hq
        rw [h1, h2] at h
        simp at h
        exact .inr (.inr h)
  · rfl
theorem scoreH : ∀ k, scoreTo (pH s0 n) (cH a b s0 s1 s2 n) (shfX (rlH a b)) k = ((agrTo (pH s0 n) (cH a b s0 s1 s2 n) (shfX (rlH a b)) k).length : Int)
  | 0 => rfl
  | k + 1 => by
    rw [scoreTo, scoreH k, agrTo, List.length_append]
    cases h : agrAt (pH s0 n) (cH a b s0 s1 s2 n) (shfX (rlH a b)) k
    · rw [agrN a b s0 s1 s2 n k h]; simp
    · rw [(agrH a b s0 s1 s2 n k h).1]; simp
theorem snc0 (l : List Pls) (c : List Clk) (s : Int) (m : Nat) : sncL (agrTo l c s m) 0 = agrTo l c s m := by
  unfold sncL
  refine List.filter_eq_self.2 fun x hx => ?_
  rw [agrTo_iv] at hx
  obtain ⟨i, h1, _, h3⟩ := iv_mem hx
  obtain ⟨rfl, _⟩ := agrG_mem h3
  simpa using h1
/-- All that the law needs of an honest transmission: p the pulses, c the clicks, s the shift. -/
theorem honest {s : Int} (hs : shfX (rlH a b) = s) (hs1 : -16 ≤ s) (hs2 : s ≤ 16) (hn : n ≤ 4096) :
    ∃ (p : List Pls) (c : List Clk) (K : List Int) (m : List Bool) (best most : Int), p = pH s0 n ∧ c = cH a b s0 s1 s2 n ∧ p.length = n ∧ c.length = n ∧
      alignV p c 0 = (best, 0) ∧ agrV p c best = (most, 0) ∧ agrV p c s = ((K.length : Int), 0) ∧ (K.length : Int) ≤ most ∧ most ≤ 4096 ∧ -16 ≤ best ∧ best ≤ 16 ∧ K.length ≤ n ∧ m.length = K.length ∧
      annE c s 0 n = 0 ∧ matE p (annL c s 0 n) 0 = 0 ∧ matL p (annL c s 0 n) 0 = K ∧ sntE p K = 0 ∧ sntL p K = m ∧ rcvE c s K = 0 ∧ rcvL c s K = m := by
  have hp : allE Pls.ok (pH s0 n) = 0 := allE_zero.2 ⟨by rw [pH_len]; omega, emX_ok _ _ _⟩
  have hc : allE Clk.ok (cH a b s0 s1 s2 n) = 0 := allE_zero.2 ⟨by rw [cH_len]; omega, detX_ok _ _ _ _ _ _⟩
  have hb : bothE (pH s0 n) (cH a b s0 s1 s2 n) = 0 := by unfold bothE; simp [hp, hc]
  have hsc : scS (pH s0 n) (cH a b s0 s1 s2 n) s = ((agrTo (pH s0 n) (cH a b s0 s1 s2 n) s n).length : Int) := by
    have := scoreH a b s0 s1 s2 n n
    unfold scS
    rw [pH_len, ← hs]; exact this
  have hmost := best_most (pH s0 n) (cH a b s0 s1 s2 n) hs1 hs2
  have hbd := bestF_bd (pH s0 n) (cH a b s0 s1 s2 n) (shTo 16)
  have hbw : ∀ x : Int, -16 ≤ x → x ≤ 16 → betwB x (-16) 16 = true := fun x h1 h2 => by simp [betwB]; omega
  obtain ⟨e1, e2, e3, e4, e5, e6, e7⟩ := ends_plain (pH s0 n) (cH a b s0 s1 s2 n) s 0 n hp hc (pH_len _ _) (cH_len _ _ _ _ _ _) (hbw s hs1 hs2) (Nat.zero_le _)
  have hz : sncL (agrTo (pH s0 n) (cH a b s0 s1 s2 n) s n) ((0 : Nat) : Int) = agrTo (pH s0 n) (cH a b s0 s1 s2 n) s n := snc0 _ _ _ _
  rw [hz] at e3 e4 e5 e6 e7
  have hle := agrTo_le (pH s0 n) (cH a b s0 s1 s2 n) s n
  have hmx : scS (pH s0 n) (cH a b s0 s1 s2 n) (bestF (pH s0 n) (cH a b s0 s1 s2 n) (shTo 16)) ≤ 4096 := by
    have := (scoreTo_bd (pH s0 n) (cH a b s0 s1 s2 n) (bestF (pH s0 n) (cH a b s0 s1 s2 n) (shTo 16)) (pH s0 n).length).2
    unfold scS; rw [pH_len] at this ⊢; omega
  refine ⟨_, _, agrTo (pH s0 n) (cH a b s0 s1 s2 n) s n, _, _, _, rfl, rfl, pH_len _ _, cH_len _ _ _ _ _ _, ?_, ?_, ?_, ?_, hmx, hbd.1, hbd.2, hle, ?_, e1, e2, e3, e4, e5, e6, ?_⟩
  · unfold alignV
    rw [if_neg (by simp [hb]), if_neg (by simp [betwB]), if_neg (by omega)]
  · unfold agrV
    rw [if_neg (by simp [hb]), if_neg (by rw [hbw _ hbd.1 hbd.2]; simp)]
  · unfold agrV
    rw [if_neg (by simp [hb]), if_neg (by rw [hbw _ hs1 hs2]; simp), hsc]
  · rw [← hsc]; exact hmost
  · exact List.length_map _
  · rw [e7]
    refine List.map_congr_left fun x hx => ?_
    have hx2 : x ∈ sncL (agrTo (pH s0 n) (cH a b s0 s1 s2 n) s n) ((0 : Nat) : Int) := by rw [hz]; exact hx
    obtain ⟨k, rfl, _, hk, ha⟩ := snc_mem (Nat.zero_le _) hx2
    have := (agrH a b s0 s1 s2 n k (by rw [hs]; exact ha)).2
    rw [hs] at this
    unfold difB at this
    simpa using (bne_eq_false_iff_eq.1 this).symm
end

end Go.Proofs.YteoaaphjbggobaaGreat

namespace Go.Proofs.YteoaaphjbggobaaGreat
open Go.RowKit
set_option linter.unusedVariables false
set_option linter.unusedSimpArgs false

theorem rs_length {s n k : Nat} (hk : k ≤ n) (hn : n ≤ 512) : (rsL s n k).length = n - k := by
  have hE : smE n k = 0 := by unfold smE betwB; simp; omega
  have hR : rsL s n k = rstL (smpL s n k) n := by unfold rsL; rw [if_pos hE]; simp
  have := (up_parts (smpL_nodup s n k) (fun x hx => smpL_mem hx)).length_eq
  rw [List.length_append, smpL_len hk, upL_len] at this
  rw [hR]; omega
theorem seen_same (a : List Bool) (k : Int) (s : Nat) : seenN a a k s = 0 := by
  unfold seenN cntL
  rw [List.length_eq_zero_iff, List.filter_eq_nil_iff]
  intro x hx
  unfold pickL at hx
  obtain ⟨i, _, rfl⟩ := List.mem_map.1 hx
  unfold xorL
  rw [List.getD_eq_getElem?_getD, List.getElem?_zipWith]
  cases a[i.toNat]? with
  | none => simp
  | some y => cases y <;> simp

/-- The fractions 1/100 and 0. -/
theorem hon_test {a : List Bool} {N k s : Nat} (ha : a.length = N) (hk : k ≤ N) (hN : N ≤ 512) (A1 A2 A3 A4 : Option Addr) (c1 c2 c3 c4 : Nat) :
    ∃ bd : Int, 0 ≤ bd ∧ bd ≤ 512 ∧ tstE a a k s ⟨A1, c1, [1], A2, c2, [100]⟩ ⟨A3, c3, [], A4, c4, [1]⟩ = 0 ∧ tstV a a k s ⟨A1, c1, [1], A2, c2, [100]⟩ ⟨A3, c3, [], A4, c4, [1]⟩ = .agg #[.int .i64 N, .int .i64 k, .int .i64 0, .int .i64 bd, .int .i64 bd] ∧
      tstP a a a k s ⟨A1, c1, [1], A2, c2, [100]⟩ ⟨A3, c3, [], A4, c4, [1]⟩ = pickL a (rsL s N k) ∧ (pickL a (rsL s N k)).length = N - k := by
  have hE : smE N k = 0 := by unfold smE betwB; simp; omega
  have v1 : validE [⟨A1, c1, [1], A2, c2, [100]⟩] = 0 := validE_zero.2 ⟨by simp [Frc.lng], by simp [Frc.zro, V, valB]⟩
  have v2 : validE [⟨A3, c3, [], A4, c4, [1]⟩] = 0 := validE_zero.2 ⟨by simp [Frc.lng], by simp [Frc.zro, V, valB]⟩
  have hTE := test_case a a k s N ⟨A1, c1, [1], A2, c2, [100]⟩ ⟨A3, c3, [], A4, c4, [1]⟩ ha ha hE
  rw [seen_same] at hTE
  have hB : boundE N k ((0 : Nat) : Int) ⟨A1, c1, [1], A2, c2, [100]⟩ = 0 := (boundE4 v1 (by omega) (by simp [V, valB])).1
  have hJ : judgeE k ((0 : Nat) : Int) ⟨A3, c3, [], A4, c4, [1]⟩ = 0 := by
    by_cases h0 : (k : Int) = 0
    · exact judgeE3 v2 (by omega) h0
    · rw [judgeE4 v2 (by omega) h0, if_neg (by simp)]
  rw [hB, if_neg (by simp), hJ] at hTE
  have hbd := bound_ok hB
  refine ⟨boundI N k ((0 : Nat) : Int) ⟨A1, c1, [1], A2, c2, [100]⟩, by omega, by omega, hTE, ?_, ?_, ?_⟩
  · unfold tstV
    rw [hTE, if_pos rfl, ha, seen_same]
    unfold rateV
    rw [if_pos hB]
    simp
  · unfold tstP
    rw [hTE, if_pos rfl, ha]
  · rw [pick_len, rs_length hk hN]

end Go.Proofs.YteoaaphjbggobaaGreat
