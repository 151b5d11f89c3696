/- Contract of exact's choose. For binomials of at most 512 things. Contract of exact's ways. For at most 512 things. Contracts of exact's valid, sane, CheckFrac. For numbers of at most a million limbs. Contract of exact's Bound. For any three numbers, a fraction of at most a million limbs. Contracts of exact's Bound for any numbers, of sift's Rate and Judge. For fractions of at most 900000 limbs. Contract of sift's Judge. For a limit of at most 900000 limbs. -/
import Derived.Test.YtfolgmcoggejbaaGreatNumAll
import Derived.Deep.DeepCutAuto
import Derived.Test.YtfolgmcoggejbaaGreatChk
import Derived.Laws.ResultCell
namespace Go.Proofs.YtfolgmcoggejbaaGreat
open Go.RowKit
set_option linter.unusedVariables false
set_option linter.unusedSimpArgs false

set_option maxRecDepth 100000 in
set_option maxHeartbeats 2000000 in
theorem choose_any (n k : Nat) (w : World) (hn : n ≤ 512) (hk : k ≤ 1000000) :
    Calls Tryz.prog 154 #[.int .i64 n, .int .i64 k] w fun e w' => ∃ v, e = .returned v ∧ Big w' w.heap.size v (ch n k) ∧ Below w.heap.size w w' := by
  by_cases hkn : n < k
  · have h0 : ch n k = 0 := ch_gt hkn
    rw [h0]
    go_enter Tryz.func154, Tryz.ntmps154
    go_wp2
    go_ret
    exact ⟨_, rfl, by unfold Big limbs; rw [digB_zero]; exact Own.nil, Below.refl _ _⟩
  obtain ⟨M, hM, hMs, hMc⟩ : ∃ M : Nat, M ≤ n ∧ ch n M = ch n k ∧ (k ≤ n - k ∧ M = k ∨ n - k < k ∧ M = n - k) := by
    rcases Nat.lt_or_ge (n - k) k with h | h
    · exact ⟨n - k, by omega, ch_symm (by omega), .inr ⟨h, rfl⟩⟩
    · exact ⟨k, by omega, rfl, .inl ⟨h, rfl⟩⟩
  rw [← hMs]
  clear hMs
  obtain ⟨d, hd⟩ : ∃ d : Nat, (n : Int) - (k : Int) = (d : Int) := ⟨n - k, by omega⟩
  have hMc' : k ≤ d ∧ M = k ∨ d < k ∧ M = d := by omega
  have g1 : decide (n < k) = false := by simp; omega
  have g2 : decide ((k : Int) < 0) = false := by simp
  clear hMc
  rcases hMc' with ⟨h1, h2⟩ | ⟨h1, h2⟩ <;> subst h2
  all_goals (
    go_enter Tryz.func154, Tryz.ntmps154
    go_wp2
    have hMi : M ≤ 512 := by omega
    go_loopw [5, 20] (fun v i wr => ∃ j : Nat, j ≤ M ∧ i = .int .i64 j ∧ Big wr w.heap.size v (ch n j) ∧ Below w.heap.size w wr) (fun _ i _ => M - (intOf i).toNat)
    case atStart => exact ⟨0, Nat.zero_le _, rfl, by rw [ch_zero]; exact big_lit w w.heap.size 1 (by decide) (by decide) (Nat.le_refl _), below_alloc (Below.refl _ _) _⟩
    case round =>
      obtain ⟨j, hj, rfl, big, hb⟩ := hrel
      by_cases hlt : j < M
      · obtain ⟨A1, c1, rfl, nt1⟩ := big.nt
        have cN := next_any A1 c1 _ n j wr nt1 (by have := ch_len (n := n) (k := j) hn; omega) (by omega) (by omega)
        rw [V_limbs, ch_div] at cN
        go_wp2_with (go_at_call 57; refine cN.mono ?_; rintro e' w5 ⟨v, rfl, big5, hb5⟩)
        go_roundw
        case rel => first | exact ⟨j + 1, by omega, by go_num, big5.down hb.size, hb.trans (hb5.mono hb.size)⟩ | ((repeat apply Exists.intro); exact ⟨⟨j + 1, by omega, by go_num, big5.down hb.size, hb.trans (hb5.mono hb.size)⟩, rfl⟩)
        case measure => (simp [intOf] <;> omega)
      · obtain rfl : j = M := by omega
        go_wp2
        go_ret
        exact ⟨_, rfl, big, hb⟩)

end Go.Proofs.YtfolgmcoggejbaaGreat

namespace Go.Proofs.YtfolgmcoggejbaaGreat
open Go.RowKit
set_option linter.unusedVariables false
set_option linter.unusedSimpArgs false

/-- The number of sets that hold i bad things. -/
def wterm (total bad sample i : Nat) : Nat := ch bad i * ch (total - bad) (sample - i)
theorem ways_sum (total bad sample seen : Nat) : waysN total bad sample seen = sumTo (wterm total bad sample) (seen + 1) := rfl
theorem wterm_low {total bad sample i : Nat} (h : total - bad < sample - i) : wterm total bad sample i = 0 := by unfold wterm; rw [ch_gt h]; rfl
theorem wterm_high {total bad sample i : Nat} (h : bad < i) : wterm total bad sample i = 0 := by unfold wterm; rw [ch_gt h, Nat.zero_mul]
theorem sum_low {total bad sample F : Nat} (h : F = sample - (total - bad)) : sumTo (wterm total bad sample) F = 0 := sumTo_zero fun i hi => wterm_low (by omega)
theorem sum_all {total bad sample seen M : Nat} (h : seen ≤ bad ∧ M = seen ∨ bad < seen ∧ M = bad) : sumTo (wterm total bad sample) (M + 1) = waysN total bad sample seen := by
  rw [ways_sum]
  rcases h with ⟨_, rfl⟩ | ⟨h, rfl⟩
  · rfl
  · exact (sumTo_stop _ (by omega) fun i hi => wterm_high (by omega)).symm
theorem sum_none {total bad sample seen F M : Nat} (hF : F = sample - (total - bad)) (h : seen ≤ bad ∧ M = seen ∨ bad < seen ∧ M = bad) (hlt : M < F) : waysN total bad sample seen = 0 := by
  rw [← sum_all h]
  refine sumTo_zero fun i hi => wterm_low (by omega)
theorem limbs_mul (a b : Nat) : (limbs (a * b)).length ≤ (limbs a).length + (limbs b).length := by
  refine digB_len_le b32 ?_
  rw [Nat.pow_add]
  exact Nat.mul_lt_mul'' (digB_lt b32 a) (digB_lt b32 b)
theorem big_zero (w : World) (base : Nat) : Big w base (.slice none 0 0) 0 := by unfold Big limbs; rw [digB_zero]; exact Own.nil
theorem ways_len {total bad sample seen k : Nat} (hb : bad ≤ total) (ht : total ≤ 512) (hk : k ≤ 513) : (limbs (sumTo (wterm total bad sample) k)).length ≤ 17 := by
  have h := ways_le (total := total) (bad := bad) (sample := sample) (seen := k) hb
  rw [ways_sum] at h
  have h1 : sumTo (wterm total bad sample) k ≤ sumTo (wterm total bad sample) (k + 1) := sumTo_mono _ (by omega)
  refine limbs_len (m := total + 10) ?_ (by omega)
  have h2 : (k + 1) * 2 ^ total < 1024 * 2 ^ total := Nat.mul_lt_mul_of_pos_right (by omega) (Nat.pow_pos (by decide))
  rw [Nat.pow_add, Nat.mul_comm (2 ^ total)]
  change _ < 1024 * 2 ^ total
  omega

set_option maxRecDepth 100000 in
set_option maxHeartbeats 8000000 in
theorem ways_any (total bad sample seen : Nat) (w : World) (ht : total ≤ 512) (hb : bad ≤ total) (hs : sample ≤ total) (hse : seen ≤ sample) :
    Calls Tryz.prog 156 #[.int .i64 total, .int .i64 bad, .int .i64 sample, .int .i64 seen] w fun e w' => ∃ v, e = .returned v ∧ Big w' w.heap.size v (waysN total bad sample seen) ∧ Below w.heap.size w w' := by
  obtain ⟨N, hN⟩ : ∃ N : Nat, (total : Int) - (bad : Int) = (N : Int) := ⟨total - bad, by omega⟩
  obtain ⟨F, hF⟩ : ∃ F, F = sample - (total - bad) := ⟨_, rfl⟩
  obtain ⟨M, hM⟩ : ∃ M, seen ≤ bad ∧ M = seen ∨ bad < seen ∧ M = bad := by
    rcases Nat.lt_or_ge bad seen with h | h
    · exact ⟨_, .inr ⟨h, rfl⟩⟩
    · exact ⟨_, .inl ⟨h, rfl⟩⟩
  have hNe : Hid (N = total - bad) := Lib.hid (by omega)
  have fF : Hid (sumTo (wterm total bad sample) F = 0) := Lib.hid (sum_low hF)
  have fM : Hid (sumTo (wterm total bad sample) (M + 1) = waysN total bad sample seen) := Lib.hid (sum_all hM)
  have f0 : Hid (M < F → waysN total bad sample seen = 0) := Lib.hid (sum_none hF hM)
  have hF2 : (sample : Int) - (N : Int) = (F : Int) ∧ N < sample ∨ sample ≤ N ∧ F = 0 := by omega
  have HF := Lib.hid hF
  clear hF
  rcases hF2 with ⟨hf1, hf2⟩ | ⟨hf1, rfl⟩ <;> rcases hM with ⟨hm1, hm2⟩ | ⟨hm1, hm2⟩ <;> subst hm2
  · by_cases hFM : M < F
    · rw [f0.out hFM]
      go_enter Tryz.func156, Tryz.ntmps156
      go_wp2_with fail
      go_ret
      exact ⟨_, rfl, big_zero _ _, Below.refl _ _⟩
    · obtain ⟨G, hG⟩ : ∃ G : Nat, (sample : Int) - (F : Int) = (G : Int) := ⟨sample - F, by omega⟩
      have hGe : Hid (G = sample - F) := Lib.hid (by omega)
      have hFs : F ≤ sample := by omega
      have hMi : M ≤ 512 := by omega
      go_enter Tryz.func156, Tryz.ntmps156
      go_wp2_with fail
      refine (choose_any bad F _ (by omega) (by omega)).mono ?_
      rintro e w1 ⟨va, rfl, ba, hb1⟩
      go_wp2_with fail
      refine (choose_any N G _ (by omega) (by omega)).mono ?_
      rintro e w2 ⟨vb, rfl, bb, hb2⟩
      go_wp2_with fail
      go_loopw [9, 11, 12, 13] (fun vs va vb i wr => ∃ j : Nat, F ≤ j ∧ j ≤ M + 1 ∧ i = .int .i64 j ∧ Big wr w.heap.size vs (sumTo (wterm total bad sample) j) ∧ Big wr w.heap.size va (ch bad j) ∧ Big wr w.heap.size vb (ch N (sample - j)) ∧ Below w.heap.size w wr) (fun _ _ _ i _ => M + 1 - (intOf i).toNat)
      case atStart => exact ⟨F, Nat.le_refl _, by omega, rfl, by rw [fF.out]; exact big_zero _ _, ba.below hb2, by rw [← hGe.out]; exact bb.down hb1.size, below_trans hb1 hb2⟩
      case round =>
        obtain ⟨j, hj1, hj2, rfl, bs, ba3, bb3, hb3⟩ := hrel
        clear ba bb
        by_cases hlt : j ≤ M
        · obtain ⟨As, cs, rfl, ns⟩ := bs.nt
          obtain ⟨Aa, ca, rfl, na⟩ := ba3.nt
          obtain ⟨Ab, cb, rfl, nb⟩ := bb3.nt
          have la := ch_len (n := bad) (k := j) (by omega)
          have lb := ch_len (n := N) (k := sample - j) (by omega)
          have ls := ways_len (total := total) (bad := bad) (sample := sample) (seen := 0) (k := j) hb ht (by omega)
          have hjN : Hid (sample - j ≤ N) := Lib.hid (by have := HF.out; have := hNe.out; omega)
          have hst : Hid (sumTo (wterm total bad sample) j + ch bad j * ch N (sample - j) = sumTo (wterm total bad sample) (j + 1)) := Lib.hid (by rw [hNe.out]; rfl)
          have c1 := times_any Aa ca _ Ab cb _ wr na nb (by omega) (by omega)
          rw [V_limbs, V_limbs] at c1
          go_wp2_with fail
          refine c1.mono ?_
          rintro e w4 ⟨v4, rfl, b4, hb4⟩
          obtain ⟨A4, c4, hv4, n4⟩ := b4.nt
          rw [hv4]
          have l4 : (limbs (ch bad j * ch N (sample - j))).length ≤ 1000000 := by
            have := limbs_mul (ch bad j) (ch N (sample - j)); omega
          have c2 := plus_any As cs _ A4 c4 _ w4 (ns.on hb4) n4 (by omega) l4
          rw [V_limbs, V_limbs, hst.out] at c2
          go_wp2_with fail
          refine c2.mono ?_
          rintro e w5 ⟨v5, rfl, b5, hb5⟩
          have q5 := below_trans hb4 hb5
          have c3 := next_any Aa ca _ bad j w5 (na.on q5) (by omega) (by omega) (by omega)
          rw [V_limbs, ch_div] at c3
          go_wp2_with fail
          refine c3.mono ?_
          rintro e w6 ⟨v6, rfl, b6, hb6⟩
          have q6 := below_trans q5 hb6
          have r6 := hb3.trans (q6.mono hb3.size)
          have s6 : wr.heap.size ≤ w5.heap.size := q5.size
          have s3 := hb3.size
          have s4 := hb4.size
          clear c1 c2 c3 hv4
          by_cases hjs : j < sample
          · obtain ⟨g, hg⟩ : ∃ g : Nat, (sample : Int) - (j : Int) = (g : Int) := ⟨sample - j, by omega⟩
            have hge : Hid (g = sample - j) := Lib.hid (by omega)
            have hg0 : 0 < g := by omega
            have hgN : g ≤ N := by have := hjN.out; omega
            obtain ⟨d, hd⟩ : ∃ d : Nat, (N : Int) - (g : Int) + 1 = (d : Int) := ⟨N - g + 1, by omega⟩
            have hde : Hid (d = N - (g - 1) ∧ g - 1 < N ∧ g = g - 1 + 1 ∧ sample - (j + 1) = g - 1) := Lib.hid (by have := hge.out; omega)
            have g2 : (g : Int) % 4294967296 = (g : Int) := by omega
            have d2 : (d : Int) % 4294967296 = (d : Int) := by omega
            have hd0 : 0 < d := by omega
            have hd1 : d < 4294967296 := by omega
            have hg1 : g < 4294967296 := by omega
            rw [← hge.out] at nb lb
            have hbA := below_alloc q6 (.cells #[.int .u32 (g : Int)] 117)
            have c7 := times_any Ab cb _ _ 1 [g] _ (nb.on hbA) (nt_one w6 g 117 hg1) (by omega) (by simp)
            rw [V_limbs, V_one, List.length_singleton] at c7
            have HlenB : Hid ((limbs (ch N (sample - j))).length = (limbs (ch N g)).length) := Lib.hid (by rw [hge.out])
            rw [HlenB.out]
            go_wp2_with fail
            refine c7.mono ?_
            rintro e w7 ⟨v7, rfl, b7, hb7⟩
            obtain ⟨A7, c7', hv7, n7⟩ := b7.nt
            rw [hv7]
            have l7 : (limbs (ch N g * g)).length ≤ 1000000 := by
              have := limbs_mul (ch N g) g; have := limbs_len (n := g) (k := 1) (m := 32) hg1 (by omega); omega
            have q7 := below_trans hbA hb7
            have c8 := split_any A7 c7' _ _ 1 [d] _ (n7.on (below_alloc (Below.refl _ _) (.cells #[.int .u32 (d : Int)] 117))) (nt_one w7 d 117 hd1) l7 (by simp) (by rw [V_one]; exact hd0)
            rw [V_one, List.length_singleton, V_limbs] at c8
            have ed : ch N g * g / d = ch N (sample - (j + 1)) := by
              obtain ⟨h1, h2, h3, h4⟩ := hde.out
              rw [h1, h4]
              conv => lhs; rw [h3]
              simp only [Nat.add_sub_cancel]
              exact ch_back h2
            rw [ed] at c8
            go_wp2_with fail
            refine c8.mono ?_
            rintro e w8 ⟨v8, v9, rfl, b8, b9, hb8⟩
            have q8 := below_trans (below_alloc q7 (.cells #[.int .u32 (d : Int)] 117)) hb8
            have t6 : Below w6.heap.size w6 w8 := below_trans (below_alloc (below_trans (below_alloc (Below.refl _ _) _) hb7) _) hb8
            have t5 : Below w5.heap.size w5 w8 := below_trans hb6 t6
            have s7 : w.heap.size ≤ w7.heap.size := by have := q7.size; omega
            clear c7 c8 hv7 ed
            go_wp2_with fail
            go_roundw
            case rel => first | exact ⟨j + 1, by omega, by omega, by go_num, (b5.below t5).down (by omega), (b6.below t6).down (by omega), b8.down (by simp; omega), hb3.trans (q8.mono hb3.size)⟩ | ((repeat apply Exists.intro); exact ⟨⟨j + 1, by omega, by omega, by go_num, (b5.below t5).down (by omega), (b6.below t6).down (by omega), b8.down (by simp; omega), hb3.trans (q8.mono hb3.size)⟩, rfl⟩)
            case measure => (simp [intOf] <;> omega)
          · obtain rfl : j = sample := by omega
            have hg : (j : Int) - (j : Int) = 0 := by omega
            have e0 : j - (j + 1) = j - j := by omega
            go_wp2_with fail
            go_roundw
            case rel => first | exact ⟨j + 1, by omega, by omega, by go_num, (b5.below hb6).down (by omega), b6.down (by omega), by have := bb3.below q6; rw [Nat.sub_self] at this; rw [e0, Nat.sub_self]; exact this, r6⟩ | ((repeat apply Exists.intro); exact ⟨⟨j + 1, by omega, by omega, by go_num, (b5.below hb6).down (by omega), b6.down (by omega), by have := bb3.below q6; rw [Nat.sub_self] at this; rw [e0, Nat.sub_self]; exact this, r6⟩, rfl⟩)
            case measure => (simp [intOf] <;> omega)
        · obtain rfl : j = M + 1 := by omega
          go_wp2_with fail
          go_ret
          exact ⟨_, rfl, by rw [← fM.out]; exact bs, hb3⟩
  · by_cases hFM : M < F
    · exfalso; omega
    · obtain ⟨G, hG⟩ : ∃ G : Nat, (sample : Int) - (F : Int) = (G : Int) := ⟨sample - F, by omega⟩
      have hGe : Hid (G = sample - F) := Lib.hid (by omega)
      have hFs : F ≤ sample := by omega
      have hMi : M ≤ 512 := by omega
      go_enter Tryz.func156, Tryz.ntmps156
      go_wp2_with fail
      refine (choose_any M F _ (by omega) (by omega)).mono ?_
      rintro e w1 ⟨va, rfl, ba, hb1⟩
      go_wp2_with fail
      refine (choose_any N G _ (by omega) (by omega)).mono ?_
      rintro e w2 ⟨vb, rfl, bb, hb2⟩
      go_wp2_with fail
      go_loopw [9, 11, 12, 13] (fun vs va vb i wr => ∃ j : Nat, F ≤ j ∧ j ≤ M + 1 ∧ i = .int .i64 j ∧ Big wr w.heap.size vs (sumTo (wterm total M sample) j) ∧ Big wr w.heap.size va (ch M j) ∧ Big wr w.heap.size vb (ch N (sample - j)) ∧ Below w.heap.size w wr) (fun _ _ _ i _ => M + 1 - (intOf i).toNat)
      case atStart => exact ⟨F, Nat.le_refl _, by omega, rfl, by rw [fF.out]; exact big_zero _ _, ba.below hb2, by rw [← hGe.out]; exact bb.down hb1.size, below_trans hb1 hb2⟩
      case round =>
        obtain ⟨j, hj1, hj2, rfl, bs, ba3, bb3, hb3⟩ := hrel
        clear ba bb
        by_cases hlt : j ≤ M
        · obtain ⟨As, cs, rfl, ns⟩ := bs.nt
          obtain ⟨Aa, ca, rfl, na⟩ := ba3.nt
          obtain ⟨Ab, cb, rfl, nb⟩ := bb3.nt
          have la := ch_len (n := M) (k := j) (by omega)
          have lb := ch_len (n := N) (k := sample - j) (by omega)
          have ls := ways_len (total := total) (bad := M) (sample := sample) (seen := 0) (k := j) hb ht (by omega)
          have hjN : Hid (sample - j ≤ N) := Lib.hid (by have := HF.out; have := hNe.out; omega)
          have hst : Hid (sumTo (wterm total M sample) j + ch M j * ch N (sample - j) = sumTo (wterm total M sample) (j + 1)) := Lib.hid (by rw [hNe.out]; rfl)
          have c1 := times_any Aa ca _ Ab cb _ wr na nb (by omega) (by omega)
          rw [V_limbs, V_limbs] at c1
          go_wp2_with fail
          refine c1.mono ?_
          rintro e w4 ⟨v4, rfl, b4, hb4⟩
          obtain ⟨A4, c4, hv4, n4⟩ := b4.nt
          rw [hv4]
          have l4 : (limbs (ch M j * ch N (sample - j))).length ≤ 1000000 := by
            have := limbs_mul (ch M j) (ch N (sample - j)); omega
          have c2 := plus_any As cs _ A4 c4 _ w4 (ns.on hb4) n4 (by omega) l4
          rw [V_limbs, V_limbs, hst.out] at c2
          go_wp2_with fail
          refine c2.mono ?_
          rintro e w5 ⟨v5, rfl, b5, hb5⟩
          have q5 := below_trans hb4 hb5
          have c3 := next_any Aa ca _ M j w5 (na.on q5) (by omega) (by omega) (by omega)
          rw [V_limbs, ch_div] at c3
          go_wp2_with fail
          refine c3.mono ?_
          rintro e w6 ⟨v6, rfl, b6, hb6⟩
          have q6 := below_trans q5 hb6
          have r6 := hb3.trans (q6.mono hb3.size)
          have s6 : wr.heap.size ≤ w5.heap.size := q5.size
          have s3 := hb3.size
          have s4 := hb4.size
          clear c1 c2 c3 hv4
          by_cases hjs : j < sample
          · obtain ⟨g, hg⟩ : ∃ g : Nat, (sample : Int) - (j : Int) = (g : Int) := ⟨sample - j, by omega⟩
            have hge : Hid (g = sample - j) := Lib.hid (by omega)
            have hg0 : 0 < g := by omega
            have hgN : g ≤ N := by have := hjN.out; omega
            obtain ⟨d, hd⟩ : ∃ d : Nat, (N : Int) - (g : Int) + 1 = (d : Int) := ⟨N - g + 1, by omega⟩
            have hde : Hid (d = N - (g - 1) ∧ g - 1 < N ∧ g = g - 1 + 1 ∧ sample - (j + 1) = g - 1) := Lib.hid (by have := hge.out; omega)
            have g2 : (g : Int) % 4294967296 = (g : Int) := by omega
            have d2 : (d : Int) % 4294967296 = (d : Int) := by omega
            have hd0 : 0 < d := by omega
            have hd1 : d < 4294967296 := by omega
            have hg1 : g < 4294967296 := by omega
            rw [← hge.out] at nb lb
            have hbA := below_alloc q6 (.cells #[.int .u32 (g : Int)] 117)
            have c7 := times_any Ab cb _ _ 1 [g] _ (nb.on hbA) (nt_one w6 g 117 hg1) (by omega) (by simp)
            rw [V_limbs, V_one, List.length_singleton] at c7
            have HlenB : Hid ((limbs (ch N (sample - j))).length = (limbs (ch N g)).length) := Lib.hid (by rw [hge.out])
            rw [HlenB.out]
            go_wp2_with fail
            refine c7.mono ?_
            rintro e w7 ⟨v7, rfl, b7, hb7⟩
            obtain ⟨A7, c7', hv7, n7⟩ := b7.nt
            rw [hv7]
            have l7 : (limbs (ch N g * g)).length ≤ 1000000 := by
              have := limbs_mul (ch N g) g; have := limbs_len (n := g) (k := 1) (m := 32) hg1 (by omega); omega
            have q7 := below_trans hbA hb7
            have c8 := split_any A7 c7' _ _ 1 [d] _ (n7.on (below_alloc (Below.refl _ _) (.cells #[.int .u32 (d : Int)] 117))) (nt_one w7 d 117 hd1) l7 (by simp) (by rw [V_one]; exact hd0)
            rw [V_one, List.length_singleton, V_limbs] at c8
            have ed : ch N g * g / d = ch N (sample - (j + 1)) := by
              obtain ⟨h1, h2, h3, h4⟩ := hde.out
              rw [h1, h4]
              conv => lhs; rw [h3]
              simp only [Nat.add_sub_cancel]
              exact ch_back h2
            rw [ed] at c8
            go_wp2_with fail
            refine c8.mono ?_
            rintro e w8 ⟨v8, v9, rfl, b8, b9, hb8⟩
            have q8 := below_trans (below_alloc q7 (.cells #[.int .u32 (d : Int)] 117)) hb8
            have t6 : Below w6.heap.size w6 w8 := below_trans (below_alloc (below_trans (below_alloc (Below.refl _ _) _) hb7) _) hb8
            have t5 : Below w5.heap.size w5 w8 := below_trans hb6 t6
            have s7 : w.heap.size ≤ w7.heap.size := by have := q7.size; omega
            clear c7 c8 hv7 ed
            go_wp2_with fail
            go_roundw
            case rel => first | exact ⟨j + 1, by omega, by omega, by go_num, (b5.below t5).down (by omega), (b6.below t6).down (by omega), b8.down (by simp; omega), hb3.trans (q8.mono hb3.size)⟩ | ((repeat apply Exists.intro); exact ⟨⟨j + 1, by omega, by omega, by go_num, (b5.below t5).down (by omega), (b6.below t6).down (by omega), b8.down (by simp; omega), hb3.trans (q8.mono hb3.size)⟩, rfl⟩)
            case measure => (simp [intOf] <;> omega)
          · obtain rfl : j = sample := by omega
            have hg : (j : Int) - (j : Int) = 0 := by omega
            have e0 : j - (j + 1) = j - j := by omega
            go_wp2_with fail
            go_roundw
            case rel => first | exact ⟨j + 1, by omega, by omega, by go_num, (b5.below hb6).down (by omega), b6.down (by omega), by have := bb3.below q6; rw [Nat.sub_self] at this; rw [e0, Nat.sub_self]; exact this, r6⟩ | ((repeat apply Exists.intro); exact ⟨⟨j + 1, by omega, by omega, by go_num, (b5.below hb6).down (by omega), b6.down (by omega), by have := bb3.below q6; rw [Nat.sub_self] at this; rw [e0, Nat.sub_self]; exact this, r6⟩, rfl⟩)
            case measure => (simp [intOf] <;> omega)
        · obtain rfl : j = M + 1 := by omega
          go_wp2_with fail
          go_ret
          exact ⟨_, rfl, by rw [← fM.out]; exact bs, hb3⟩
  · have hGe : Hid (sample = sample - 0) := Lib.hid rfl
    have hMi : M ≤ 512 := by omega
    go_enter Tryz.func156, Tryz.ntmps156
    go_wp2_with fail
    refine (choose_any bad 0 _ (by omega) (by omega)).mono ?_
    rintro e w1 ⟨va, rfl, ba, hb1⟩
    go_wp2_with fail
    refine (choose_any N sample _ (by omega) (by omega)).mono ?_
    rintro e w2 ⟨vb, rfl, bb, hb2⟩
    go_wp2_with fail
    go_loopw [9, 11, 12, 13] (fun vs va vb i wr => ∃ j : Nat, 0 ≤ j ∧ j ≤ M + 1 ∧ i = .int .i64 j ∧ Big wr w.heap.size vs (sumTo (wterm total bad sample) j) ∧ Big wr w.heap.size va (ch bad j) ∧ Big wr w.heap.size vb (ch N (sample - j)) ∧ Below w.heap.size w wr) (fun _ _ _ i _ => M + 1 - (intOf i).toNat)
    case atStart => exact ⟨0, Nat.le_refl _, by omega, rfl, by rw [fF.out]; exact big_zero _ _, ba.below hb2, by rw [← hGe.out]; exact bb.down hb1.size, below_trans hb1 hb2⟩
    case round =>
      obtain ⟨j, hj1, hj2, rfl, bs, ba3, bb3, hb3⟩ := hrel
      clear ba bb
      by_cases hlt : j ≤ M
      · obtain ⟨As, cs, rfl, ns⟩ := bs.nt
        obtain ⟨Aa, ca, rfl, na⟩ := ba3.nt
        obtain ⟨Ab, cb, rfl, nb⟩ := bb3.nt
        have la := ch_len (n := bad) (k := j) (by omega)
        have lb := ch_len (n := N) (k := sample - j) (by omega)
        have ls := ways_len (total := total) (bad := bad) (sample := sample) (seen := 0) (k := j) hb ht (by omega)
        have hjN : Hid (sample - j ≤ N) := Lib.hid (by have := HF.out; have := hNe.out; omega)
        have hst : Hid (sumTo (wterm total bad sample) j + ch bad j * ch N (sample - j) = sumTo (wterm total bad sample) (j + 1)) := Lib.hid (by rw [hNe.out]; rfl)
        have c1 := times_any Aa ca _ Ab cb _ wr na nb (by omega) (by omega)
        rw [V_limbs, V_limbs] at c1
        go_wp2_with fail
        refine c1.mono ?_
        rintro e w4 ⟨v4, rfl, b4, hb4⟩
        obtain ⟨A4, c4, hv4, n4⟩ := b4.nt
        rw [hv4]
        have l4 : (limbs (ch bad j * ch N (sample - j))).length ≤ 1000000 := by
          have := limbs_mul (ch bad j) (ch N (sample - j)); omega
        have c2 := plus_any As cs _ A4 c4 _ w4 (ns.on hb4) n4 (by omega) l4
        rw [V_limbs, V_limbs, hst.out] at c2
        go_wp2_with fail
        refine c2.mono ?_
        rintro e w5 ⟨v5, rfl, b5, hb5⟩
        have q5 := below_trans hb4 hb5
        have c3 := next_any Aa ca _ bad j w5 (na.on q5) (by omega) (by omega) (by omega)
        rw [V_limbs, ch_div] at c3
        go_wp2_with fail
        refine c3.mono ?_
        rintro e w6 ⟨v6, rfl, b6, hb6⟩
        have q6 := below_trans q5 hb6
        have r6 := hb3.trans (q6.mono hb3.size)
        have s6 : wr.heap.size ≤ w5.heap.size := q5.size
        have s3 := hb3.size
        have s4 := hb4.size
        clear c1 c2 c3 hv4
        by_cases hjs : j < sample
        · obtain ⟨g, hg⟩ : ∃ g : Nat, (sample : Int) - (j : Int) = (g : Int) := ⟨sample - j, by omega⟩
          have hge : Hid (g = sample - j) := Lib.hid (by omega)
          have hg0 : 0 < g := by omega
          have hgN : g ≤ N := by have := hjN.out; omega
          obtain ⟨d, hd⟩ : ∃ d : Nat, (N : Int) - (g : Int) + 1 = (d : Int) := ⟨N - g + 1, by omega⟩
          have hde : Hid (d = N - (g - 1) ∧ g - 1 < N ∧ g = g - 1 + 1 ∧ sample - (j + 1) = g - 1) := Lib.hid (by have := hge.out; omega)
          have g2 : (g : Int) % 4294967296 = (g : Int) := by omega
          have d2 : (d : Int) % 4294967296 = (d : Int) := by omega
          have hd0 : 0 < d := by omega
          have hd1 : d < 4294967296 := by omega
          have hg1 : g < 4294967296 := by omega
          rw [← hge.out] at nb lb
          have hbA := below_alloc q6 (.cells #[.int .u32 (g : Int)] 117)
          have c7 := times_any Ab cb _ _ 1 [g] _ (nb.on hbA) (nt_one w6 g 117 hg1) (by omega) (by simp)
          rw [V_limbs, V_one, List.length_singleton] at c7
          have HlenB : Hid ((limbs (ch N (sample - j))).length = (limbs (ch N g)).length) := Lib.hid (by rw [hge.out])
          rw [HlenB.out]
          go_wp2_with fail
          refine c7.mono ?_
          rintro e w7 ⟨v7, rfl, b7, hb7⟩
          obtain ⟨A7, c7', hv7, n7⟩ := b7.nt
          rw [hv7]
          have l7 : (limbs (ch N g * g)).length ≤ 1000000 := by
            have := limbs_mul (ch N g) g; have := limbs_len (n := g) (k := 1) (m := 32) hg1 (by omega); omega
          have q7 := below_trans hbA hb7
          have c8 := split_any A7 c7' _ _ 1 [d] _ (n7.on (below_alloc (Below.refl _ _) (.cells #[.int .u32 (d : Int)] 117))) (nt_one w7 d 117 hd1) l7 (by simp) (by rw [V_one]; exact hd0)
          rw [V_one, List.length_singleton, V_limbs] at c8
          have ed : ch N g * g / d = ch N (sample - (j + 1)) := by
            obtain ⟨h1, h2, h3, h4⟩ := hde.out
            rw [h1, h4]
            conv => lhs; rw [h3]
            simp only [Nat.add_sub_cancel]
            exact ch_back h2
          rw [ed] at c8
          go_wp2_with fail
          refine c8.mono ?_
          rintro e w8 ⟨v8, v9, rfl, b8, b9, hb8⟩
          have q8 := below_trans (below_alloc q7 (.cells #[.int .u32 (d : Int)] 117)) hb8
          have t6 : Below w6.heap.size w6 w8 := below_trans (below_alloc (below_trans (below_alloc (Below.refl _ _) _) hb7) _) hb8
          have t5 : Below w5.heap.size w5 w8 := below_trans hb6 t6
          have s7 : w.heap.size ≤ w7.heap.size := by have := q7.size; omega
          clear c7 c8 hv7 ed
          go_wp2_with fail
          go_roundw
          case rel => first | exact ⟨j + 1, by omega, by omega, by go_num, (b5.below t5).down (by omega), (b6.below t6).down (by omega), b8.down (by simp; omega), hb3.trans (q8.mono hb3.size)⟩ | ((repeat apply Exists.intro); exact ⟨⟨j + 1, by omega, by omega, by go_num, (b5.below t5).down (by omega), (b6.below t6).down (by omega), b8.down (by simp; omega), hb3.trans (q8.mono hb3.size)⟩, rfl⟩)
          case measure => (simp [intOf] <;> omega)
        · obtain rfl : j = sample := by omega
          have hg : (j : Int) - (j : Int) = 0 := by omega
          have e0 : j - (j + 1) = j - j := by omega
          go_wp2_with fail
          go_roundw
          case rel => first | exact ⟨j + 1, by omega, by omega, by go_num, (b5.below hb6).down (by omega), b6.down (by omega), by have := bb3.below q6; rw [Nat.sub_self] at this; rw [e0, Nat.sub_self]; exact this, r6⟩ | ((repeat apply Exists.intro); exact ⟨⟨j + 1, by omega, by omega, by go_num, (b5.below hb6).down (by omega), b6.down (by omega), by have := bb3.below q6; rw [Nat.sub_self] at this; rw [e0, Nat.sub_self]; exact this, r6⟩, rfl⟩)
          case measure => (simp [intOf] <;> omega)
      · obtain rfl : j = M + 1 := by omega
        go_wp2_with fail
        go_ret
        exact ⟨_, rfl, by rw [← fM.out]; exact bs, hb3⟩
  · have hGe : Hid (sample = sample - 0) := Lib.hid rfl
    have hMi : M ≤ 512 := by omega
    go_enter Tryz.func156, Tryz.ntmps156
    go_wp2_with fail
    refine (choose_any M 0 _ (by omega) (by omega)).mono ?_
    rintro e w1 ⟨va, rfl, ba, hb1⟩
    go_wp2_with fail
    refine (choose_any N sample _ (by omega) (by omega)).mono ?_
    rintro e w2 ⟨vb, rfl, bb, hb2⟩
    go_wp2_with fail
    go_loopw [9, 11, 12, 13] (fun vs va vb i wr => ∃ j : Nat, 0 ≤ j ∧ j ≤ M + 1 ∧ i = .int .i64 j ∧ Big wr w.heap.size vs (sumTo (wterm total M sample) j) ∧ Big wr w.heap.size va (ch M j) ∧ Big wr w.heap.size vb (ch N (sample - j)) ∧ Below w.heap.size w wr) (fun _ _ _ i _ => M + 1 - (intOf i).toNat)
    case atStart => exact ⟨0, Nat.le_refl _, by omega, rfl, by rw [fF.out]; exact big_zero _ _, ba.below hb2, by rw [← hGe.out]; exact bb.down hb1.size, below_trans hb1 hb2⟩
    case round =>
      obtain ⟨j, hj1, hj2, rfl, bs, ba3, bb3, hb3⟩ := hrel
      clear ba bb
      by_cases hlt : j ≤ M
      · obtain ⟨As, cs, rfl, ns⟩ := bs.nt
        obtain ⟨Aa, ca, rfl, na⟩ := ba3.nt
        obtain ⟨Ab, cb, rfl, nb⟩ := bb3.nt
        have la := ch_len (n := M) (k := j) (by omega)
        have lb := ch_len (n := N) (k := sample - j) (by omega)
        have ls := ways_len (total := total) (bad := M) (sample := sample) (seen := 0) (k := j) hb ht (by omega)
        have hjN : Hid (sample - j ≤ N) := Lib.hid (by have := HF.out; have := hNe.out; omega)
        have hst : Hid (sumTo (wterm total M sample) j + ch M j * ch N (sample - j) = sumTo (wterm total M sample) (j + 1)) := Lib.hid (by rw [hNe.out]; rfl)
        have c1 := times_any Aa ca _ Ab cb _ wr na nb (by omega) (by omega)
        rw [V_limbs, V_limbs] at c1
        go_wp2_with fail
        refine c1.mono ?_
        rintro e w4 ⟨v4, rfl, b4, hb4⟩
        obtain ⟨A4, c4, hv4, n4⟩ := b4.nt
        rw [hv4]
        have l4 : (limbs (ch M j * ch N (sample - j))).length ≤ 1000000 := by
          have := limbs_mul (ch M j) (ch N (sample - j)); omega
        have c2 := plus_any As cs _ A4 c4 _ w4 (ns.on hb4) n4 (by omega) l4
        rw [V_limbs, V_limbs, hst.out] at c2
        go_wp2_with fail
        refine c2.mono ?_
        rintro e w5 ⟨v5, rfl, b5, hb5⟩
        have q5 := below_trans hb4 hb5
        have c3 := next_any Aa ca _ M j w5 (na.on q5) (by omega) (by omega) (by omega)
        rw [V_limbs, ch_div] at c3
        go_wp2_with fail
        refine c3.mono ?_
        rintro e w6 ⟨v6, rfl, b6, hb6⟩
        have q6 := below_trans q5 hb6
        have r6 := hb3.trans (q6.mono hb3.size)
        have s6 : wr.heap.size ≤ w5.heap.size := q5.size
        have s3 := hb3.size
        have s4 := hb4.size
        clear c1 c2 c3 hv4
        by_cases hjs : j < sample
        · obtain ⟨g, hg⟩ : ∃ g : Nat, (sample : Int) - (j : Int) = (g : Int) := ⟨sample - j, by omega⟩
          have hge : Hid (g = sample - j) := Lib.hid (by omega)
          have hg0 : 0 < g := by omega
          have hgN : g ≤ N := by have := hjN.out; omega
          obtain ⟨d, hd⟩ : ∃ d : Nat, (N : Int) - (g : Int) + 1 = (d : Int) := ⟨N - g + 1, by omega⟩
          have hde : Hid (d = N - (g - 1) ∧ g - 1 < N ∧ g = g - 1 + 1 ∧ sample - (j + 1) = g - 1) := Lib.hid (by have := hge.out; omega)
          have g2 : (g : Int) % 4294967296 = (g : Int) := by omega
          have d2 : (d : Int) % 4294967296 = (d : Int) := by omega
          have hd0 : 0 < d := by omega
          have hd1 : d < 4294967296 := by omega
          have hg1 : g < 4294967296 := by omega
          rw [← hge.out] at nb lb
          have hbA := below_alloc q6 (.cells #[.int .u32 (g : Int)] 117)
          have c7 := times_any Ab cb _ _ 1 [g] _ (nb.on hbA) (nt_one w6 g 117 hg1) (by omega) (by simp)
          rw [V_limbs, V_one, List.length_singleton] at c7
          have HlenB : Hid ((limbs (ch N (sample - j))).length = (limbs (ch N g)).length) := Lib.hid (by rw [hge.out])
          rw [HlenB.out]
          go_wp2_with fail
          refine c7.mono ?_
          rintro e w7 ⟨v7, rfl, b7, hb7⟩
          obtain ⟨A7, c7', hv7, n7⟩ := b7.nt
          rw [hv7]
          have l7 : (limbs (ch N g * g)).length ≤ 1000000 := by
            have := limbs_mul (ch N g) g; have := limbs_len (n := g) (k := 1) (m := 32) hg1 (by omega); omega
          have q7 := below_trans hbA hb7
          have c8 := split_any A7 c7' _ _ 1 [d] _ (n7.on (below_alloc (Below.refl _ _) (.cells #[.int .u32 (d : Int)] 117))) (nt_one w7 d 117 hd1) l7 (by simp) (by rw [V_one]; exact hd0)
          rw [V_one, List.length_singleton, V_limbs] at c8
          have ed : ch N g * g / d = ch N (sample - (j + 1)) := by
            obtain ⟨h1, h2, h3, h4⟩ := hde.out
            rw [h1, h4]
            conv => lhs; rw [h3]
            simp only [Nat.add_sub_cancel]
            exact ch_back h2
          rw [ed] at c8
          go_wp2_with fail
          refine c8.mono ?_
          rintro e w8 ⟨v8, v9, rfl, b8, b9, hb8⟩
          have q8 := below_trans (below_alloc q7 (.cells #[.int .u32 (d : Int)] 117)) hb8
          have t6 : Below w6.heap.size w6 w8 := below_trans (below_alloc (below_trans (below_alloc (Below.refl _ _) _) hb7) _) hb8
          have t5 : Below w5.heap.size w5 w8 := below_trans hb6 t6
          have s7 : w.heap.size ≤ w7.heap.size := by have := q7.size; omega
          clear c7 c8 hv7 ed
          go_wp2_with fail
          go_roundw
          case rel => first | exact ⟨j + 1, by omega, by omega, by go_num, (b5.below t5).down (by omega), (b6.below t6).down (by omega), b8.down (by simp; omega), hb3.trans (q8.mono hb3.size)⟩ | ((repeat apply Exists.intro); exact ⟨⟨j + 1, by omega, by omega, by go_num, (b5.below t5).down (by omega), (b6.below t6).down (by omega), b8.down (by simp; omega), hb3.trans (q8.mono hb3.size)⟩, rfl⟩)
          case measure => (simp [intOf] <;> omega)
        · obtain rfl : j = sample := by omega
          have hg : (j : Int) - (j : Int) = 0 := by omega
          have e0 : j - (j + 1) = j - j := by omega
          go_wp2_with fail
          go_roundw
          case rel => first | exact ⟨j + 1, by omega, by omega, by go_num, (b5.below hb6).down (by omega), b6.down (by omega), by have := bb3.below q6; rw [Nat.sub_self] at this; rw [e0, Nat.sub_self]; exact this, r6⟩ | ((repeat apply Exists.intro); exact ⟨⟨j + 1, by omega, by omega, by go_num, (b5.below hb6).down (by omega), b6.down (by omega), by have := bb3.below q6; rw [Nat.sub_self] at this; rw [e0, Nat.sub_self]; exact this, r6⟩, rfl⟩)
          case measure => (simp [intOf] <;> omega)
      · obtain rfl : j = M + 1 := by omega
        go_wp2_with fail
        go_ret
        exact ⟨_, rfl, by rw [← fM.out]; exact bs, hb3⟩

end Go.Proofs.YtfolgmcoggejbaaGreat

namespace Go.Proofs.YtfolgmcoggejbaaGreat
open Go.RowKit
set_option linter.unusedVariables false
set_option linter.unusedSimpArgs false

/-- A fraction as it lies: two slices and what they read as. -/
structure Frc where
  A : Option Addr
  c : Nat
  l : List Nat
  C : Option Addr
  d : Nat
  m : List Nat
def Frc.num (f : Frc) : Value := .slice f.A f.l.length f.c
def Frc.den (f : Frc) : Value := .slice f.C f.m.length f.d
def Frc.enc (f : Frc) : List Value := [f.num, f.den]
def Frc.val (f : Frc) : Value := .agg #[.slice f.A f.l.length f.c, .slice f.C f.m.length f.d]
theorem Frc.enc_len (f : Frc) : f.enc.length = 2 := rfl
structure Frc.In (f : Frc) (w : World) : Prop where
  n : Nt w f.A f.c f.l
  d : Nt w f.C f.d f.m
theorem Frc.In.on {f : Frc} {w w' : World} (h : f.In w) (hb : Below w.heap.size w w') : f.In w' := ⟨h.n.on hb, h.d.on hb⟩
def Frc.lng (f : Frc) : Bool := decide (64 < f.l.length ∨ 64 < f.m.length)
def Frc.zro (f : Frc) : Bool := decide (V f.m = 0)
/-- The error of some fractions. -/
def validE (fs : List Frc) : Int := if fs.any Frc.lng then 4 else if fs.any Frc.zro then 7 else 0
theorem Arr.frc {w w' : World} {B : Nat} {A : Option Addr} {k : Nat} {l : List Frc} (h : Arr 2 Frc.enc w B A l) (hk : k < l.length) (hb : Below B w w') :
    ∃ b off f, A = some ⟨b, off, none⟩ ∧ b < B ∧ Hid (l[k]? = some f) ∧ w'.cell? ⟨b, off + k * 2, none⟩ = some (.slice f.A f.l.length f.c) ∧ w'.cell? ⟨b, off + k * 2 + 1, none⟩ = some (.slice f.C f.m.length f.d) := by
  obtain ⟨b, off, rfl, hbb, hc⟩ := h.get hk hb
  exact ⟨b, off, _, rfl, hbb, List.getElem?_eq_getElem hk, hc 0 _ rfl, hc 1 _ rfl⟩
theorem any_take {α : Type} {p : α → Bool} {l : List α} {k : Nat} {x : α} (hx : l[k]? = some x) (h : (l.take k).any p = false) (ho : p x = false) : (l.take (k+1)).any p = false := by
  rw [take_snoc hx, List.any_append, h]; simp [ho]
theorem any_yes {α : Type} {p : α → Bool} {l : List α} {k : Nat} {x : α} (hx : l[k]? = some x) (ho : p x = true) : l.any p = true := by
  rw [List.any_eq_true]; exact ⟨x, List.mem_of_getElem? hx, ho⟩
theorem lng_mem {fs : List Frc} {k : Nat} {f : Frc} (hk : fs[k]? = some f) (h : fs.any Frc.lng = false) : f.l.length ≤ 64 ∧ f.m.length ≤ 64 := by
  rw [List.any_eq_false] at h
  have := h f (List.mem_of_getElem? hk)
  unfold Frc.lng at this
  simp at this
  omega
theorem validE_zero {fs : List Frc} : validE fs = 0 ↔ fs.any Frc.lng = false ∧ fs.any Frc.zro = false := by
  unfold validE
  cases h1 : fs.any Frc.lng <;> cases h2 : fs.any Frc.zro <;> simp
theorem short1 {f : Frc} (h : validE [f] = 0) : f.l.length ≤ 64 ∧ f.m.length ≤ 64 := lng_mem (k := 0) rfl (validE_zero.1 h).1
theorem short2 {f g : Frc} (h : validE [f, g] = 0) : f.l.length ≤ 64 ∧ f.m.length ≤ 64 ∧ g.l.length ≤ 64 ∧ g.m.length ≤ 64 := by
  have h1 := lng_mem (f := f) (k := 0) rfl (validE_zero.1 h).1
  have h2 := lng_mem (f := g) (k := 1) rfl (validE_zero.1 h).1
  omega
theorem lng_iff {f : Frc} : f.lng = false ↔ long2E f.l f.m = 0 := by
  unfold Frc.lng; rw [long2E_zero, decide_eq_false_iff_not]; omega

set_option maxRecDepth 100000 in
set_option maxHeartbeats 2000000 in
theorem valid_any (B : Option Addr) (n : Nat) (fs : List Frc) (w : World) (h : Arr 2 Frc.enc w w.heap.size B fs) (hf : ∀ (k : Nat) (f : Frc), fs[k]? = some f → f.In w) (hl : fs.length ≤ 1000) :
    Calls Tryz.prog 151 #[.slice B fs.length n] w fun e w' => e = .returned (.int .i64 (validE fs)) ∧ Below w.heap.size w w' := by
  go_enter Tryz.func151, Tryz.ntmps151
  go_wp2
  go_loopw [10] (fun i wr => ∃ k : Nat, k ≤ fs.length ∧ i = .int .i64 k ∧ (fs.take k).any Frc.lng = false ∧ Below w.heap.size w wr) (fun i _ => fs.length - (intOf i).toNat)
  case atStart => exact ⟨0, Nat.zero_le _, rfl, by simp, Below.refl _ _⟩
  case round =>
    obtain ⟨k, hk, rfl, hall, hb⟩ := hrel
    have Hall := Lib.hid hall; clear hall
    by_cases hlt : k < fs.length
    · obtain ⟨b, off, f, rfl, hbb, hq, c0, c1⟩ := h.frc hlt hb
      have hin := (hf _ _ hq.out).on hb
      have hs := hb.size
      cases hlg : f.lng
      · have h0 := lng_iff.1 hlg
        have Hl := Lib.hid hlg
        clear hlg
        go_wp2_with (go_at_call 205; refine (check_any _ _ f.l _ _ f.m _).mono ?_; rintro e w' ⟨rfl, rfl⟩; rw [h0])
        go_roundw
        case rel => exact ⟨k + 1, by omega, by go_num, any_take hq.out Hall.out Hl.out, below_alloc hb _⟩
        case measure => (simp [intOf] <;> omega)
      · have h0 : (long2E f.l f.m != 0) = true := by
          cases h0 : (long2E f.l f.m != 0) with
          | true => rfl
          | false => have := lng_iff.2 (by simpa using h0); rw [hlg] at this; cases this
        have h1 : Hid (validE fs = long2E f.l f.m) := Lib.hid (by
          unfold validE; rw [if_pos (any_yes hq.out hlg)]
          have h2 : ¬ long2E f.l f.m = 0 := by simpa using h0
          unfold long2E at h2 ⊢; split at h2 <;> simp_all)
        clear hlg
        go_wp2_with (go_at_call 205; refine (check_any _ _ f.l _ _ f.m _).mono ?_; rintro e w' ⟨rfl, rfl⟩)
        go_ret
        exact ⟨ret_int (by rw [h1.out]), below_alloc hb _⟩
    · obtain rfl : k = fs.length := by omega
      have Hlong : Hid (fs.any Frc.lng = false) := Lib.hid (by have := Hall.out; rwa [List.take_length] at this)
      go_wp2
      go_loopw [25] (fun i wr' => ∃ k : Nat, k ≤ fs.length ∧ i = .int .i64 k ∧ (fs.take k).any Frc.zro = false ∧ Below w.heap.size w wr') (fun i _ => fs.length - (intOf i).toNat)
      case atStart => exact ⟨0, Nat.zero_le _, rfl, by simp, hb⟩
      case round =>
        obtain ⟨k, hk, rfl, hall, hb2⟩ := hrel
        have Hall2 := Lib.hid hall; clear hall
        by_cases hlt : k < fs.length
        · obtain ⟨b, off, f, rfl, hbb, hq, c0, c1⟩ := h.frc hlt hb2
          have hin := (hf _ _ hq.out).on (below_alloc hb2 (.cells #[f.num, f.den] 33))
          have hs := hb2.size
          have hlm := (lng_mem hq.out Hlong.out).2
          by_cases hz : V f.m = 0
          · have hfin : Hid (validE fs = 7) := Lib.hid (by
              unfold validE; rw [Hlong.out, any_yes hq.out (by unfold Frc.zro; simp [hz])]; rfl)
            have e0 : bitLen (V f.m) = 0 := by rw [hz]; exact bitLen_zero
            clear hz
            go_wp2_with (go_at_call 59; refine (size_any _ _ f.m _ hin.d (by omega)).mono ?_; rintro e w' ⟨rfl, rfl⟩; rw [e0])
            go_ret
            exact ⟨ret_int (by rw [hfin.out]), below_alloc hb2 _⟩
          · have e0 : ((bitLen (V f.m) : Int) == 0) = false := by
              have := bitLen_pos (Nat.pos_of_ne_zero hz)
              simp; omega
            have Hz : Hid (f.zro = false) := Lib.hid (by unfold Frc.zro; simp [hz])
            clear hz
            go_wp2_with (go_at_call 59; refine (size_any _ _ f.m _ hin.d (by omega)).mono ?_; rintro e w' ⟨rfl, rfl⟩)
            go_roundw
            case rel => exact ⟨k + 1, by omega, by go_num, any_take hq.out Hall2.out Hz.out, below_alloc hb2 _⟩
            case measure => (simp [intOf] <;> omega)
        · obtain rfl : k = fs.length := by omega
          go_wp2
          go_ret
          exact ⟨ret_int (by unfold validE; have := Hall2.out; rw [List.take_length] at this; rw [Hlong.out, this]; rfl), hb2⟩

theorem frc_lit (w : World) (f : Frc) {b : Nat} (hb : b = w.heap.size) : Arr 2 Frc.enc (w.alloc (.cells #[.slice f.A f.l.length f.c, .slice f.C f.m.length f.d] 33)) (w.alloc (.cells #[.slice f.A f.l.length f.c, .slice f.C f.m.length f.d] 33)).heap.size (some ⟨b, 0, none⟩) [f] := by
  subst hb; exact arr_lit w [f] _ _ rfl Frc.enc_len
theorem frc_lit2 (w : World) (f g : Frc) {b : Nat} (hb : b = w.heap.size) : Arr 2 Frc.enc (w.alloc (.cells #[.slice f.A f.l.length f.c, .slice f.C f.m.length f.d, .slice g.A g.l.length g.c, .slice g.C g.m.length g.d] 33)) (w.alloc (.cells #[.slice f.A f.l.length f.c, .slice f.C f.m.length f.d, .slice g.A g.l.length g.c, .slice g.C g.m.length g.d] 33)).heap.size (some ⟨b, 0, none⟩) [f, g] := by
  subst hb; exact arr_lit w [f, g] _ _ rfl Frc.enc_len
theorem in_one {f : Frc} {w w' : World} (h : f.In w) (hb : Below w.heap.size w w') : ∀ (k : Nat) (x : Frc), [f][k]? = some x → x.In w' := by
  intro k x hx
  have := List.mem_of_getElem? hx
  simp at this; subst this; exact h.on hb
theorem in_two {f g : Frc} {w w' : World} (h : f.In w) (h' : g.In w) (hb : Below w.heap.size w w') : ∀ (k : Nat) (x : Frc), [f, g][k]? = some x → x.In w' := by
  intro k x hx
  have := List.mem_of_getElem? hx
  simp at this
  rcases this with rfl | rfl
  · exact h.on hb
  · exact h'.on hb

set_option maxRecDepth 100000 in
set_option maxHeartbeats 400000 in
theorem CheckFrac_any (f : Frc) (w : World) (h : f.In w) :
    Calls Tryz.prog 101 #[f.val] w fun e w' => e = .returned (.int .i64 (validE [f])) ∧ Below w.heap.size w w' := by
  unfold Frc.val
  have hb0 := below_alloc (below_alloc (Below.refl w.heap.size w) (.cells #[.slice f.A f.l.length f.c, .slice f.C f.m.length f.d] 33)) (.cells #[.slice f.A f.l.length f.c, .slice f.C f.m.length f.d] 33)
  have cV := valid_any (some ⟨w.heap.size + 1, 0, none⟩) 1 [f] _ (frc_lit (w.alloc (.cells #[.slice f.A f.l.length f.c, .slice f.C f.m.length f.d] 33)) f (by simp)) (in_one h hb0) (by simp)
  rw [List.length_singleton] at cV
  go_enter Tryz.func101, Tryz.ntmps101
  go_wp2_with (go_at_call 151; refine (cV).mono ?_; rintro e w3 ⟨rfl, hb3⟩)
  go_ret
  exact ⟨rfl, below_trans hb0 hb3⟩

set_option maxHeartbeats 400000 in
theorem sane_any (n p : Int) (w : World) :
    Calls Tryz.prog 152 #[.int .i64 n, .int .i64 p] w fun e w' => e = .returned (.bool (decide (0 ≤ n ∧ n ≤ 512 ∧ 0 ≤ p ∧ p ≤ n))) ∧ w = w' := by
  go_enter Tryz.func152, Tryz.ntmps152
  go_wp2
  all_goals (go_ret; exact ⟨ret_bool (by rw [Bool.eq_iff_iff]; simp; try omega), rfl⟩)

set_option maxRecDepth 100000 in
set_option maxHeartbeats 4000000 in
theorem cross_any (f g : Frc) (w : World) (hf : f.In w) (hg : g.In w) (a1 : f.l.length ≤ 900000) (a2 : f.m.length ≤ 900000) (a3 : g.l.length ≤ 900000) (a4 : g.m.length ≤ 900000) :
    Calls Tryz.prog 157 #[f.val, g.val] w fun e w' => ∃ v1 v2, e = .returned (.tuple #[v1, v2]) ∧ Big w' w.heap.size v1 (V f.l * V g.m) ∧ Big w' w.heap.size v2 (V g.l * V f.m) ∧ Below w.heap.size w w' := by
  unfold Frc.val
  have hb0 := below_alloc (below_alloc (Below.refl w.heap.size w) (.cells #[.slice f.A f.l.length f.c, .slice f.C f.m.length f.d] 33)) (.cells #[.slice g.A g.l.length g.c, .slice g.C g.m.length g.d] 33)
  go_enter Tryz.func157, Tryz.ntmps157
  go_wp2_with fail
  generalize hW : (w.alloc (.cells #[.slice f.A f.l.length f.c, .slice f.C f.m.length f.d] 33)).alloc (.cells #[.slice g.A g.l.length g.c, .slice g.C g.m.length g.d] 33) = W at *
  have k0 : W.cell? ⟨w.heap.size, 0, none⟩ = some (.slice f.A f.l.length f.c) := by subst hW; go_simp
  have k1 : W.cell? ⟨w.heap.size, 1, none⟩ = some (.slice f.C f.m.length f.d) := by subst hW; go_simp
  have k2 : W.cell? ⟨w.heap.size + 1, 0, none⟩ = some (.slice g.A g.l.length g.c) := by subst hW; go_simp
  have k3 : W.cell? ⟨w.heap.size + 1, 1, none⟩ = some (.slice g.C g.m.length g.d) := by subst hW; go_simp
  clear hW
  have c1 := fun w' (hb : Below w.heap.size w w') => times_any f.A f.c f.l g.C g.d g.m w' (hf.on hb).n (hg.on hb).d (by omega) (by omega)
  have c2 := fun w' (hb : Below w.heap.size w w') => times_any g.A g.c g.l f.C f.d f.m w' (hg.on hb).n (hf.on hb).d (by omega) (by omega)
  go_region_held3 (fun w' => Below w.heap.size w w' ∧ w'.cell? ⟨w.heap.size, 0, none⟩ = some (.slice f.A f.l.length f.c) ∧ w'.cell? ⟨w.heap.size, 1, none⟩ = some (.slice f.C f.m.length f.d) ∧ w'.cell? ⟨w.heap.size + 1, 0, none⟩ = some (.slice g.A g.l.length g.c) ∧ w'.cell? ⟨w.heap.size + 1, 1, none⟩ = some (.slice g.C g.m.length g.d))
    (first | (exact ⟨hb0.drew, k0, k1, k2, k3⟩) | (go_split_ands; exact ⟨below_trans (by assumption) hx1, bel_cell hx1 (by assumption), bel_cell hx1 (by assumption), bel_cell hx1 (by assumption), bel_cell hx1 (by assumption)⟩) | (go_split_ands; exact ⟨below_trans (by assumption) hx2, bel_cell hx2 (by assumption), bel_cell hx2 (by assumption), bel_cell hx2 (by assumption), bel_cell hx2 (by assumption)⟩))
    (first | (go_at_call 121; refine Calls.on (args' := #[.slice f.A f.l.length f.c, .slice g.C g.m.length g.d]) rfl ?_; refine (c1 _ (by go_split_ands; assumption)).mono ?_; rintro e y1 ⟨v1, rfl, b1, hx1⟩) | (go_at_call 121; refine Calls.on (args' := #[.slice g.A g.l.length g.c, .slice f.C f.m.length f.d]) rfl ?_; refine (c2 _ (by go_split_ands; assumption)).mono ?_; rintro e y2 ⟨v2, rfl, b2, hx2⟩))
  go_wp2
  go_ret2
  have q1 := below_trans hb0.drew hx1
  exact ⟨_, _, rfl, (b1.below hx2).down hb0.size, b2.down q1.size, below_trans q1 hx2⟩

def fcmpI (f g : Frc) : Int := if validE [f, g] = 0 then cmpI (V f.l * V g.m) (V g.l * V f.m) else 0
set_option maxRecDepth 100000 in
set_option maxHeartbeats 2000000 in
theorem FracCompare_any (f g : Frc) (w : World) (hf : f.In w) (hg : g.In w) :
    Calls Tryz.prog 102 #[f.val, g.val] w fun e w' => e = .returned (.tuple #[.int .i64 (fcmpI f g), .int .i64 (validE [f, g])]) ∧ Below w.heap.size w w' := by
  have hb1 := below_alloc (below_alloc (Below.refl w.heap.size w) (.cells #[.slice f.A f.l.length f.c, .slice f.C f.m.length f.d] 33)) (.cells #[.slice g.A g.l.length g.c, .slice g.C g.m.length g.d] 33)
  have hb0 := below_alloc hb1 (.cells #[.slice f.A f.l.length f.c, .slice f.C f.m.length f.d, .slice g.A g.l.length g.c, .slice g.C g.m.length g.d] 33)
  have cV := valid_any (some ⟨w.heap.size + 1 + 1, 0, none⟩) 2 [f, g] _ (frc_lit2 ((w.alloc (.cells #[.slice f.A f.l.length f.c, .slice f.C f.m.length f.d] 33)).alloc (.cells #[.slice g.A g.l.length g.c, .slice g.C g.m.length g.d] 33)) f g (by simp)) (in_two hf hg hb0) (by simp)
  have hlen2 : ([f, g] : List Frc).length = 2 := rfl
  rw [hlen2] at cV
  clear hlen2
  by_cases h0 : validE [f, g] = 0
  · have Hc : Hid (fcmpI f g = cmpI (V f.l * V g.m) (V g.l * V f.m)) := Lib.hid (by unfold fcmpI; rw [if_pos h0])
    rw [Hc.out]
    obtain ⟨s1, s2, s3, s4⟩ := short2 h0
    rw [h0] at cV ⊢
    unfold Frc.val
    clear h0
    go_enter Tryz.func102, Tryz.ntmps102
    go_wp2_with fail
    refine cV.mono ?_
    rintro e w3 ⟨rfl, hb3⟩
    have q3 := below_trans hb0 hb3
    have k0 : w3.cell? ⟨w.heap.size, 0, none⟩ = some (.slice f.A f.l.length f.c) := bel_cell hb3 (by go_simp)
    have k1 : w3.cell? ⟨w.heap.size, 1, none⟩ = some (.slice f.C f.m.length f.d) := bel_cell hb3 (by go_simp)
    have k2 : w3.cell? ⟨w.heap.size + 1, 0, none⟩ = some (.slice g.A g.l.length g.c) := bel_cell hb3 (by go_simp)
    have k3 : w3.cell? ⟨w.heap.size + 1, 1, none⟩ = some (.slice g.C g.m.length g.d) := bel_cell hb3 (by go_simp)
    go_wp2_with fail
    have cX := cross_any f g w3 (hf.on q3) (hg.on q3) (by omega) (by omega) (by omega) (by omega)
    unfold Frc.val at cX
    refine cX.mono ?_
    rintro e w4 ⟨v1, v2, rfl, b1, b2, hb4⟩
    obtain ⟨A1, c1, hv1, n1⟩ := b1.nt
    obtain ⟨A2, c2, hv2, n2⟩ := b2.nt
    rw [hv1, hv2]
    go_wp2_with fail
    have cO := order_any A1 c1 _ A2 c2 _ w4 n1.arr n2.arr n1.len n1.cap n2.len n2.cap n1.dig n2.dig
    rw [V_limbs, V_limbs] at cO
    refine cO.mono ?_
    rintro e w5 ⟨rfl, hb5⟩
    go_wp2_with fail
    go_ret2
    exact ⟨rfl, below_trans (below_trans q3 hb4) hb5⟩
  · have Hc : Hid (fcmpI f g = 0) := Lib.hid (by unfold fcmpI; rw [if_neg h0])
    rw [Hc.out]
    have h0' : (validE [f, g] != 0) = true := by simpa using h0
    clear h0
    unfold Frc.val
    go_enter Tryz.func102, Tryz.ntmps102
    go_wp2_with fail
    refine cV.mono ?_
    rintro e w3 ⟨rfl, hb3⟩
    go_wp2_with fail
    go_ret2
    exact ⟨rfl, below_trans hb0 hb3⟩

end Go.Proofs.YtfolgmcoggejbaaGreat

namespace Go.Proofs.YtfolgmcoggejbaaGreat
open Go.RowKit
set_option linter.unusedVariables false
set_option linter.unusedSimpArgs false

/-- The greatest number up to hi, from lo on, that a search by halves finds. -/
def bs (p : Nat → Bool) (lo hi : Nat) : Nat :=
  if h : lo < hi then (if p ((lo + hi + 1) / 2) = true then bs p ((lo + hi + 1) / 2) hi else bs p lo ((lo + hi + 1) / 2 - 1)) else lo
termination_by hi - lo
theorem bs_yes {p : Nat → Bool} {lo hi : Nat} (h : lo < hi) (hp : p ((lo + hi + 1) / 2) = true) : bs p lo hi = bs p ((lo + hi + 1) / 2) hi := by rw [bs, dif_pos h, if_pos hp]
theorem bs_no {p : Nat → Bool} {lo hi : Nat} (h : lo < hi) (hp : p ((lo + hi + 1) / 2) = false) : bs p lo hi = bs p lo ((lo + hi + 1) / 2 - 1) := by rw [bs, dif_pos h, if_neg (by simp [hp])]
theorem bs_end {p : Nat → Bool} {lo hi : Nat} (h : hi ≤ lo) : bs p lo hi = lo := by rw [bs, dif_neg (by omega)]
theorem bs_between {p : Nat → Bool} {lo hi : Nat} (h : lo ≤ hi) : lo ≤ bs p lo hi ∧ bs p lo hi ≤ hi := by
  obtain ⟨n, hn⟩ : ∃ n, hi - lo = n := ⟨_, rfl⟩
  induction n using Nat.strongRecOn generalizing lo hi with
  | ind n ih =>
    rcases Nat.lt_or_ge lo hi with hlt | hge
    · cases hp : p ((lo + hi + 1) / 2)
      · rw [bs_no hlt hp]
        have := ih (((lo + hi + 1) / 2 - 1) - lo) (by omega) (by omega) rfl
        omega
      · rw [bs_yes hlt hp]
        have := ih (hi - (lo + hi + 1) / 2) (by omega) (by omega) rfl
        omega
    · rw [bs_end hge]; omega

def possB (total sample seen num den : Nat) (bad : Nat) : Bool := decide (num * ch total sample < waysN total bad sample seen * den)
/-- The error of a bound. -/
def boundE (t s n : Int) (f : Frc) : Int := if validE [f] ≠ 0 then validE [f] else if ¬ (0 ≤ t ∧ t ≤ 512 ∧ 0 ≤ s ∧ s ≤ t ∧ 0 ≤ n ∧ n ≤ s) then 3 else if V f.m ≤ V f.l then 2 else 0
def boundI (t s n : Int) (f : Frc) : Int := if boundE t s n f = 0 then (bs (possB t.toNat s.toNat n.toNat (V f.l) (V f.m)) n.toNat t.toNat : Nat) else 0

theorem box_new {w y : World} {v : Value} {T : TypeId} (h : Below (w.alloc (.cells #[v] T)).heap.size (w.alloc (.cells #[v] T)) y) : y.cell? ⟨w.heap.size, 0, none⟩ = some v ∧ y.frozen? ⟨w.heap.size, 0, none⟩ = false :=
  ⟨bel_cell h (new_cell rfl), (h.frozen (p := ⟨w.heap.size, 0, none⟩) (by simp)).trans (World.frozen?_alloc_at _ _ _ _ rfl)⟩
theorem box_newd {w y : World} {v : Value} {T : TypeId} (h : Below (w.alloc (.cells #[v] T)).drew.heap.size (w.alloc (.cells #[v] T)).drew y) : y.cell? ⟨w.heap.size, 0, none⟩ = some v ∧ y.frozen? ⟨w.heap.size, 0, none⟩ = false :=
  ⟨bel_cell h (new_cell (w := w) rfl), (h.frozen (p := ⟨w.heap.size, 0, none⟩) (by simp)).trans (World.frozen?_alloc_at (w := w) _ _ _ _ rfl)⟩
theorem box_on {w y : World} {v : Value} {a : Addr} (h : Below w.heap.size w y) (hc : w.cell? a = some v ∧ w.frozen? a = false) : y.cell? a = some v ∧ y.frozen? a = false :=
  ⟨bel_cell h hc.1, (h.frozen (World.block_lt_of_cell? w a hc.1)).trans hc.2⟩
theorem cell_set {w : World} {g : Nat} {v : Value} (h : w.cell? ⟨g, 0, none⟩ = some v) (u : Value) : (w.setCell ⟨g, 0, none⟩ u).cell? ⟨g, 0, none⟩ = some u := by
  go_simp
theorem nt_set {w : World} {base : Nat} {v : Value} {A : Option Addr} {k c n g : Nat} (hv : v = .slice A k c) (b : Big w base v n) (hlt : g < base) (u : Value) : Nt (w.setCell ⟨g, 0, none⟩ u) A c (limbs n) := by
  subst hv
  exact own_nt2 (Own.keep_lt b (grown_set _ _ _ _) hlt) (limbs_dig _)
theorem cell_al {w : World} {a : Addr} {v : Value} (h : w.cell? a = some v) (o : Obj) : (w.alloc o).cell? a = some v := by
  rw [World.cell?_alloc_lt w o a (World.block_lt_of_cell? w a h)]; exact h

set_option maxRecDepth 100000 in
set_option maxHeartbeats 4000000 in
theorem Bound1_any (total sample seen bad L : Nat) (p0 p1 p2 p3 p4 : Nat) (f : Frc) (A : Option Addr) (c : Nat) (w : World) (hf : f.In w) (ht : total ≤ 512) (hs : sample ≤ total) (hn : seen ≤ sample) (hb : bad ≤ total)
    (k0 : w.cell? ⟨p0, 0, none⟩ = some (.int .i64 (total : Int))) (k1 : w.cell? ⟨p1, 0, none⟩ = some (.int .i64 (sample : Int))) (k2 : w.cell? ⟨p2, 0, none⟩ = some (.int .i64 (seen : Int))) (k3 : w.cell? ⟨p3, 1, none⟩ = some (.slice f.C f.m.length f.d))
    (k4 : w.cell? ⟨p4, 0, none⟩ = some (.slice A (limbs L).length c)) (hL : Nt w A c (limbs L)) (a2 : f.m.length ≤ 900000) :
    Calls Tryz.prog 155 #[.int .i64 bad, .pointer (some ⟨p0, 0, none⟩), .pointer (some ⟨p1, 0, none⟩), .pointer (some ⟨p2, 0, none⟩), .pointer (some ⟨p3, 0, none⟩), .pointer (some ⟨p4, 0, none⟩)] w
      fun e w' => e = .returned (.bool (decide (L < waysN total bad sample seen * V f.m))) ∧ Below w.heap.size w w' := by
  have lw : (limbs (waysN total bad sample seen)).length ≤ 17 := ways_len (seen := 0) hb ht (by omega)
  have c1 := fun w' => ways_any total bad sample seen w' ht hb hs hn
  have c2 := fun w' (hb : Below w.heap.size w w') A c (hn : Nt w' A c (limbs (waysN total bad sample seen))) => times_any A c _ f.C f.d f.m w' hn (hf.on hb).d (by omega) (by omega)
  have c3 := fun w' (hb : Below w.heap.size w w') A' c' (n1 : Nt w' A' c' (limbs (waysN total bad sample seen * V f.m))) => order_any A' c' _ A c _ w' n1.arr (hL.on hb).arr n1.len n1.cap (hL.on hb).len (hL.on hb).cap n1.dig (hL.on hb).dig
  simp only [V_limbs] at c2 c3
  have L0 := fun w' (hb : Below w.heap.size w w') => bel_cell hb k0
  have L1 := fun w' (hb : Below w.heap.size w w') => bel_cell hb k1
  have L2 := fun w' (hb : Below w.heap.size w w') => bel_cell hb k2
  have L3 := fun w' (hb : Below w.heap.size w w') => bel_cell hb k3
  have L4 := fun w' (hb : Below w.heap.size w w') => bel_cell hb k4
  go_enter Tryz.func155, Tryz.ntmps155
  go_wp2_with fail
  go_region_held3 (fun w' => Below w.heap.size w w')
    (first | (exact (Below.refl _ _).drew) | (refine below_trans ?_ hx1; assumption) | (refine below_trans ?_ hx2; assumption) | (refine below_trans ?_ hx3; assumption))
    (first | (go_at_call 156; refine (c1 _).mono ?_; rintro e y1 ⟨v1, rfl, b1, hx1⟩; obtain ⟨A1, cc1, hv1, n1⟩ := b1.nt; rw [hv1]) | (go_at_call 121; refine (c2 _ ?hB _ _ n1).mono ?_; (case hB => assumption); rintro e y2 ⟨v2, rfl, b2, hx2⟩; obtain ⟨A2, cc2, hv2, n2⟩ := b2.nt; rw [hv2]) | (go_at_call 153; refine (c3 _ ?hB _ _ n2).mono ?_; (case hB => assumption); rintro e y3 ⟨rfl, hx3⟩))
  have e1 : decide (0 < cmpI (waysN total bad sample seen * V f.m) L) = decide (L < waysN total bad sample seen * V f.m) := by
    unfold cmpI
    rw [Bool.eq_iff_iff]
    simp only [decide_eq_true_eq]
    split
    · omega
    · split <;> omega
  go_wp2_with fail
  go_ret
  exact ⟨ret_bool e1, below_trans (below_trans (below_trans (Below.refl _ _).drew hx1) hx2) hx3⟩

set_option maxRecDepth 100000 in
set_option maxHeartbeats 4000000 in
theorem Bound_main (total sample seen : Nat) (f : Frc) (w : World) (hf : f.In w) (ht : total ≤ 512) (hs : sample ≤ total) (hn : seen ≤ sample) (hv : validE [f] = 0) (hlt : V f.l < V f.m) :
    Calls Tryz.prog 100 #[.int .i64 total, .int .i64 sample, .int .i64 seen, f.val] w fun e w' => e = .returned (.tuple #[.int .i64 (bs (possB total sample seen (V f.l) (V f.m)) seen total : Nat), .int .i64 0]) ∧ Below w.heap.size w w' := by
  obtain ⟨a1, a2⟩ := short1 hv
  unfold Frc.val
  have hb1 := below_alloc (below_alloc (below_alloc (below_alloc (Below.refl w.heap.size w) (.cells #[.int .i64 (total : Int)] 3)) (.cells #[.int .i64 (sample : Int)] 3)) (.cells #[.int .i64 (seen : Int)] 3)) (.cells #[.slice f.A f.l.length f.c, .slice f.C f.m.length f.d] 33)
  have hb0 := below_alloc hb1 (.cells #[.slice f.A f.l.length f.c, .slice f.C f.m.length f.d] 33)
  go_enter Tryz.func100, Tryz.ntmps100
  go_wp2_with fail
  have cV := valid_any (some ⟨w.heap.size + 1 + 1 + 1 + 1, 0, none⟩) 1 [f] _ (frc_lit ((((w.alloc (.cells #[.int .i64 (total : Int)] 3)).alloc (.cells #[.int .i64 (sample : Int)] 3)).alloc (.cells #[.int .i64 (seen : Int)] 3)).alloc (.cells #[.slice f.A f.l.length f.c, .slice f.C f.m.length f.d] 33)) f (by simp)) (in_one hf hb0) (by simp)
  rw [List.length_singleton, hv] at cV
  refine cV.mono ?_
  rintro e w3 ⟨rfl, hb3⟩
  have q3 := below_trans hb0 hb3
  have k0 : w3.cell? ⟨w.heap.size, 0, none⟩ = some (.int .i64 (total : Int)) := bel_cell hb3 (by go_simp)
  have k1 : w3.cell? ⟨w.heap.size + 1, 0, none⟩ = some (.int .i64 (sample : Int)) := bel_cell hb3 (by go_simp)
  have k2 : w3.cell? ⟨w.heap.size + 1 + 1, 0, none⟩ = some (.int .i64 (seen : Int)) := bel_cell hb3 (by go_simp)
  have k3 : w3.cell? ⟨w.heap.size + 1 + 1 + 1, 0, none⟩ = some (.slice f.A f.l.length f.c) := bel_cell hb3 (by go_simp)
  have k4 : w3.cell? ⟨w.heap.size + 1 + 1 + 1, 1, none⟩ = some (.slice f.C f.m.length f.d) := bel_cell hb3 (by go_simp)
  have sz3 : w.heap.size + 1 + 1 + 1 + 1 < w3.heap.size := by have := hb3.size; simp at this; omega
  have sn : decide (0 ≤ (total : Int) ∧ (total : Int) ≤ 512 ∧ 0 ≤ (sample : Int) ∧ (sample : Int) ≤ (total : Int)) = true := by simp; omega
  have fin := hf.on q3
  have cO := order_any f.A f.c f.l f.C f.d f.m w3 fin.n.arr fin.d.arr fin.n.len fin.n.cap fin.d.len fin.d.cap fin.n.dig fin.d.dig
  rw [cmpI_lt hlt] at cO
  clear cV hv
  go_wp2_with (first | (go_at_call 152; refine (sane_any _ _ _).mono ?_; rintro e w' ⟨rfl, rfl⟩; rw [sn]) | (go_at_call 153; refine (cO).mono ?_; rintro e w4 ⟨rfl, hb4⟩))
  have q4 := below_trans q3 hb4
  have sz4 : w.heap.size + 1 + 1 + 1 + 1 < w4.heap.size := by have := hb4.size; omega
  have m0 := bel_cell hb4 k0
  have m1 := bel_cell hb4 k1
  have m2 := bel_cell hb4 k2
  have m3 := bel_cell hb4 k3
  have m4 := bel_cell hb4 k4
  clear k0 k1 k2 k3 k4 cO sn fin
  have l1 := ch_len (n := total) (k := sample) ht
  have c1 := fun w' => choose_any total sample w' ht (by omega)
  have c2 := fun w' (hb : Below w4.heap.size w4 w') A c (hn : Nt w' A c (limbs (ch total sample))) => times_any f.A f.c f.l A c _ w' (hf.on (below_trans q4 hb)).n hn (by omega) (by omega)
  simp only [V_limbs] at c2
  have L0 := fun w' (hb : Below w4.heap.size w4 w') => bel_cell hb m0
  have L1 := fun w' (hb : Below w4.heap.size w4 w') => bel_cell hb m1
  have L3 := fun w' (hb : Below w4.heap.size w4 w') => bel_cell hb m3
  go_cut [11] (fun s11 wx => ∃ g A c, s11 = .pointer (some ⟨g, 0, none⟩) ∧ Below w4.heap.size w4 wx ∧ wx.cell? ⟨g, 0, none⟩ = some (.slice A (limbs (V f.l * ch total sample)).length c) ∧ Nt wx A c (limbs (V f.l * ch total sample)))
  case first =>
    go_region_held3 (fun w' => Below w4.heap.size w4 w')
      (first | (exact (Below.refl _ _).drew) | (exact (below_alloc (Below.refl _ _) _).drew) | (refine below_trans ?_ hx1; assumption) | (refine below_trans ?_ hx2; assumption) | (refine below_alloc ?_ _; assumption) | (exact Below.setCell (below_trans (below_trans (below_alloc (Below.refl _ _) _).drew hx1) hx2) (Nat.le_refl _) _) | (exact Below.setCell (p := ⟨y1.heap.size, 0, none⟩) (below_trans (below_alloc (below_trans (Below.refl _ _).drew hx1) _) hx2) hx1.size _) | (exact below_alloc (below_trans (below_trans (Below.refl _ _).drew hx1) hx2) _))
      (first | (go_at_call 154; refine (c1 _).mono ?_; rintro e y1 ⟨v1, rfl, b1, hx1⟩; (try have bz1 := box_newd hx1); obtain ⟨A1, cc1, hv1, n1⟩ := b1.nt; rw [hv1]) | (go_at_call 121; refine (c2 _ ?hB _ _ n1).mono ?_; (case hB => assumption); rintro e y2 ⟨v2, rfl, b2, hx2⟩; (try have bz2 := box_on hx2 bz1); obtain ⟨A2, cc2, hv2, n2⟩ := b2.nt; rw [hv2]) | (go_at_call 121; refine (c2 _ ?hB _ _ (n1.on (below_alloc (Below.refl _ _) _))).mono ?_; (case hB => assumption); rintro e y2 ⟨v2, rfl, b2, hx2⟩; (have bz2 := box_new hx2); obtain ⟨A2, cc2, hv2, n2⟩ := b2.nt; rw [hv2]))
    all_goals (
      go_wp2_with fail
      go_meet
      case rel => first
        | exact ⟨_, _, _, rfl, below_alloc (below_trans (below_trans (Below.refl _ _).drew hx1) hx2) _, new_cell rfl, n2.on (below_alloc (Below.refl _ _) _)⟩
        | exact ⟨_, _, _, rfl, Below.setCell (below_trans (below_trans (below_alloc (Below.refl _ _) _).drew hx1) hx2) (Nat.le_refl _) _, cell_set bz2.1 _, nt_set hv2 b2 (by have := hx1.size; simp at this; omega) _⟩
        | exact ⟨_, _, _, rfl, Below.setCell (p := ⟨y1.heap.size, 0, none⟩) (below_trans (below_alloc (below_trans (Below.refl _ _).drew hx1) _) hx2) hx1.size _, cell_set bz2.1 _, nt_set hv2 b2 (by simp) _⟩)
  obtain ⟨g5, A2, cc2, rfl, hb5, n5', nt7⟩ := hcut
  have q7 := below_trans q4 hb5
  have n0 := bel_cell hb5 m0
  have n1' := bel_cell hb5 m1
  have n2' := bel_cell hb5 m2
  have n3' := bel_cell hb5 m3
  have n4' := bel_cell hb5 m4
  have e2 := later_cell n2'
  have e0 := later_cell n0
  clear c1 c2 m0 m1 m2 m3 m4 L0 L1 L3
  go_wp2_with fail
  (refine wp_region_later (by kernel_rfl) (by kernel_rfl) ?_; (repeat (go_big_quiet_step (fail))); refine wpQuiet_nil ?_; rintro w8 ⟨⟨_, hb8⟩, rfl⟩)
  clear e2 e0
  have r0 := bel_cell hb8 n0
  have r1 := bel_cell hb8 n1'
  have r2 := bel_cell hb8 n2'
  have r3 := bel_cell hb8 n3'
  have r4 := bel_cell hb8 n4'
  have r5 := bel_cell hb8 n5'
  have q8 := below_trans q7 hb8
  have nt8 := nt7.on hb8
  clear n0 n1' n2' n3' n4' n5' nt7
  go_wp2_with fail
  go_loopw [13, 14] (fun a b wr => ∃ lo hi : Nat, lo ≤ hi ∧ hi ≤ total ∧ a = .int .i64 lo ∧ b = .int .i64 hi ∧ bs (possB total sample seen (V f.l) (V f.m)) lo hi = bs (possB total sample seen (V f.l) (V f.m)) seen total ∧ Below w8.heap.size w8 wr) (fun a b _ => (intOf b).toNat - (intOf a).toNat)
  case atStart => exact ⟨seen, total, by omega, Nat.le_refl _, rfl, rfl, rfl, Below.refl _ _⟩
  case round =>
    obtain ⟨lo, hi, h1, h2, rfl, rfl, hv, hb⟩ := hrel
    have Hv := Lib.hid hv
    clear hv
    by_cases hlh : lo < hi
    · obtain ⟨s, hs1⟩ : ∃ s : Nat, (lo : Int) + (hi : Int) + 1 = (s : Int) := ⟨lo + hi + 1, by omega⟩
      obtain ⟨mid, hm1⟩ : ∃ mid : Nat, (s : Int) / 2 = (mid : Int) := ⟨s / 2, by omega⟩
      have hme : Hid ((lo + hi + 1) / 2 = mid) := Lib.hid (by omega)
      have hm2 : mid ≤ total := by omega
      have qr := below_trans q8 hb
      have cB := Bound1_any total sample seen mid (V f.l * ch total sample) _ _ _ _ _ f A2 cc2 wr (hf.on qr) ht hs hn hm2 (bel_cell hb r0) (bel_cell hb r1) (bel_cell hb r2) (bel_cell hb r4) (bel_cell hb r5) (nt8.on hb) (by omega)
      change Calls _ _ _ _ fun e w' => e = .returned (.bool (possB total sample seen (V f.l) (V f.m) mid)) ∧ _ at cB
      cases hp : possB total sample seen (V f.l) (V f.m) mid
      · rw [hp] at cB
        have hst := bs_no (p := possB total sample seen (V f.l) (V f.m)) hlh (by rw [hme.out]; exact hp)
        rw [hme.out] at hst
        have Hst := Lib.hid hst
        clear hst hp
        go_wp2_with (go_at_call 155; refine (cB).mono ?_; rintro e w9 ⟨rfl, hb9⟩)
        go_roundw
        case rel => first | exact ⟨lo, mid - 1, by have := hme.out; omega, by omega, rfl, by go_num, by rw [← Hst.out]; exact Hv.out, below_trans hb hb9⟩ | ((repeat apply Exists.intro); exact ⟨⟨lo, mid - 1, by have := hme.out; omega, by omega, rfl, by go_num, by rw [← Hst.out]; exact Hv.out, below_trans hb hb9⟩, rfl⟩)
        case measure => (simp [intOf] <;> omega)
      · rw [hp] at cB
        have hst := bs_yes (p := possB total sample seen (V f.l) (V f.m)) hlh (by rw [hme.out]; exact hp)
        rw [hme.out] at hst
        have Hst := Lib.hid hst
        clear hst hp
        go_wp2_with (go_at_call 155; refine (cB).mono ?_; rintro e w9 ⟨rfl, hb9⟩)
        go_roundw
        case rel => first | exact ⟨mid, hi, by have := hme.out; omega, h2, rfl, rfl, by rw [← Hst.out]; exact Hv.out, below_trans hb hb9⟩ | ((repeat apply Exists.intro); exact ⟨⟨mid, hi, by have := hme.out; omega, h2, rfl, rfl, by rw [← Hst.out]; exact Hv.out, below_trans hb hb9⟩, rfl⟩)
        case measure => (simp [intOf] <;> omega)
    · obtain rfl : lo = hi := by omega
      go_wp2_with fail
      go_ret2
      have := Hv.out
      rw [bs_end (Nat.le_refl _)] at this
      exact ⟨by rw [← this]; rfl, below_trans q8 hb⟩

end Go.Proofs.YtfolgmcoggejbaaGreat

namespace Go.Proofs.YtfolgmcoggejbaaGreat
open Go.RowKit
set_option linter.unusedVariables false
set_option linter.unusedSimpArgs false

theorem boundE1 {t s n : Int} {f : Frc} (h : validE [f] ≠ 0) : boundE t s n f = validE [f] ∧ boundI t s n f = 0 := by
  have e : boundE t s n f = validE [f] := by unfold boundE; rw [if_pos h]
  exact ⟨e, by unfold boundI; rw [e, if_neg h]⟩
theorem boundE2 {t s n : Int} {f : Frc} (h : validE [f] = 0) (h2 : ¬ (0 ≤ t ∧ t ≤ 512 ∧ 0 ≤ s ∧ s ≤ t ∧ 0 ≤ n ∧ n ≤ s)) : boundE t s n f = 3 ∧ boundI t s n f = 0 := by
  have e : boundE t s n f = 3 := by unfold boundE; rw [if_neg (by simp [h]), if_pos h2]
  exact ⟨e, by unfold boundI; rw [e]; rfl⟩
theorem boundE3 {t s n : Int} {f : Frc} (h : validE [f] = 0) (h2 : 0 ≤ t ∧ t ≤ 512 ∧ 0 ≤ s ∧ s ≤ t ∧ 0 ≤ n ∧ n ≤ s) (h3 : V f.m ≤ V f.l) : boundE t s n f = 2 ∧ boundI t s n f = 0 := by
  have e : boundE t s n f = 2 := by unfold boundE; rw [if_neg (by simp [h]), if_neg (by simp [h2]), if_pos h3]
  exact ⟨e, by unfold boundI; rw [e]; rfl⟩
theorem boundE4 {t s n : Int} {f : Frc} (h : validE [f] = 0) (h2 : 0 ≤ t ∧ t ≤ 512 ∧ 0 ≤ s ∧ s ≤ t ∧ 0 ≤ n ∧ n ≤ s) (h3 : ¬ V f.m ≤ V f.l) : boundE t s n f = 0 ∧ boundI t s n f = (bs (possB t.toNat s.toNat n.toNat (V f.l) (V f.m)) n.toNat t.toNat : Nat) := by
  have e : boundE t s n f = 0 := by unfold boundE; rw [if_neg (by simp [h]), if_neg (by simp [h2]), if_neg h3]
  exact ⟨e, by unfold boundI; rw [e]; rfl⟩

set_option maxRecDepth 100000 in
set_option maxHeartbeats 4000000 in
theorem Bound_any (t s n : Int) (f : Frc) (w : World) (hf : f.In w) :
    Calls Tryz.prog 100 #[.int .i64 t, .int .i64 s, .int .i64 n, f.val] w fun e w' => e = .returned (.tuple #[.int .i64 (boundI t s n f), .int .i64 (boundE t s n f)]) ∧ Below w.heap.size w w' := by
  by_cases h2 : 0 ≤ t ∧ t ≤ 512 ∧ 0 ≤ s ∧ s ≤ t ∧ 0 ≤ n ∧ n ≤ s
  · by_cases hv : validE [f] = 0
    · by_cases h3 : V f.m ≤ V f.l
      · obtain ⟨e1, e2⟩ := boundE3 hv h2 h3
        rw [e1, e2]
        have hb1 := below_alloc (below_alloc (below_alloc (below_alloc (Below.refl w.heap.size w) (.cells #[.int .i64 t] 3)) (.cells #[.int .i64 s] 3)) (.cells #[.int .i64 n] 3)) (.cells #[.slice f.A f.l.length f.c, .slice f.C f.m.length f.d] 33)
        have hb0 := below_alloc hb1 (.cells #[.slice f.A f.l.length f.c, .slice f.C f.m.length f.d] 33)
        have cV := valid_any (some ⟨w.heap.size + 1 + 1 + 1 + 1, 0, none⟩) 1 [f] _ (frc_lit ((((w.alloc (.cells #[.int .i64 t] 3)).alloc (.cells #[.int .i64 s] 3)).alloc (.cells #[.int .i64 n] 3)).alloc (.cells #[.slice f.A f.l.length f.c, .slice f.C f.m.length f.d] 33)) f (by simp)) (in_one hf hb0) (by simp)
        rw [List.length_singleton, hv] at cV
        obtain ⟨h2a, h2b, h2c, h2d, h2e, h2f⟩ := h2
        unfold Frc.val
        clear e1 e2
        go_enter Tryz.func100, Tryz.ntmps100
        go_wp2_with fail
        refine cV.mono ?_
        rintro e w3 ⟨rfl, hb3⟩
        have q3 := below_trans hb0 hb3
        have k0 : w3.cell? ⟨w.heap.size, 0, none⟩ = some (.int .i64 t) := bel_cell hb3 (by go_simp)
        have k1 : w3.cell? ⟨w.heap.size + 1, 0, none⟩ = some (.int .i64 s) := bel_cell hb3 (by go_simp)
        have k2 : w3.cell? ⟨w.heap.size + 1 + 1, 0, none⟩ = some (.int .i64 n) := bel_cell hb3 (by go_simp)
        have k3 : w3.cell? ⟨w.heap.size + 1 + 1 + 1, 0, none⟩ = some (.slice f.A f.l.length f.c) := bel_cell hb3 (by go_simp)
        have k4 : w3.cell? ⟨w.heap.size + 1 + 1 + 1, 1, none⟩ = some (.slice f.C f.m.length f.d) := bel_cell hb3 (by go_simp)
        have sz3 : w.heap.size + 1 + 1 + 1 + 1 < w3.heap.size := by have := hb3.size; simp at this; omega
        have sn : decide (0 ≤ t ∧ t ≤ 512 ∧ 0 ≤ s ∧ s ≤ t) = true := by simp; omega
        have fin := hf.on q3
        have cO := order_any f.A f.c f.l f.C f.d f.m w3 fin.n.arr fin.d.arr fin.n.len fin.n.cap fin.d.len fin.d.cap fin.n.dig fin.d.dig
        obtain ⟨cv, hcv, hcv0⟩ : ∃ cv, cmpI (V f.l) (V f.m) = cv ∧ 0 ≤ cv := ⟨_, rfl, by unfold cmpI; split <;> (try split) <;> omega⟩
        rw [hcv] at cO
        clear cV hv hcv
        go_wp2_with (first | (go_at_call 152; refine (sane_any _ _ _).mono ?_; rintro e w' ⟨rfl, rfl⟩; rw [sn]) | (go_at_call 153; refine (cO).mono ?_; rintro e w4 ⟨rfl, hb4⟩))
        go_ret2
        exact ⟨rfl, below_trans q3 hb4⟩
      · obtain ⟨e1, e2⟩ := boundE4 hv h2 h3
        rw [e1, e2]
        obtain ⟨a, rfl⟩ : ∃ a : Nat, t = a := ⟨t.toNat, by omega⟩
        obtain ⟨b, rfl⟩ : ∃ a : Nat, s = a := ⟨s.toNat, by omega⟩
        obtain ⟨c, rfl⟩ : ∃ a : Nat, n = a := ⟨n.toNat, by omega⟩
        exact Bound_main a b c f w hf (by omega) (by omega) (by omega) hv (by omega)
    · obtain ⟨e1, e2⟩ := boundE1 (t := t) (s := s) (n := n) hv
      rw [e1, e2]
      have hb1 := below_alloc (below_alloc (below_alloc (below_alloc (Below.refl w.heap.size w) (.cells #[.int .i64 t] 3)) (.cells #[.int .i64 s] 3)) (.cells #[.int .i64 n] 3)) (.cells #[.slice f.A f.l.length f.c, .slice f.C f.m.length f.d] 33)
      have hb0 := below_alloc hb1 (.cells #[.slice f.A f.l.length f.c, .slice f.C f.m.length f.d] 33)
      have cV := valid_any (some ⟨w.heap.size + 1 + 1 + 1 + 1, 0, none⟩) 1 [f] _ (frc_lit ((((w.alloc (.cells #[.int .i64 t] 3)).alloc (.cells #[.int .i64 s] 3)).alloc (.cells #[.int .i64 n] 3)).alloc (.cells #[.slice f.A f.l.length f.c, .slice f.C f.m.length f.d] 33)) f (by simp)) (in_one hf hb0) (by simp)
      rw [List.length_singleton] at cV
      have hv' : (validE [f] != 0) = true := by simpa using hv
      unfold Frc.val
      clear e1 e2 hv h2
      go_enter Tryz.func100, Tryz.ntmps100
      go_wp2_with fail
      refine cV.mono ?_
      rintro e w3 ⟨rfl, hb3⟩
      go_wp2_with fail
      go_ret2
      exact ⟨rfl, below_trans hb0 hb3⟩
  · by_cases hv : validE [f] = 0
    · obtain ⟨e1, e2⟩ := boundE2 hv h2
      rw [e1, e2]
      have hb1 := below_alloc (below_alloc (below_alloc (below_alloc (Below.refl w.heap.size w) (.cells #[.int .i64 t] 3)) (.cells #[.int .i64 s] 3)) (.cells #[.int .i64 n] 3)) (.cells #[.slice f.A f.l.length f.c, .slice f.C f.m.length f.d] 33)
      have hb0 := below_alloc hb1 (.cells #[.slice f.A f.l.length f.c, .slice f.C f.m.length f.d] 33)
      have cV := valid_any (some ⟨w.heap.size + 1 + 1 + 1 + 1, 0, none⟩) 1 [f] _ (frc_lit ((((w.alloc (.cells #[.int .i64 t] 3)).alloc (.cells #[.int .i64 s] 3)).alloc (.cells #[.int .i64 n] 3)).alloc (.cells #[.slice f.A f.l.length f.c, .slice f.C f.m.length f.d] 33)) f (by simp)) (in_one hf hb0) (by simp)
      rw [List.length_singleton, hv] at cV
      unfold Frc.val
      have hcase : decide (0 ≤ t ∧ t ≤ 512 ∧ 0 ≤ s ∧ s ≤ t) = false ∨ (decide (0 ≤ t ∧ t ≤ 512 ∧ 0 ≤ s ∧ s ≤ t) = true ∧ n < 0) ∨ (decide (0 ≤ t ∧ t ≤ 512 ∧ 0 ≤ s ∧ s ≤ t) = true ∧ 0 ≤ n ∧ s < n) := by
        simp only [decide_eq_true_eq, decide_eq_false_iff_not]; omega
      clear e1 e2 hv h2
      rcases hcase with sn | ⟨sn, hn⟩ | ⟨sn, hn, hn2⟩
      all_goals (
        go_enter Tryz.func100, Tryz.ntmps100
        go_wp2_with fail
        refine cV.mono ?_
        rintro e w3 ⟨rfl, hb3⟩
        have q3 := below_trans hb0 hb3
        have k0 : w3.cell? ⟨w.heap.size, 0, none⟩ = some (.int .i64 t) := bel_cell hb3 (by go_simp)
        have k1 : w3.cell? ⟨w.heap.size + 1, 0, none⟩ = some (.int .i64 s) := bel_cell hb3 (by go_simp)
        have k2 : w3.cell? ⟨w.heap.size + 1 + 1, 0, none⟩ = some (.int .i64 n) := bel_cell hb3 (by go_simp)
        go_wp2_with (go_at_call 152; refine (sane_any _ _ _).mono ?_; rintro e w' ⟨rfl, rfl⟩; rw [sn])
        go_ret2
        exact ⟨rfl, q3⟩)
    · obtain ⟨e1, e2⟩ := boundE1 (t := t) (s := s) (n := n) hv
      rw [e1, e2]
      have hb1 := below_alloc (below_alloc (below_alloc (below_alloc (Below.refl w.heap.size w) (.cells #[.int .i64 t] 3)) (.cells #[.int .i64 s] 3)) (.cells #[.int .i64 n] 3)) (.cells #[.slice f.A f.l.length f.c, .slice f.C f.m.length f.d] 33)
      have hb0 := below_alloc hb1 (.cells #[.slice f.A f.l.length f.c, .slice f.C f.m.length f.d] 33)
      have cV := valid_any (some ⟨w.heap.size + 1 + 1 + 1 + 1, 0, none⟩) 1 [f] _ (frc_lit ((((w.alloc (.cells #[.int .i64 t] 3)).alloc (.cells #[.int .i64 s] 3)).alloc (.cells #[.int .i64 n] 3)).alloc (.cells #[.slice f.A f.l.length f.c, .slice f.C f.m.length f.d] 33)) f (by simp)) (in_one hf hb0) (by simp)
      rw [List.length_singleton] at cV
      have hv' : (validE [f] != 0) = true := by simpa using hv
      unfold Frc.val
      clear e1 e2 hv h2
      go_enter Tryz.func100, Tryz.ntmps100
      go_wp2_with fail
      refine cV.mono ?_
      rintro e w3 ⟨rfl, hb3⟩
      go_wp2_with fail
      go_ret2
      exact ⟨rfl, below_trans hb0 hb3⟩

theorem blk_new {w y : World} {cs : Array Value} {T : TypeId} (h : Below (w.alloc (.cells cs T)).heap.size (w.alloc (.cells cs T)) y) {g : Nat} (hg : g = w.heap.size) {j : Nat} {v : Value} (hj : cs[j]? = some v) : y.cell? ⟨g, j, none⟩ = some v ∧ y.frozen? ⟨g, j, none⟩ = false := by
  subst hg
  exact ⟨bel_cell h (new_cell hj), (h.frozen (p := ⟨w.heap.size, j, none⟩) (by simp)).trans (World.frozen?_alloc_at _ _ _ _ rfl)⟩
def zero5 : Value := .agg #[.int .i64 0, .int .i64 0, .int .i64 0, .int .i64 0, .int .i64 0]
/-- The estimate. -/
def rateV (t s n : Int) (f : Frc) : Value := if boundE t s n f = 0 then .agg #[.int .i64 t, .int .i64 s, .int .i64 n, .int .i64 (boundI t s n f), .int .i64 (boundI t s n f - n)] else zero5

theorem bound_ok {t s n : Int} {f : Frc} (h : boundE t s n f = 0) : 0 ≤ n ∧ n ≤ boundI t s n f ∧ boundI t s n f ≤ t ∧ t ≤ 512 := by
  have h1 : validE [f] = 0 := by
    refine Classical.byContradiction fun h1 => ?_
    rw [(boundE1 h1).1] at h; exact h1 h
  have h2 : 0 ≤ t ∧ t ≤ 512 ∧ 0 ≤ s ∧ s ≤ t ∧ 0 ≤ n ∧ n ≤ s := by
    refine Classical.byContradiction fun h2 => ?_
    rw [(boundE2 h1 h2).1] at h; cases h
  have h3 : ¬ V f.m ≤ V f.l := fun h3 => by rw [(boundE3 h1 h2 h3).1] at h; cases h
  rw [(boundE4 h1 h2 h3).2]
  have := bs_between (p := possB t.toNat s.toNat n.toNat (V f.l) (V f.m)) (lo := n.toNat) (hi := t.toNat) (by omega)
  omega

set_option maxRecDepth 100000 in
set_option maxHeartbeats 2000000 in
theorem Rate_any (t s n : Int) (f : Frc) (w : World) (hf : f.In w) :
    Calls Tryz.prog 41 #[.int .i64 t, .int .i64 s, .int .i64 n, f.val] w fun e w' => e = .returned (.tuple #[rateV t s n f, .int .i64 (boundE t s n f)]) ∧ Below w.heap.size w w' := by
  have hb0 := below_alloc (below_alloc (Below.refl w.heap.size w) (.cells #[.slice f.A f.l.length f.c, .slice f.C f.m.length f.d] 33)) (.cells #[.int .i64 0, .int .i64 0, .int .i64 0, .int .i64 0, .int .i64 0] 35)
  have cB := Bound_any t s n f _ (hf.on hb0)
  unfold Frc.val at *
  by_cases h0 : boundE t s n f = 0
  · have hr : Hid (rateV t s n f = .agg #[.int .i64 t, .int .i64 s, .int .i64 n, .int .i64 (boundI t s n f), .int .i64 (boundI t s n f - n)]) := Lib.hid (by unfold rateV; rw [if_pos h0])
    have hbn := bound_ok h0
    rw [h0] at cB ⊢
    rw [hr.out]
    generalize boundI t s n f = b at *
    have e1 : wrap64 (b - n) = b - n := IntWalk.wrap64_in _ (by omega)
    clear h0 hbn
    go_enter Tryz.func41, Tryz.ntmps41
    go_wp2_with fail
    refine cB.mono ?_
    rintro e w3 ⟨rfl, hb3⟩
    have f0 := blk_new hb3 (g := w.heap.size + 1) (by simp) (j := 0) rfl
    have f1 := blk_new hb3 (g := w.heap.size + 1) (by simp) (j := 1) rfl
    have f2 := blk_new hb3 (g := w.heap.size + 1) (by simp) (j := 2) rfl
    have f3 := blk_new hb3 (g := w.heap.size + 1) (by simp) (j := 3) rfl
    have f4 := blk_new hb3 (g := w.heap.size + 1) (by simp) (j := 4) rfl
    go_wp2_with fail
    (try simp only [Exit.inBlock, Exit.then])
    refine bodyPost_ret (v := .tuple #[.agg #[.int .i64 t, .int .i64 s, .int .i64 n, .int .i64 b, .int .i64 (b - n)], .int .i64 0]) ?_ rfl ⟨rfl, ?_⟩
    · rw [results_cell_tmp rfl]
      go_simp
    · exact (((((below_trans hb0 hb3).setCell (Nat.le_succ _) _).setCell (Nat.le_succ _) _).setCell (Nat.le_succ _) _).setCell (Nat.le_succ _) _).setCell (Nat.le_succ _) _
  · have hr : Hid (rateV t s n f = zero5) := Lib.hid (by unfold rateV; rw [if_neg h0])
    have h0' : (boundE t s n f != 0) = true := by simpa using h0
    have hi : boundI t s n f = 0 := by unfold boundI; rw [if_neg h0]
    rw [hi] at cB
    rw [hr.out]
    clear h0 hi
    go_enter Tryz.func41, Tryz.ntmps41
    go_wp2_with fail
    refine cB.mono ?_
    rintro e w3 ⟨rfl, hb3⟩
    have f0 := blk_new hb3 (g := w.heap.size + 1) (by simp) (j := 0) rfl
    have f1 := blk_new hb3 (g := w.heap.size + 1) (by simp) (j := 1) rfl
    have f2 := blk_new hb3 (g := w.heap.size + 1) (by simp) (j := 2) rfl
    have f3 := blk_new hb3 (g := w.heap.size + 1) (by simp) (j := 3) rfl
    have f4 := blk_new hb3 (g := w.heap.size + 1) (by simp) (j := 4) rfl
    go_wp2_with fail
    (try simp only [Exit.inBlock, Exit.then])
    refine bodyPost_ret (v := .tuple #[zero5, .int .i64 (boundE t s n f)]) ?_ rfl ⟨rfl, ?_⟩
    · rw [results_cell_tmp rfl]
      unfold zero5
      go_simp
    · exact (((((below_trans hb0 hb3).setCell (Nat.le_succ _) _).setCell (Nat.le_succ _) _).setCell (Nat.le_succ _) _).setCell (Nat.le_succ _) _).setCell (Nat.le_succ _) _

theorem whole_any (n : Nat) (w : World) (hn : n ≤ 9223372036854775807) :
    Calls Tryz.prog 103 #[.int .i64 (n : Int)] w fun e w' => ∃ v, e = .returned v ∧ Big w' w.heap.size v n ∧ Below w.heap.size w w' := by
  have e1 : IntKind.u64.wrap (n : Int) = (n : Int) := wrapU rfl (by omega)
  have cO := Of_any n w (by omega)
  go_enter Tryz.func103, Tryz.ntmps103
  go_wp2_with (go_at_call 6; refine cO.mono ?_; rintro e w5 ⟨v, rfl, bR, hb5⟩)
  go_ret
  exact ⟨_, rfl, bR, hb5⟩

/-- The verdict: the error of a limit, or of the numbers, or 18. -/
def judgeE (s n : Int) (f : Frc) : Int := if validE [f] ≠ 0 then validE [f] else if ¬ (0 ≤ s ∧ s ≤ 512 ∧ 0 ≤ n ∧ n ≤ s) then 3 else if s = 0 then 0 else if V f.l * s.toNat < n.toNat * V f.m then 18 else 0

end Go.Proofs.YtfolgmcoggejbaaGreat

namespace Go.Proofs.YtfolgmcoggejbaaGreat
open Go.RowKit
set_option linter.unusedVariables false
set_option linter.unusedSimpArgs false

theorem limbs_small {n : Nat} (h : n < 4294967296) : (limbs n).length ≤ 1 := limbs_len (m := 32) h (by decide)
theorem judgeE1 {s n : Int} {f : Frc} (h : validE [f] ≠ 0) : judgeE s n f = validE [f] := by unfold judgeE; rw [if_pos h]
theorem judgeE2 {s n : Int} {f : Frc} (h : validE [f] = 0) (h2 : ¬ (0 ≤ s ∧ s ≤ 512 ∧ 0 ≤ n ∧ n ≤ s)) : judgeE s n f = 3 := by unfold judgeE; rw [if_neg (by simp [h]), if_pos h2]
theorem judgeE3 {s n : Int} {f : Frc} (h : validE [f] = 0) (h2 : 0 ≤ s ∧ s ≤ 512 ∧ 0 ≤ n ∧ n ≤ s) (h3 : s = 0) : judgeE s n f = 0 := by unfold judgeE; rw [if_neg (by simp [h]), if_neg (by simp [h2]), if_pos h3]
theorem judgeE4 {s n : Int} {f : Frc} (h : validE [f] = 0) (h2 : 0 ≤ s ∧ s ≤ 512 ∧ 0 ≤ n ∧ n ≤ s) (h3 : ¬ s = 0) : judgeE s n f = if V f.l * s.toNat < n.toNat * V f.m then 18 else 0 := by
  unfold judgeE; rw [if_neg (by simp [h]), if_neg (by simp [h2]), if_neg h3]

set_option maxRecDepth 100000 in
set_option maxHeartbeats 4000000 in
theorem Judge_any (s n : Int) (f : Frc) (w : World) (hf : f.In w) :
    Calls Tryz.prog 42 #[.int .i64 s, .int .i64 n, f.val] w fun e w' => e = .returned (.int .i64 (judgeE s n f)) ∧ Below w.heap.size w w' := by
  have hb0 := below_alloc (Below.refl w.heap.size w) (.cells #[.slice f.A f.l.length f.c, .slice f.C f.m.length f.d] 33)
  have cC := CheckFrac_any f _ (hf.on hb0)
  unfold Frc.val at *
  by_cases hv : validE [f] = 0
  · rw [hv] at cC
    by_cases h2 : 0 ≤ s ∧ s ≤ 512 ∧ 0 ≤ n ∧ n ≤ s
    · have b1 : betwB s 0 512 = true := by simp [betwB]; omega
      have b2 : betwB n 0 s = true := by simp [betwB]; omega
      by_cases h3 : s = 0
      · rw [judgeE3 hv h2 h3]
        subst h3
        go_enter Tryz.func42, Tryz.ntmps42
        go_wp2_with (first | (go_at_call 101; refine (cC).mono ?_; rintro e w3 ⟨rfl, hb3⟩) | (go_at_call 97; refine (between_any _ _ _ _).mono ?_; rintro e w' ⟨rfl, rfl⟩; (first | rw [b1] | rw [b2])))
        go_ret
        exact ⟨rfl, below_trans hb0 hb3⟩
      · rw [judgeE4 hv h2 h3]
        obtain ⟨S, rfl⟩ : ∃ a : Nat, s = a := ⟨s.toNat, by omega⟩
        obtain ⟨N, rfl⟩ : ∃ a : Nat, n = a := ⟨n.toNat, by omega⟩
        simp only [Int.toNat_natCast]
        obtain ⟨J, hJ⟩ : ∃ J : Int, (if V f.l * S < N * V f.m then (18 : Int) else 0) = J := ⟨_, rfl⟩
        rw [hJ]
        have HJ := Lib.hid hJ
        clear hJ
        have hS : 0 < S := by omega
        have hS2 : S ≤ 512 := by omega
        have hN : N ≤ S := by omega
        have hs0 : ((S : Int) == 0) = false := by simp; omega
        clear h2 h3
        go_enter Tryz.func42, Tryz.ntmps42
        go_wp2_with (first | (go_at_call 101; refine (cC).mono ?_; rintro e w3 ⟨rfl, hb3⟩) | (go_at_call 97; refine (between_any _ _ _ _).mono ?_; rintro e w' ⟨rfl, rfl⟩; (first | rw [b1] | rw [b2])))
        have q3 := below_trans hb0 hb3
        have k0 := (blk_new hb3 rfl (j := 0) rfl).1
        have k1 := (blk_new hb3 rfl (j := 1) rfl).1
        have L0 := fun w' (hb : Below w3.heap.size w3 w') => bel_cell hb k0
        have L1 := fun w' (hb : Below w3.heap.size w3 w') => bel_cell hb k1
        have c1 := fun w' => whole_any N w' (by omega)
        have c2 := fun w' => whole_any S w' (by omega)
        have l1 := limbs_small (n := N) (by omega)
        have l2 := limbs_small (n := S) (by omega)
        have c3 := fun w' (hb : Below w3.heap.size w3 w') A1 cc1 A2 cc2 (n1 : Nt w' A1 cc1 (limbs N)) (n2 : Nt w' A2 cc2 (limbs S)) => FracCompare_any ⟨A1, cc1, limbs N, A2, cc2, limbs S⟩ f w' ⟨n1, n2⟩ (hf.on (below_trans q3 hb))
        have ev : ∀ A1 cc1 A2 cc2, validE [⟨A1, cc1, limbs N, A2, cc2, limbs S⟩, f] = 0 := fun A1 cc1 A2 cc2 => by
          obtain ⟨g1, g2⟩ := validE_zero.1 hv
          refine validE_zero.2 ⟨?_, ?_⟩
          · simp at g1 ⊢
            refine ⟨?_, g1⟩
            unfold Frc.lng
            simp; omega
          · simp at g2 ⊢
            refine ⟨?_, g2⟩
            unfold Frc.zro
            simp [V_limbs]; omega
        have ec : ∀ A1 cc1 A2 cc2, fcmpI ⟨A1, cc1, limbs N, A2, cc2, limbs S⟩ f = cmpI (N * V f.m) (V f.l * S) := fun A1 cc1 A2 cc2 => by
          unfold fcmpI; rw [if_pos (ev _ _ _ _), V_limbs, V_limbs]
        simp only [ev, ec] at c3
        unfold Frc.val at c3
        clear ev ec cC
        go_region_held3 (fun w' => Below w3.heap.size w3 w')
          (first | (exact (Below.refl _ _).drew) | (refine below_trans ?_ hx1; assumption) | (refine below_trans ?_ hx2; assumption) | (refine below_trans ?_ hx3; assumption))
          (first | (go_at_call 103; refine Calls.on (args' := #[.int .i64 (N : Int)]) rfl ?_; refine (c1 _).mono ?_; rintro e y1 ⟨v1, rfl, b1, hx1⟩; obtain ⟨A1, cc1, hv1, n1⟩ := b1.nt; rw [hv1]) | (go_at_call 103; refine (c2 _).mono ?_; rintro e y2 ⟨v2, rfl, b2, hx2⟩; obtain ⟨A2, cc2, hv2, n2⟩ := b2.nt; rw [hv2]) | (go_at_call 102; refine (c3 _ ?hB _ _ _ _ (n1.on hx2) n2).mono ?_; (case hB => assumption); rintro e y3 ⟨rfl, hx3⟩))
        have q9 := below_trans q3 (below_trans (below_trans (below_trans (Below.refl _ _).drew hx1) hx2) hx3)
        clear L0 L1 c1 c2 c3
        rcases Nat.lt_or_ge (V f.l * S) (N * V f.m) with hlt | hge
        · rw [cmpI_gt hlt]
          have Hlt := Lib.hid hlt
          clear hlt
          go_wp2_with fail
          go_ret
          exact ⟨ret_int (by rw [← HJ.out, if_pos Hlt.out]), q9⟩
        · obtain ⟨cv, hcv, hcv0⟩ : ∃ cv, cmpI (N * V f.m) (V f.l * S) = cv ∧ cv ≤ 0 := ⟨_, rfl, by unfold cmpI; split <;> (try split) <;> omega⟩
          rw [hcv]
          have Hge := Lib.hid hge
          clear hge hcv
          go_wp2_with fail
          go_ret
          exact ⟨ret_int (by rw [← HJ.out, if_neg (Nat.not_lt.2 Hge.out)]), q9⟩
    · rw [judgeE2 hv h2]
      by_cases h3 : 0 ≤ s ∧ s ≤ 512
      · have b1 : betwB s 0 512 = true := by simp [betwB]; omega
        have b2 : betwB n 0 s = false := by simp [betwB]; omega
        go_enter Tryz.func42, Tryz.ntmps42
        go_wp2_with (first | (go_at_call 101; refine (cC).mono ?_; rintro e w3 ⟨rfl, hb3⟩) | (go_at_call 97; refine (between_any _ _ _ _).mono ?_; rintro e w' ⟨rfl, rfl⟩; (first | rw [b1] | rw [b2])))
        go_ret
        exact ⟨rfl, below_trans hb0 hb3⟩
      · have b1 : betwB s 0 512 = false := by simp [betwB]; omega
        go_enter Tryz.func42, Tryz.ntmps42
        go_wp2_with (first | (go_at_call 101; refine (cC).mono ?_; rintro e w3 ⟨rfl, hb3⟩) | (go_at_call 97; refine (between_any _ _ _ _).mono ?_; rintro e w' ⟨rfl, rfl⟩; rw [b1]))
        go_ret
        exact ⟨rfl, below_trans hb0 hb3⟩
  · rw [judgeE1 hv]
    have hv' : (validE [f] != 0) = true := by simpa using hv
    clear hv
    go_enter Tryz.func42, Tryz.ntmps42
    go_wp2_with (go_at_call 101; refine (cC).mono ?_; rintro e w3 ⟨rfl, hb3⟩)
    go_ret
    exact ⟨rfl, below_trans hb0 hb3⟩

end Go.Proofs.YtfolgmcoggejbaaGreat
