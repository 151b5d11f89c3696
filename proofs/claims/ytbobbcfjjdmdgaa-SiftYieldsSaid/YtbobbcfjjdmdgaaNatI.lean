/- Contract of exact's ways. For at most 512 things. -/
import Derived.Test.YtbobbcfjjdmdgaaNatHc
namespace Go.Proofs.Ytbobbcfjjdmdgaa
open Go.RowKit
set_option linter.unusedVariables false
set_option linter.unusedSimpArgs false

/-- The number of sets that hold i bad things. -/
def wterm (total bad sample i : Nat) : Nat := ch bad i * ch (total - bad) (sample - i)
theorem ways_sum (total bad sample seen : Nat) : waysN total bad sample seen = sumTo (wterm total bad sample) (seen + 1) := rfl
theorem wterm_low {total bad sample i : Nat} (h : total - bad < sample - i) : wterm total bad sample i = 0 := by unfold wterm; rw [ch_gt h]; rfl
theorem wterm_high {total bad sample i : Nat} (h : bad < i) : wterm total bad sample i = 0 := by unfold wterm; rw [ch_gt h, Nat.zero_mul]
theorem sum_low {total bad sample F : Nat} (h : F = sample - (total - bad)) : sumTo (wterm total bad sample) F = 0 := sumTo_zero fun i hi => wterm_low (by omega)
theorem sum_all {total bad sample seen M : Nat} (h : seen ≤ bad ∧ M = seen ∨ bad < seen ∧ M = bad) : sumTo (wterm total bad sample) (M + 1) = waysN total bad sample seen := by
  rw [ways_sum]
  rcases h with ⟨_, rfl⟩ | ⟨h, rfl⟩
  · rfl
  · exact (sumTo_stop _ (by omega) fun i hi => wterm_high (by omega)).symm
theorem sum_none {total bad sample seen F M : Nat} (hF : F = sample - (total - bad)) (h : seen ≤ bad ∧ M = seen ∨ bad < seen ∧ M = bad) (hlt : M < F) : waysN total bad sample seen = 0 := by
  rw [← sum_all h]
  refine sumTo_zero fun i hi => wterm_low (by omega)
theorem limbs_mul (a b : Nat) : (limbs (a * b)).length ≤ (limbs a).length + (limbs b).length := by
  refine digB_len_le b32 ?_
  rw [Nat.pow_add]
  exact Nat.mul_lt_mul'' (digB_lt b32 a) (digB_lt b32 b)
theorem big_zero (w : World) (base : Nat) : Big w base (.slice none 0 0) 0 := by unfold Big limbs; rw [digB_zero]; exact Own.nil
theorem ways_len {total bad sample seen k : Nat} (hb : bad ≤ total) (ht : total ≤ 512) (hk : k ≤ 513) : (limbs (sumTo (wterm total bad sample) k)).length ≤ 17 := by
  have h := ways_le (total := total) (bad := bad) (sample := sample) (seen := k) hb
  rw [ways_sum] at h
  have h1 : sumTo (wterm total bad sample) k ≤ sumTo (wterm total bad sample) (k + 1) := sumTo_mono _ (by omega)
  refine limbs_len (m := total + 10) ?_ (by omega)
  have h2 : (k + 1) * 2 ^ total < 1024 * 2 ^ total := Nat.mul_lt_mul_of_pos_right (by omega) (Nat.pow_pos (by decide))
  rw [Nat.pow_add, Nat.mul_comm (2 ^ total)]
  change _ < 1024 * 2 ^ total
  omega

set_option maxRecDepth 100000 in
set_option maxHeartbeats 8000000 in
theorem ways_any (total bad sample seen : Nat) (w : World) (ht : total ≤ 512) (hb : bad ≤ total) (hs : sample ≤ total) (hse : seen ≤ sample) :
    Calls Try.prog 205 #[.int .i64 total, .int .i64 bad, .int .i64 sample, .int .i64 seen] w fun e w' => ∃ v, e = .returned v ∧ Big w' w.heap.size v (waysN total bad sample seen) ∧ Below w.heap.size w w' := by
  obtain ⟨N, hN⟩ : ∃ N : Nat, (total : Int) - (bad : Int) = (N : Int) := ⟨total - bad, by omega⟩
  obtain ⟨F, hF⟩ : ∃ F, F = sample - (total - bad) := ⟨_, rfl⟩
  obtain ⟨M, hM⟩ : ∃ M, seen ≤ bad ∧ M = seen ∨ bad < seen ∧ M = bad := by
    rcases Nat.lt_or_ge bad seen with h | h
    · exact ⟨_, .inr ⟨h, rfl⟩⟩
    · exact ⟨_, .inl ⟨h, rfl⟩⟩
  have hNe : Hid (N = total - bad) := Lib.hid (by omega)
  have fF : Hid (sumTo (wterm total bad sample) F = 0) := Lib.hid (sum_low hF)
  have fM : Hid (sumTo (wterm total bad sample) (M + 1) = waysN total bad sample seen) := Lib.hid (sum_all hM)
  have f0 : Hid (M < F → waysN total bad sample seen = 0) := Lib.hid (sum_none hF hM)
  have hF2 : (sample : Int) - (N : Int) = (F : Int) ∧ N < sample ∨ sample ≤ N ∧ F = 0 := by omega
  have HF := Lib.hid hF
  clear hF
  rcases hF2 with ⟨hf1, hf2⟩ | ⟨hf1, rfl⟩ <;> rcases hM with ⟨hm1, hm2⟩ | ⟨hm1, hm2⟩ <;> subst hm2
  · by_cases hFM : M < F
    · rw [f0.out hFM]
      go_enter Try.func205, Try.ntmps205
      go_wp2_with fail
      go_ret
      exact ⟨_, rfl, big_zero _ _, Below.refl _ _⟩
    · obtain ⟨G, hG⟩ : ∃ G : Nat, (sample : Int) - (F : Int) = (G : Int) := ⟨sample - F, by omega⟩
      have hGe : Hid (G = sample - F) := Lib.hid (by omega)
      have hFs : F ≤ sample := by omega
      have hMi : M ≤ 512 := by omega
      go_enter Try.func205, Try.ntmps205
      go_wp2_with fail
      refine (choose_any bad F _ (by omega) (by omega)).mono ?_
      rintro e w1 ⟨va, rfl, ba, hb1⟩
      go_wp2_with fail
      refine (choose_any N G _ (by omega) (by omega)).mono ?_
      rintro e w2 ⟨vb, rfl, bb, hb2⟩
      go_wp2_with fail
      go_loopw [9, 11, 12, 13] (fun vs va vb i wr => ∃ j : Nat, F ≤ j ∧ j ≤ M + 1 ∧ i = .int .i64 j ∧ Big wr w.heap.size vs (sumTo (wterm total bad sample) j) ∧ Big wr w.heap.size va (ch bad j) ∧ Big wr w.heap.size vb (ch N (sample - j)) ∧ Below w.heap.size w wr) (fun _ _ _ i _ => M + 1 - (intOf i).toNat)
      case atStart => exact ⟨F, Nat.le_refl _, by omega, rfl, by rw [fF.out]; exact big_zero _ _, ba.below hb2, by rw [← hGe.out]; exact bb.down hb1.size, below_trans hb1 hb2⟩
      case round =>
        obtain ⟨j, hj1, hj2, rfl, bs, ba3, bb3, hb3⟩ := hrel
        clear ba bb
        by_cases hlt : j ≤ M
        · obtain ⟨As, cs, rfl, ns⟩ := bs.nt
          obtain ⟨Aa, ca, rfl, na⟩ := ba3.nt
          obtain ⟨Ab, cb, rfl, nb⟩ := bb3.nt
          have la := ch_len (n := bad) (k := j) (by omega)
          have lb := ch_len (n := N) (k := sample - j) (by omega)
          have ls := ways_len (total := total) (bad := bad) (sample := sample) (seen := 0) (k := j) hb ht (by omega)
          have hjN : Hid (sample - j ≤ N) := Lib.hid (by have := HF.out; have := hNe.out; omega)
          have hst : Hid (sumTo (wterm total bad sample) j + ch bad j * ch N (sample - j) = sumTo (wterm total bad sample) (j + 1)) := Lib.hid (by rw [hNe.out]; rfl)
          have c1 := times_any Aa ca _ Ab cb _ wr na nb (by omega) (by omega)
          rw [V_limbs, V_limbs] at c1
          go_wp2_with fail
          refine c1.mono ?_
          rintro e w4 ⟨v4, rfl, b4, hb4⟩
          obtain ⟨A4, c4, hv4, n4⟩ := b4.nt
          rw [hv4]
          have l4 : (limbs (ch bad j * ch N (sample - j))).length ≤ 1000000 := by
            have := limbs_mul (ch bad j) (ch N (sample - j)); omega
          have c2 := plus_any As cs _ A4 c4 _ w4 (ns.on hb4) n4 (by omega) l4
          rw [V_limbs, V_limbs, hst.out] at c2
          go_wp2_with fail
          refine c2.mono ?_
          rintro e w5 ⟨v5, rfl, b5, hb5⟩
          have q5 := below_trans hb4 hb5
          have c3 := next_any Aa ca _ bad j w5 (na.on q5) (by omega) (by omega) (by omega)
          rw [V_limbs, ch_div] at c3
          go_wp2_with fail
          refine c3.mono ?_
          rintro e w6 ⟨v6, rfl, b6, hb6⟩
          have q6 := below_trans q5 hb6
          have r6 := hb3.trans (q6.mono hb3.size)
          have s6 : wr.heap.size ≤ w5.heap.size := q5.size
          have s3 := hb3.size
          have s4 := hb4.size
          clear c1 c2 c3 hv4
          by_cases hjs : j < sample
          · obtain ⟨g, hg⟩ : ∃ g : Nat, (sample : Int) - (j : Int) = (g : Int) := ⟨sample - j, by omega⟩
            have hge : Hid (g = sample - j) := Lib.hid (by omega)
            have hg0 : 0 < g := by omega
            have hgN : g ≤ N := by have := hjN.out; omega
            obtain ⟨d, hd⟩ : ∃ d : Nat, (N : Int) - (g : Int) + 1 = (d : Int) := ⟨N - g + 1, by omega⟩
            have hde : Hid (d = N - (g - 1) ∧ g - 1 < N ∧ g = g - 1 + 1 ∧ sample - (j + 1) = g - 1) := Lib.hid (by have := hge.out; omega)
            have g2 : (g : Int) % 4294967296 = (g : Int) := by omega
            have d2 : (d : Int) % 4294967296 = (d : Int) := by omega
            have hd0 : 0 < d := by omega
            have hd1 : d < 4294967296 := by omega
            have hg1 : g < 4294967296 := by omega
            rw [← hge.out] at nb lb
            have hbA := below_alloc q6 (.cells #[.int .u32 (g : Int)] 127)
            have c7 := times_any Ab cb _ _ 1 [g] _ (nb.on hbA) (nt_one w6 g 127 hg1) (by omega) (by simp)
            rw [V_limbs, V_one, List.length_singleton] at c7
            have HlenB : Hid ((limbs (ch N (sample - j))).length = (limbs (ch N g)).length) := Lib.hid (by rw [hge.out])
            rw [HlenB.out]
            go_wp2_with fail
            refine c7.mono ?_
            rintro e w7 ⟨v7, rfl, b7, hb7⟩
            obtain ⟨A7, c7', hv7, n7⟩ := b7.nt
            rw [hv7]
            have l7 : (limbs (ch N g * g)).length ≤ 1000000 := by
              have := limbs_mul (ch N g) g; have := limbs_len (n := g) (k := 1) (m := 32) hg1 (by omega); omega
            have q7 := below_trans hbA hb7
            have c8 := split_any A7 c7' _ _ 1 [d] _ (n7.on (below_alloc (Below.refl _ _) (.cells #[.int .u32 (d : Int)] 127))) (nt_one w7 d 127 hd1) l7 (by simp) (by rw [V_one]; exact hd0)
            rw [V_one, List.length_singleton, V_limbs] at c8
            have ed : ch N g * g / d = ch N (sample - (j + 1)) := by
              obtain ⟨h1, h2, h3, h4⟩ := hde.out
              rw [h1, h4]
              conv => lhs; rw [h3]
              simp only [Nat.add_sub_cancel]
              exact ch_back h2
            rw [ed] at c8
            go_wp2_with fail
            refine c8.mono ?_
            rintro e w8 ⟨v8, v9, rfl, b8, b9, hb8⟩
            have q8 := below_trans (below_alloc q7 (.cells #[.int .u32 (d : Int)] 127)) hb8
            have t6 : Below w6.heap.size w6 w8 := below_trans (below_alloc (below_trans (below_alloc (Below.refl _ _) _) hb7) _) hb8
            have t5 : Below w5.heap.size w5 w8 := below_trans hb6 t6
            have s7 : w.heap.size ≤ w7.heap.size := by have := q7.size; omega
            clear c7 c8 hv7 ed
            go_wp2_with fail
            go_roundw
            case rel => first | exact ⟨j + 1, by omega, by omega, by go_num, (b5.below t5).down (by omega), (b6.below t6).down (by omega), b8.down (by simp; omega), hb3.trans (q8.mono hb3.size)⟩ | ((repeat apply Exists.intro); exact ⟨⟨j + 1, by omega, by omega, by go_num, (b5.below t5).down (by omega), (b6.below t6).down (by omega), b8.down (by simp; omega), hb3.trans (q8.mono hb3.size)⟩, rfl⟩)
            case measure => (simp [intOf] <;> omega)
          · obtain rfl : j = sample := by omega
            have hg : (j : Int) - (j : Int) = 0 := by omega
            have e0 : j - (j + 1) = j - j := by omega
            go_wp2_with fail
            go_roundw
            case rel => first | exact ⟨j + 1, by omega, by omega, by go_num, (b5.below hb6).down (by omega), b6.down (by omega), by have := bb3.below q6; rw [Nat.sub_self] at this; rw [e0, Nat.sub_self]; exact this, r6⟩ | ((repeat apply Exists.intro); exact ⟨⟨j + 1, by omega, by omega, by go_num, (b5.below hb6).down (by omega), b6.down (by omega), by have := bb3.below q6; rw [Nat.sub_self] at this; rw [e0, Nat.sub_self]; exact this, r6⟩, rfl⟩)
            case measure => (simp [intOf] <;> omega)
        · obtain rfl : j = M + 1 := by omega
          go_wp2_with fail
          go_ret
          exact ⟨_, rfl, by rw [← fM.out]; exact bs, hb3⟩
  · by_cases hFM : M < F
    · exfalso; omega
    · obtain ⟨G, hG⟩ : ∃ G : Nat, (sample : Int) - (F : Int) = (G : Int) := ⟨sample - F, by omega⟩
      have hGe : Hid (G = sample - F) := Lib.hid (by omega)
      have hFs : F ≤ sample := by omega
      have hMi : M ≤ 512 := by omega
      go_enter Try.func205, Try.ntmps205
      go_wp2_with fail
      refine (choose_any M F _ (by omega) (by omega)).mono ?_
      rintro e w1 ⟨va, rfl, ba, hb1⟩
      go_wp2_with fail
      refine (choose_any N G _ (by omega) (by omega)).mono ?_
      rintro e w2 ⟨vb, rfl, bb, hb2⟩
      go_wp2_with fail
      go_loopw [9, 11, 12, 13] (fun vs va vb i wr => ∃ j : Nat, F ≤ j ∧ j ≤ M + 1 ∧ i = .int .i64 j ∧ Big wr w.heap.size vs (sumTo (wterm total M sample) j) ∧ Big wr w.heap.size va (ch M j) ∧ Big wr w.heap.size vb (ch N (sample - j)) ∧ Below w.heap.size w wr) (fun _ _ _ i _ => M + 1 - (intOf i).toNat)
      case atStart => exact ⟨F, Nat.le_refl _, by omega, rfl, by rw [fF.out]; exact big_zero _ _, ba.below hb2, by rw [← hGe.out]; exact bb.down hb1.size, below_trans hb1 hb2⟩
      case round =>
        obtain ⟨j, hj1, hj2, rfl, bs, ba3, bb3, hb3⟩ := hrel
        clear ba bb
        by_cases hlt : j ≤ M
        · obtain ⟨As, cs, rfl, ns⟩ := bs.nt
          obtain ⟨Aa, ca, rfl, na⟩ := ba3.nt
          obtain ⟨Ab, cb, rfl, nb⟩ := bb3.nt
          have la := ch_len (n := M) (k := j) (by omega)
          have lb := ch_len (n := N) (k := sample - j) (by omega)
          have ls := ways_len (total := total) (bad := M) (sample := sample) (seen := 0) (k := j) hb ht (by omega)
          have hjN : Hid (sample - j ≤ N) := Lib.hid (by have := HF.out; have := hNe.out; omega)
          have hst : Hid (sumTo (wterm total M sample) j + ch M j * ch N (sample - j) = sumTo (wterm total M sample) (j + 1)) := Lib.hid (by rw [hNe.out]; rfl)
          have c1 := times_any Aa ca _ Ab cb _ wr na nb (by omega) (by omega)
          rw [V_limbs, V_limbs] at c1
          go_wp2_with fail
          refine c1.mono ?_
          rintro e w4 ⟨v4, rfl, b4, hb4⟩
          obtain ⟨A4, c4, hv4, n4⟩ := b4.nt
          rw [hv4]
          have l4 : (limbs (ch M j * ch N (sample - j))).length ≤ 1000000 := by
            have := limbs_mul (ch M j) (ch N (sample - j)); omega
          have c2 := plus_any As cs _ A4 c4 _ w4 (ns.on hb4) n4 (by omega) l4
          rw [V_limbs, V_limbs, hst.out] at c2
          go_wp2_with fail
          refine c2.mono ?_
          rintro e w5 ⟨v5, rfl, b5, hb5⟩
          have q5 := below_trans hb4 hb5
          have c3 := next_any Aa ca _ M j w5 (na.on q5) (by omega) (by omega) (by omega)
          rw [V_limbs, ch_div] at c3
          go_wp2_with fail
          refine c3.mono ?_
          rintro e w6 ⟨v6, rfl, b6, hb6⟩
          have q6 := below_trans q5 hb6
          have r6 := hb3.trans (q6.mono hb3.size)
          have s6 : wr.heap.size ≤ w5.heap.size := q5.size
          have s3 := hb3.size
          have s4 := hb4.size
          clear c1 c2 c3 hv4
          by_cases hjs : j < sample
          · obtain ⟨g, hg⟩ : ∃ g : Nat, (sample : Int) - (j : Int) = (g : Int) := ⟨sample - j, by omega⟩
            have hge : Hid (g = sample - j) := Lib.hid (by omega)
            have hg0 : 0 < g := by omega
            have hgN : g ≤ N := by have := hjN.out; omega
            obtain ⟨d, hd⟩ : ∃ d : Nat, (N : Int) - (g : Int) + 1 = (d : Int) := ⟨N - g + 1, by omega⟩
            have hde : Hid (d = N - (g - 1) ∧ g - 1 < N ∧ g = g - 1 + 1 ∧ sample - (j + 1) = g - 1) := Lib.hid (by have := hge.out; omega)
            have g2 : (g : Int) % 4294967296 = (g : Int) := by omega
            have d2 : (d : Int) % 4294967296 = (d : Int) := by omega
            have hd0 : 0 < d := by omega
            have hd1 : d < 4294967296 := by omega
            have hg1 : g < 4294967296 := by omega
            rw [← hge.out] at nb lb
            have hbA := below_alloc q6 (.cells #[.int .u32 (g : Int)] 127)
            have c7 := times_any Ab cb _ _ 1 [g] _ (nb.on hbA) (nt_one w6 g 127 hg1) (by omega) (by simp)
            rw [V_limbs, V_one, List.length_singleton] at c7
            have HlenB : Hid ((limbs (ch N (sample - j))).length = (limbs (ch N g)).length) := Lib.hid (by rw [hge.out])
            rw [HlenB.out]
            go_wp2_with fail
            refine c7.mono ?_
            rintro e w7 ⟨v7, rfl, b7, hb7⟩
            obtain ⟨A7, c7', hv7, n7⟩ := b7.nt
            rw [hv7]
            have l7 : (limbs (ch N g * g)).length ≤ 1000000 := by
              have := limbs_mul (ch N g) g; have := limbs_len (n := g) (k := 1) (m := 32) hg1 (by omega); omega
            have q7 := below_trans hbA hb7
            have c8 := split_any A7 c7' _ _ 1 [d] _ (n7.on (below_alloc (Below.refl _ _) (.cells #[.int .u32 (d : Int)] 127))) (nt_one w7 d 127 hd1) l7 (by simp) (by rw [V_one]; exact hd0)
            rw [V_one, List.length_singleton, V_limbs] at c8
            have ed : ch N g * g / d = ch N (sample - (j + 1)) := by
              obtain ⟨h1, h2, h3, h4⟩ := hde.out
              rw [h1, h4]
              conv => lhs; rw [h3]
              simp only [Nat.add_sub_cancel]
              exact ch_back h2
            rw [ed] at c8
            go_wp2_with fail
            refine c8.mono ?_
            rintro e w8 ⟨v8, v9, rfl, b8, b9, hb8⟩
            have q8 := below_trans (below_alloc q7 (.cells #[.int .u32 (d : Int)] 127)) hb8
            have t6 : Below w6.heap.size w6 w8 := below_trans (below_alloc (below_trans (below_alloc (Below.refl _ _) _) hb7) _) hb8
            have t5 : Below w5.heap.size w5 w8 := below_trans hb6 t6
            have s7 : w.heap.size ≤ w7.heap.size := by have := q7.size; omega
            clear c7 c8 hv7 ed
            go_wp2_with fail
            go_roundw
            case rel => first | exact ⟨j + 1, by omega, by omega, by go_num, (b5.below t5).down (by omega), (b6.below t6).down (by omega), b8.down (by simp; omega), hb3.trans (q8.mono hb3.size)⟩ | ((repeat apply Exists.intro); exact ⟨⟨j + 1, by omega, by omega, by go_num, (b5.below t5).down (by omega), (b6.below t6).down (by omega), b8.down (by simp; omega), hb3.trans (q8.mono hb3.size)⟩, rfl⟩)
            case measure => (simp [intOf] <;> omega)
          · obtain rfl : j = sample := by omega
            have hg : (j : Int) - (j : Int) = 0 := by omega
            have e0 : j - (j + 1) = j - j := by omega
            go_wp2_with fail
            go_roundw
            case rel => first | exact ⟨j + 1, by omega, by omega, by go_num, (b5.below hb6).down (by omega), b6.down (by omega), by have := bb3.below q6; rw [Nat.sub_self] at this; rw [e0, Nat.sub_self]; exact this, r6⟩ | ((repeat apply Exists.intro); exact ⟨⟨j + 1, by omega, by omega, by go_num, (b5.below hb6).down (by omega), b6.down (by omega), by have := bb3.below q6; rw [Nat.sub_self] at this; rw [e0, Nat.sub_self]; exact this, r6⟩, rfl⟩)
            case measure => (simp [intOf] <;> omega)
        · obtain rfl : j = M + 1 := by omega
          go_wp2_with fail
          go_ret
          exact ⟨_, rfl, by rw [← fM.out]; exact bs, hb3⟩
  · have hGe : Hid (sample = sample - 0) := Lib.hid rfl
    have hMi : M ≤ 512 := by omega
    go_enter Try.func205, Try.ntmps205
    go_wp2_with fail
    refine (choose_any bad 0 _ (by omega) (by omega)).mono ?_
    rintro e w1 ⟨va, rfl, ba, hb1⟩
    go_wp2_with fail
    refine (choose_any N sample _ (by omega) (by omega)).mono ?_
    rintro e w2 ⟨vb, rfl, bb, hb2⟩
    go_wp2_with fail
    go_loopw [9, 11, 12, 13] (fun vs va vb i wr => ∃ j : Nat, 0 ≤ j ∧ j ≤ M + 1 ∧ i = .int .i64 j ∧ Big wr w.heap.size vs (sumTo (wterm total bad sample) j) ∧ Big wr w.heap.size va (ch bad j) ∧ Big wr w.heap.size vb (ch N (sample - j)) ∧ Below w.heap.size w wr) (fun _ _ _ i _ => M + 1 - (intOf i).toNat)
    case atStart => exact ⟨0, Nat.le_refl _, by omega, rfl, by rw [fF.out]; exact big_zero _ _, ba.below hb2, by rw [← hGe.out]; exact bb.down hb1.size, below_trans hb1 hb2⟩
    case round =>
      obtain ⟨j, hj1, hj2, rfl, bs, ba3, bb3, hb3⟩ := hrel
      clear ba bb
      by_cases hlt : j ≤ M
      · obtain ⟨As, cs, rfl, ns⟩ := bs.nt
        obtain ⟨Aa, ca, rfl, na⟩ := ba3.nt
        obtain ⟨Ab, cb, rfl, nb⟩ := bb3.nt
        have la := ch_len (n := bad) (k := j) (by omega)
        have lb := ch_len (n := N) (k := sample - j) (by omega)
        have ls := ways_len (total := total) (bad := bad) (sample := sample) (seen := 0) (k := j) hb ht (by omega)
        have hjN : Hid (sample - j ≤ N) := Lib.hid (by have := HF.out; have := hNe.out; omega)
        have hst : Hid (sumTo (wterm total bad sample) j + ch bad j * ch N (sample - j) = sumTo (wterm total bad sample) (j + 1)) := Lib.hid (by rw [hNe.out]; rfl)
        have c1 := times_any Aa ca _ Ab cb _ wr na nb (by omega) (by omega)
        rw [V_limbs, V_limbs] at c1
        go_wp2_with fail
        refine c1.mono ?_
        rintro e w4 ⟨v4, rfl, b4, hb4⟩
        obtain ⟨A4, c4, hv4, n4⟩ := b4.nt
        rw [hv4]
        have l4 : (limbs (ch bad j * ch N (sample - j))).length ≤ 1000000 := by
          have := limbs_mul (ch bad j) (ch N (sample - j)); omega
        have c2 := plus_any As cs _ A4 c4 _ w4 (ns.on hb4) n4 (by omega) l4
        rw [V_limbs, V_limbs, hst.out] at c2
        go_wp2_with fail
        refine c2.mono ?_
        rintro e w5 ⟨v5, rfl, b5, hb5⟩
        have q5 := below_trans hb4 hb5
        have c3 := next_any Aa ca _ bad j w5 (na.on q5) (by omega) (by omega) (by omega)
        rw [V_limbs, ch_div] at c3
        go_wp2_with fail
        refine c3.mono ?_
        rintro e w6 ⟨v6, rfl, b6, hb6⟩
        have q6 := below_trans q5 hb6
        have r6 := hb3.trans (q6.mono hb3.size)
        have s6 : wr.heap.size ≤ w5.heap.size := q5.size
        have s3 := hb3.size
        have s4 := hb4.size
        clear c1 c2 c3 hv4
        by_cases hjs : j < sample
        · obtain ⟨g, hg⟩ : ∃ g : Nat, (sample : Int) - (j : Int) = (g : Int) := ⟨sample - j, by omega⟩
          have hge : Hid (g = sample - j) := Lib.hid (by omega)
          have hg0 : 0 < g := by omega
          have hgN : g ≤ N := by have := hjN.out; omega
          obtain ⟨d, hd⟩ : ∃ d : Nat, (N : Int) - (g : Int) + 1 = (d : Int) := ⟨N - g + 1, by omega⟩
          have hde : Hid (d = N - (g - 1) ∧ g - 1 < N ∧ g = g - 1 + 1 ∧ sample - (j + 1) = g - 1) := Lib.hid (by have := hge.out; omega)
          have g2 : (g : Int) % 4294967296 = (g : Int) := by omega
          have d2 : (d : Int) % 4294967296 = (d : Int) := by omega
          have hd0 : 0 < d := by omega
          have hd1 : d < 4294967296 := by omega
          have hg1 : g < 4294967296 := by omega
          rw [← hge.out] at nb lb
          have hbA := below_alloc q6 (.cells #[.int .u32 (g : Int)] 127)
          have c7 := times_any Ab cb _ _ 1 [g] _ (nb.on hbA) (nt_one w6 g 127 hg1) (by omega) (by simp)
          rw [V_limbs, V_one, List.length_singleton] at c7
          have HlenB : Hid ((limbs (ch N (sample - j))).length = (limbs (ch N g)).length) := Lib.hid (by rw [hge.out])
          rw [HlenB.out]
          go_wp2_with fail
          refine c7.mono ?_
          rintro e w7 ⟨v7, rfl, b7, hb7⟩
          obtain ⟨A7, c7', hv7, n7⟩ := b7.nt
          rw [hv7]
          have l7 : (limbs (ch N g * g)).length ≤ 1000000 := by
            have := limbs_mul (ch N g) g; have := limbs_len (n := g) (k := 1) (m := 32) hg1 (by omega); omega
          have q7 := below_trans hbA hb7
          have c8 := split_any A7 c7' _ _ 1 [d] _ (n7.on (below_alloc (Below.refl _ _) (.cells #[.int .u32 (d : Int)] 127))) (nt_one w7 d 127 hd1) l7 (by simp) (by rw [V_one]; exact hd0)
          rw [V_one, List.length_singleton, V_limbs] at c8
          have ed : ch N g * g / d = ch N (sample - (j + 1)) := by
            obtain ⟨h1, h2, h3, h4⟩ := hde.out
            rw [h1, h4]
            conv => lhs; rw [h3]
            simp only [Nat.add_sub_cancel]
            exact ch_back h2
          rw [ed] at c8
          go_wp2_with fail
          refine c8.mono ?_
          rintro e w8 ⟨v8, v9, rfl, b8, b9, hb8⟩
          have q8 := below_trans (below_alloc q7 (.cells #[.int .u32 (d : Int)] 127)) hb8
          have t6 : Below w6.heap.size w6 w8 := below_trans (below_alloc (below_trans (below_alloc (Below.refl _ _) _) hb7) _) hb8
          have t5 : Below w5.heap.size w5 w8 := below_trans hb6 t6
          have s7 : w.heap.size ≤ w7.heap.size := by have := q7.size; omega
          clear c7 c8 hv7 ed
          go_wp2_with fail
          go_roundw
          case rel => first | exact ⟨j + 1, by omega, by omega, by go_num, (b5.below t5).down (by omega), (b6.below t6).down (by omega), b8.down (by simp; omega), hb3.trans (q8.mono hb3.size)⟩ | ((repeat apply Exists.intro); exact ⟨⟨j + 1, by omega, by omega, by go_num, (b5.below t5).down (by omega), (b6.below t6).down (by omega), b8.down (by simp; omega), hb3.trans (q8.mono hb3.size)⟩, rfl⟩)
          case measure => (simp [intOf] <;> omega)
        · obtain rfl : j = sample := by omega
          have hg : (j : Int) - (j : Int) = 0 := by omega
          have e0 : j - (j + 1) = j - j := by omega
          go_wp2_with fail
          go_roundw
          case rel => first | exact ⟨j + 1, by omega, by omega, by go_num, (b5.below hb6).down (by omega), b6.down (by omega), by have := bb3.below q6; rw [Nat.sub_self] at this; rw [e0, Nat.sub_self]; exact this, r6⟩ | ((repeat apply Exists.intro); exact ⟨⟨j + 1, by omega, by omega, by go_num, (b5.below hb6).down (by omega), b6.down (by omega), by have := bb3.below q6; rw [Nat.sub_self] at this; rw [e0, Nat.sub_self]; exact this, r6⟩, rfl⟩)
          case measure => (simp [intOf] <;> omega)
      · obtain rfl : j = M + 1 := by omega
        go_wp2_with fail
        go_ret
        exact ⟨_, rfl, by rw [← fM.out]; exact bs, hb3⟩
  · have hGe : Hid (sample = sample - 0) := Lib.hid rfl
    have hMi : M ≤ 512 := by omega
    go_enter Try.func205, Try.ntmps205
    go_wp2_with fail
    refine (choose_any M 0 _ (by omega) (by omega)).mono ?_
    rintro e w1 ⟨va, rfl, ba, hb1⟩
    go_wp2_with fail
    refine (choose_any N sample _ (by omega) (by omega)).mono ?_
    rintro e w2 ⟨vb, rfl, bb, hb2⟩
    go_wp2_with fail
    go_loopw [9, 11, 12, 13] (fun vs va vb i wr => ∃ j : Nat, 0 ≤ j ∧ j ≤ M + 1 ∧ i = .int .i64 j ∧ Big wr w.heap.size vs (sumTo (wterm total M sample) j) ∧ Big wr w.heap.size va (ch M j) ∧ Big wr w.heap.size vb (ch N (sample - j)) ∧ Below w.heap.size w wr) (fun _ _ _ i _ => M + 1 - (intOf i).toNat)
    case atStart => exact ⟨0, Nat.le_refl _, by omega, rfl, by rw [fF.out]; exact big_zero _ _, ba.below hb2, by rw [← hGe.out]; exact bb.down hb1.size, below_trans hb1 hb2⟩
    case round =>
      obtain ⟨j, hj1, hj2, rfl, bs, ba3, bb3, hb3⟩ := hrel
      clear ba bb
      by_cases hlt : j ≤ M
      · obtain ⟨As, cs, rfl, ns⟩ := bs.nt
        obtain ⟨Aa, ca, rfl, na⟩ := ba3.nt
        obtain ⟨Ab, cb, rfl, nb⟩ := bb3.nt
        have la := ch_len (n := M) (k := j) (by omega)
        have lb := ch_len (n := N) (k := sample - j) (by omega)
        have ls := ways_len (total := total) (bad := M) (sample := sample) (seen := 0) (k := j) hb ht (by omega)
        have hjN : Hid (sample - j ≤ N) := Lib.hid (by have := HF.out; have := hNe.out; omega)
        have hst : Hid (sumTo (wterm total M sample) j + ch M j * ch N (sample - j) = sumTo (wterm total M sample) (j + 1)) := Lib.hid (by rw [hNe.out]; rfl)
        have c1 := times_any Aa ca _ Ab cb _ wr na nb (by omega) (by omega)
        rw [V_limbs, V_limbs] at c1
        go_wp2_with fail
        refine c1.mono ?_
        rintro e w4 ⟨v4, rfl, b4, hb4⟩
        obtain ⟨A4, c4, hv4, n4⟩ := b4.nt
        rw [hv4]
        have l4 : (limbs (ch M j * ch N (sample - j))).length ≤ 1000000 := by
          have := limbs_mul (ch M j) (ch N (sample - j)); omega
        have c2 := plus_any As cs _ A4 c4 _ w4 (ns.on hb4) n4 (by omega) l4
        rw [V_limbs, V_limbs, hst.out] at c2
        go_wp2_with fail
        refine c2.mono ?_
        rintro e w5 ⟨v5, rfl, b5, hb5⟩
        have q5 := below_trans hb4 hb5
        have c3 := next_any Aa ca _ M j w5 (na.on q5) (by omega) (by omega) (by omega)
        rw [V_limbs, ch_div] at c3
        go_wp2_with fail
        refine c3.mono ?_
        rintro e w6 ⟨v6, rfl, b6, hb6⟩
        have q6 := below_trans q5 hb6
        have r6 := hb3.trans (q6.mono hb3.size)
        have s6 : wr.heap.size ≤ w5.heap.size := q5.size
        have s3 := hb3.size
        have s4 := hb4.size
        clear c1 c2 c3 hv4
        by_cases hjs : j < sample
        · obtain ⟨g, hg⟩ : ∃ g : Nat, (sample : Int) - (j : Int) = (g : Int) := ⟨sample - j, by omega⟩
          have hge : Hid (g = sample - j) := Lib.hid (by omega)
          have hg0 : 0 < g := by omega
          have hgN : g ≤ N := by have := hjN.out; omega
          obtain ⟨d, hd⟩ : ∃ d : Nat, (N : Int) - (g : Int) + 1 = (d : Int) := ⟨N - g + 1, by omega⟩
          have hde : Hid (d = N - (g - 1) ∧ g - 1 < N ∧ g = g - 1 + 1 ∧ sample - (j + 1) = g - 1) := Lib.hid (by have := hge.out; omega)
          have g2 : (g : Int) % 4294967296 = (g : Int) := by omega
          have d2 : (d : Int) % 4294967296 = (d : Int) := by omega
          have hd0 : 0 < d := by omega
          have hd1 : d < 4294967296 := by omega
          have hg1 : g < 4294967296 := by omega
          rw [← hge.out] at nb lb
          have hbA := below_alloc q6 (.cells #[.int .u32 (g : Int)] 127)
          have c7 := times_any Ab cb _ _ 1 [g] _ (nb.on hbA) (nt_one w6 g 127 hg1) (by omega) (by simp)
          rw [V_limbs, V_one, List.length_singleton] at c7
          have HlenB : Hid ((limbs (ch N (sample - j))).length = (limbs (ch N g)).length) := Lib.hid (by rw [hge.out])
          rw [HlenB.out]
          go_wp2_with fail
          refine c7.mono ?_
          rintro e w7 ⟨v7, rfl, b7, hb7⟩
          obtain ⟨A7, c7', hv7, n7⟩ := b7.nt
          rw [hv7]
          have l7 : (limbs (ch N g * g)).length ≤ 1000000 := by
            have := limbs_mul (ch N g) g; have := limbs_len (n := g) (k := 1) (m := 32) hg1 (by omega); omega
          have q7 := below_trans hbA hb7
          have c8 := split_any A7 c7' _ _ 1 [d] _ (n7.on (below_alloc (Below.refl _ _) (.cells #[.int .u32 (d : Int)] 127))) (nt_one w7 d 127 hd1) l7 (by simp) (by rw [V_one]; exact hd0)
          rw [V_one, List.length_singleton, V_limbs] at c8
          have ed : ch N g * g / d = ch N (sample - (j + 1)) := by
            obtain ⟨h1, h2, h3, h4⟩ := hde.out
            rw [h1, h4]
            conv => lhs; rw [h3]
            simp only [Nat.add_sub_cancel]
            exact ch_back h2
          rw [ed] at c8
          go_wp2_with fail
          refine c8.mono ?_
          rintro e w8 ⟨v8, v9, rfl, b8, b9, hb8⟩
          have q8 := below_trans (below_alloc q7 (.cells #[.int .u32 (d : Int)] 127)) hb8
          have t6 : Below w6.heap.size w6 w8 := below_trans (below_alloc (below_trans (below_alloc (Below.refl _ _) _) hb7) _) hb8
          have t5 : Below w5.heap.size w5 w8 := below_trans hb6 t6
          have s7 : w.heap.size ≤ w7.heap.size := by have := q7.size; omega
          clear c7 c8 hv7 ed
          go_wp2_with fail
          go_roundw
          case rel => first | exact ⟨j + 1, by omega, by omega, by go_num, (b5.below t5).down (by omega), (b6.below t6).down (by omega), b8.down (by simp; omega), hb3.trans (q8.mono hb3.size)⟩ | ((repeat apply Exists.intro); exact ⟨⟨j + 1, by omega, by omega, by go_num, (b5.below t5).down (by omega), (b6.below t6).down (by omega), b8.down (by simp; omega), hb3.trans (q8.mono hb3.size)⟩, rfl⟩)
          case measure => (simp [intOf] <;> omega)
        · obtain rfl : j = sample := by omega
          have hg : (j : Int) - (j : Int) = 0 := by omega
          have e0 : j - (j + 1) = j - j := by omega
          go_wp2_with fail
          go_roundw
          case rel => first | exact ⟨j + 1, by omega, by omega, by go_num, (b5.below hb6).down (by omega), b6.down (by omega), by have := bb3.below q6; rw [Nat.sub_self] at this; rw [e0, Nat.sub_self]; exact this, r6⟩ | ((repeat apply Exists.intro); exact ⟨⟨j + 1, by omega, by omega, by go_num, (b5.below hb6).down (by omega), b6.down (by omega), by have := bb3.below q6; rw [Nat.sub_self] at this; rw [e0, Nat.sub_self]; exact this, r6⟩, rfl⟩)
          case measure => (simp [intOf] <;> omega)
      · obtain rfl : j = M + 1 := by omega
        go_wp2_with fail
        go_ret
        exact ⟨_, rfl, by rw [← fM.out]; exact bs, hb3⟩

end Go.Proofs.Ytbobbcfjjdmdgaa
