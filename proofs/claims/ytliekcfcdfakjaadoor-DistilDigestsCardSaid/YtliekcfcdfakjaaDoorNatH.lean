/- Contracts of exact's Of, next, choose. For binomials of at most 512 things. -/
import Derived.Test.YtliekcfcdfakjaaDoorNatG
import Derived.Test.YtliekcfcdfakjaaDoorBino
namespace Go.Proofs.YtliekcfcdfakjaaDoor
open Go.RowKit
set_option linter.unusedVariables false
set_option linter.unusedSimpArgs false

theorem limbs_len {n k m : Nat} (h : n < 2 ^ m) (hm : m ≤ 32 * k) : (limbs n).length ≤ k := digB_len_le b32 (by rw [b32_pow]; exact Nat.lt_of_lt_of_le h (Nat.pow_le_pow_right (by decide) hm))
theorem nt_lit (w : World) (l : List Nat) (cs : Array Value) (T : TypeId) (hcs : cs.toList = l.flatMap enc32) (hd : Dig B32 l) (hl : l.length ≤ maxLen) : Nt (w.alloc (.cells cs T)) (some ⟨w.heap.size, 0, none⟩) l.length l :=
  ⟨arr_lit w l cs T hcs enc32_len, Nat.le_refl _, hl, hd, fun h => by cases h⟩
theorem nt_one (w : World) (e : Nat) (T : TypeId) (he : e < 4294967296) : Nt (w.alloc (.cells #[.int .u32 (e : Int)] T)) (some ⟨w.heap.size, 0, none⟩) 1 [e] :=
  nt_lit w [e] #[.int .u32 (e : Int)] T rfl (Dig.cons he Dig.nil) (by unfold maxLen; simp)
theorem V_one (e : Nat) : V [e] = e := valB_one e
theorem V_two (a b : Nat) : V [a, b] = a + 4294967296 * b := by simp [V, valB]

set_option maxRecDepth 100000 in
set_option maxHeartbeats 1000000 in
theorem Of_any (n : Nat) (w : World) (hn : n < 18446744073709551616) :
    Calls Tryd.prog 78 #[.int .u64 (n : Int)] w fun e w' => ∃ v, e = .returned v ∧ Big w' w.heap.size v n ∧ Below w.heap.size w w' := by
  obtain ⟨q, r, hq, hr, hqr⟩ := limbs2 n
  have q1 : q < 4294967296 := by have := hqr.out.1; change q = n / 4294967296 at this; omega
  have r1 : r < 4294967296 := by have := hqr.out.2; change r = n % 4294967296 at this; omega
  have q2 : (q : Int) % 4294967296 = (q : Int) := by omega
  have ev : V [r, q] = n := by rw [V_two]; have := hqr.out; simp only [B32] at this; omega
  have nt := nt_lit w [r, q] #[.int .u32 (r : Int), .int .u32 (q : Int)] 98 rfl (Dig.cons r1 (Dig.cons q1 Dig.nil)) (by unfold maxLen; simp)
  have cC := clone_any _ _ _ _ nt (by simp)
  rw [ev] at cC
  clear nt ev
  go_enter Tryd.func78, Tryd.ntmps78
  go_wp2_with (go_at_call 73; refine cC.mono ?_; rintro e w5 ⟨v, rfl, bR, hb5⟩)
  go_ret
  exact ⟨_, rfl, bR.down (by simp), below_trans (below_alloc (Below.refl _ _) _) hb5⟩

set_option maxRecDepth 100000 in
set_option maxHeartbeats 1000000 in
theorem next_any (A : Option Addr) (c : Nat) (l : List Nat) (n k : Nat) (w : World) (h : Nt w A c l) (hl : l.length ≤ 900000) (hn : n ≤ 1000000) (hk : k ≤ n) :
    Calls Tryd.prog 72 #[.slice A l.length c, .int .i64 n, .int .i64 k] w fun e w' => ∃ v, e = .returned v ∧ Big w' w.heap.size v (V l * (n - k) / (k + 1)) ∧ Below w.heap.size w w' := by
  obtain ⟨e, he⟩ : ∃ e, n - k = e := ⟨_, rfl⟩
  obtain ⟨d, hd⟩ : ∃ d, k + 1 = d := ⟨_, rfl⟩
  have e1 : (n : Int) - (k : Int) = (e : Int) := by omega
  have d1 : (k : Int) + 1 = (d : Int) := by omega
  have e2 : (e : Int) % 4294967296 = (e : Int) := by omega
  have d2 : (d : Int) % 4294967296 = (d : Int) := by omega
  have hd0 : 0 < d := by omega
  have e3 : e < 4294967296 := by omega
  have d3 : d < 4294967296 := by omega
  have hb0 := below_alloc (Below.refl w.heap.size w) (.cells #[.int .u32 (e : Int)] 98)
  have cM := times_any A c l _ 1 [e] _ (h.on hb0) (nt_one w e 98 e3) (by omega) (by simp)
  rw [V_one, List.length_singleton] at cM
  rw [he, hd]
  clear he hd
  go_enter Tryd.func72, Tryd.ntmps72
  go_wp2_with (go_at_call 76; refine cM.mono ?_; rintro e' w5 ⟨v, rfl, big5, hb5⟩)
  obtain ⟨A1, c1, hv, nt5⟩ := big5.nt
  rw [hv]
  have lb : (limbs (V l * e)).length ≤ 1000000 := by
    have h1 := valB_lt h.dig
    have h2 : V l * e < B32 ^ (l.length + 1) := by
      rw [Nat.pow_succ]; exact Nat.mul_lt_mul'' h1 e3
    have h3 := digB_len_le b32 h2
    unfold limbs; omega
  have q5 := below_alloc (below_trans hb0 hb5) (.cells #[.int .u32 (d : Int)] 98)
  have cS := split_any A1 c1 _ _ 1 [d] _ (nt5.on (below_alloc (Below.refl _ _) (.cells #[.int .u32 (d : Int)] 98))) (nt_one w5 d 98 d3) lb (by simp) (by rw [V_one]; exact hd0)
  rw [V_one, List.length_singleton, V_limbs] at cS
  refine cS.mono ?_
  rintro e' w6 ⟨v1, v2, rfl, b1, b2, hb6⟩
  go_wp2
  go_ret
  have := hb0.size
  have := hb5.size
  exact ⟨_, rfl, b1.down (by simp at *; omega), below_trans q5 hb6⟩

theorem ch_len {n k : Nat} (h : n ≤ 512) : (limbs (ch n k)).length ≤ 17 := by
  exact limbs_len (k := 17) (m := n + 1) (Nat.lt_of_le_of_lt (ch_le n k) (Nat.pow_lt_pow_right (by decide) (by omega))) (by omega)
theorem big_lit (w : World) (base e : Nat) (he : 0 < e) (hlt : e < 4294967296) (hb : base ≤ w.heap.size) : Big (w.alloc (.cells #[.int .u32 (e : Int)] 98)) base (.slice (some ⟨w.heap.size, 0, none⟩) 1 1) e := by
  have h1 : limbs e = [e] := by
    unfold limbs
    rw [digB_pos b32 he, Nat.mod_eq_of_lt hlt, Nat.div_eq_of_lt hlt, digB_zero]
  unfold Big
  rw [h1]
  exact World.ownsRow_lit (size := 1) w #[.int .u32 (e : Int)] 1 hb (by unfold maxLen; omega) rfl

end Go.Proofs.YtliekcfcdfakjaaDoor
