/- Contract of order. For a plan that is valid. -/
import Derived.Test.YtfolgmcoggejbaaGreatCasB
import Derived.Test.YtfolgmcoggejbaaGreatPrmAll
import Derived.Test.YtfolgmcoggejbaaGreatSnoT
namespace Go.Proofs.YtfolgmcoggejbaaGreat
open Go.RowKit Go.Maps
set_option linter.unusedVariables false
set_option linter.unusedSimpArgs false

def Cas.cs (c : Cas) : Array Value := #[.int .i64 (c.P : Int), .int .i64 (c.K : Int), .int .u64 (c.sd : Int)]
set_option maxRecDepth 100000 in
set_option maxHeartbeats 4000000 in
theorem cord_any (c : Cas) (p : Nat) (w : World) (hc : c.Ok) (hp : p < c.P) :
    Calls Tryz.prog 106 #[.agg #[.int .i64 (c.P : Int), .int .i64 (c.K : Int), .int .u64 (c.sd : Int)], .int .i64 (c.n : Int), .int .i64 (p : Int)] w fun e w' => ∃ v, e = .returned v ∧ Own w' w.heap.size 3 1 encI v (c.ord p) ∧ Below w.heap.size w w' := by
  have hn := hc.n
  have hP := hc.P.2
  have b1 := below_alloc (Below.refl w.heap.size w) (.cells #[.int .i64 (c.P : Int), .int .i64 (c.K : Int), .int .u64 (c.sd : Int)] 43)
  by_cases h0 : p = 0
  · subst h0
    have hord : Hid (c.ord 0 = upL c.n) := Lib.hid (by unfold Cas.ord; rw [if_pos rfl])
    obtain ⟨i0, hi, hz0, hz1, hz2⟩ := info_parts int_info5
    have Hi := Lib.hid hi; have Hz0 := Lib.hid hz0; have Hz1 := Lib.hid hz1; have Hz2 := Lib.hid hz2
    clear hi hz0 hz1 hz2
    obtain ⟨n, hnn⟩ : ∃ n, c.n = n := ⟨_, rfl⟩
    rw [hnn] at hord hn ⊢
    have hfl : Hid (fill (upL n) 0 0 = List.replicate n 0) := Lib.hid (by rw [fill_zero, upL_len])
    clear hc hp hnn
    go_enter Tryz.func106, Tryz.ntmps106
    go_upto_region 5 with (at_make; refine wpList_mk rfl _ _ 76 rfl 3 i0 _ 8 Tryz.underlying76 Hi.out Hz0.out Hz1.out Hz2.out rfl (fun n : Int => Value.int .i64 n) 0 rfl _ _ _ _ n rfl rfl rfl rfl (by omega) (by unfold maxLen; omega) ?_; intro w1 own1 hb1)
    have q1 := below_trans b1 hb1
    have sz1 : w.heap.size ≤ (w.alloc (.cells #[.int .i64 (c.P : Int), .int .i64 (c.K : Int), .int .u64 (c.sd : Int)] 43)).heap.size := b1.size
    simp only [World.size_alloc] at own1 sz1
    go_wp2_with fail
    go_loopw [29] (fun i wr => ∃ k : Nat, k ≤ n ∧ i = .int .i64 k ∧ Own wr (w.heap.size + 1) 3 1 (fun x => [Value.int .i64 x]) (.slice (some ⟨w.heap.size + 1, 0, none⟩) n n) (fill (upL n) 0 k) ∧ Below w.heap.size w wr) (fun i _ => n - (intOf i).toNat)
    case atStart => exact ⟨0, Nat.zero_le _, rfl, by rw [hfl.out]; exact own1, q1⟩
    case round =>
      obtain ⟨k, hk, rfl, ow, hb⟩ := hrel
      clear own1 hb1 q1
      rcases Nat.lt_or_ge k n with hlt | hge
      · have hlen : (fill (upL n) 0 k).length = n := (fill_len _ _ (by rw [upL_len]; omega)).trans (upL_len _)
        have f0 := ow.at1 hlen (k := k) (fill_at 0 (by rw [upL_len]; exact hlt))
        have f1 := ow.fr1 hlen k
        have ow3 := ow.set1 hlen k (k : Int)
        rw [fill_set 0 (upL_at hlt)] at ow3
        clear hlen
        go_wp2_with fail
        exact ⟨⟨k + 1, by omega, by go_num, ow3, hb.setCell (by omega) _⟩, by simp [intOf]; omega⟩
      · obtain rfl : k = n := by omega
        rw [fill_all _ _ (by rw [upL_len]; omega)] at ow
        go_wp2_with fail
        go_ret
        exact ⟨_, rfl, by rw [hord.out]; exact own_base ow (by omega), hb⟩
  · have hord : Hid (c.ord p = permL ((c.sd + p) % 18446744073709551616) c.n) := Lib.hid (by unfold Cas.ord; rw [if_neg h0])
    have d0 : decide (0 < p) = true := by simp; omega
    have hp0 : 0 < p := by omega
    obtain ⟨s, hs⟩ : ∃ s, (c.sd + p) % 18446744073709551616 = s := ⟨_, rfl⟩
    rw [hs] at hord
    have hsi : IntKind.u64.wrap ((c.sd : Int) + (p : Int)) = (s : Int) := by
      have h9 : IntKind.u64.wrap ((c.sd : Int) + (p : Int)) = ((c.sd : Int) + (p : Int)) % 18446744073709551616 := by simp [IntKind.wrap, IntKind.signed, IntKind.bits]
      rw [h9]; omega
    have hpi : (p : Int) % 18446744073709551616 = (p : Int) := by omega
    obtain ⟨w1, hw1⟩ : ∃ w1, w.alloc (.cells #[.int .i64 (c.P : Int), .int .i64 (c.K : Int), .int .u64 (c.sd : Int)] 43) = w1 := ⟨_, rfl⟩
    have x2 : w1.cell? ⟨w.heap.size, 2, none⟩ = some (.int .u64 (c.sd : Int)) := by rw [← hw1]; exact new_cell rfl
    have cN := New_any s w1
    have cP := Perm_any w1.heap.size s c.n w.heap.size (w1.alloc (.cells #[.int .u64 (s : Int), .bool true] 254)) (by omega) (new_cell rfl) (by simp [go_sem]) (new_cell rfl) (by rw [← hw1]; simp)
    have b2 := below_trans b1 (below_alloc (Below.refl _ _) (.cells #[.int .u64 (s : Int), .bool true] 254))
    rw [hw1] at b2
    clear h0 hs hc hP hp
    go_enter Tryz.func106, Tryz.ntmps106
    go_wp2_with (first
      | (go_at_call 98; refine cN.mono ?_; rintro e w' ⟨rfl, rfl⟩)
      | (go_at_call 149; refine cP.mono ?_; rintro e w3 ⟨g, rfl, ow, hb3⟩))
    go_ret
    exact ⟨_, rfl, by rw [hord.out]; exact own_base ow (by have := b2.size; omega), b2.trans hb3⟩

end Go.Proofs.YtfolgmcoggejbaaGreat
