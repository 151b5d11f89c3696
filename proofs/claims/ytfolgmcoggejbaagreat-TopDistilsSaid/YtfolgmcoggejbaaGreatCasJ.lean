/- Contract of cut. For a plan that is valid. -/
import Derived.Test.YtfolgmcoggejbaaGreatCasI
import Derived.Deep.DeepCutAuto
namespace Go.Proofs.YtfolgmcoggejbaaGreat
open Go.RowKit Go.Maps
set_option linter.unusedVariables false
set_option linter.unusedSimpArgs false

theorem quest_info : (Tryz.prog.info? 132).map (fun i => (i.zero, i.size, i.bytes)) = some (some (.agg #[.int .i64 0, .int .i64 0, .int .i64 0]), 3, 24) := by kernel_rfl
set_option maxRecDepth 100000 in
set_option maxHeartbeats 4000000 in
theorem cut_any (c : Cas) (p : Nat) (w : World) (hc : c.Ok) (hp : p < c.P) :
    Calls Tryz.prog 107 #[.agg #[.int .i64 (c.P : Int), .int .i64 (c.K : Int), .int .u64 (c.sd : Int)], .int .i64 (c.n : Int), .int .i64 (p : Int)] w fun e w' => ∃ v, e = .returned v ∧ Own w' w.heap.size 132 3 Qst.enc v (c.blk p) ∧ Below w.heap.size w w' := by
  have hn := hc.n
  have hP := hc.P.2
  have hK := hc.K
  have b1 := below_alloc (Below.refl w.heap.size w) (.cells #[.int .i64 (c.P : Int), .int .i64 (c.K : Int), .int .u64 (c.sd : Int)] 43)
  have hs0 := c.size_pos hc p
  have hs1 := c.size_le p
  have hblk : Hid (c.blk p = cutK p c.n (c.size p) (cutN c.n (c.size p))) := Lib.hid rfl
  have hsz : Hid (c.size p = min (c.K * 2 ^ p) 512) := Lib.hid rfl
  obtain ⟨S, hS⟩ : ∃ S, c.size p = S := ⟨_, rfl⟩
  rw [hS] at hs0 hs1 hblk hsz
  clear hS
  have hSi : Hid (min (wrap64 ((c.K : Int) * 2 ^ p)) 512 = (S : Int)) := by
    refine Lib.hid ?_
    rw [hsz.out]
    have hp6 : p = 0 ∨ p = 1 ∨ p = 2 ∨ p = 3 ∨ p = 4 ∨ p = 5 := by omega
    rcases hp6 with rfl | rfl | rfl | rfl | rfl | rfl <;> (simp only [wrap64]; omega)
  obtain ⟨i0, hi, hz0, hz1, hz2⟩ := info_parts quest_info
  have Hi := Lib.hid hi; have Hz0 := Lib.hid hz0; have Hz1 := Lib.hid hz1; have Hz2 := Lib.hid hz2
  clear hi hz0 hz1 hz2
  have sz1 : w.heap.size ≤ (w.alloc (.cells #[.int .i64 (c.P : Int), .int .i64 (c.K : Int), .int .u64 (c.sd : Int)] 43)).heap.size := b1.size
  obtain ⟨n, hnn⟩ : ∃ n, c.n = n := ⟨_, rfl⟩
  rw [hnn] at hblk hn ⊢
  clear hc hnn
  go_enter Tryz.func107, Tryz.ntmps107
  go_upto_region 2 with fail
  simp only [hSi.out]
  clear hK
  go_wp2_with fail
  go_loopw [8, 9] (fun v f wr => ∃ k F : Nat, f = .int .i64 (F : Int) ∧ F < 1024 ∧ Hid (k ≤ cutN n S ∧ F = k * S) ∧ Own wr w.heap.size 132 3 Qst.enc v (cutK p n S k) ∧ Below w.heap.size w wr) (fun _ f _ => n - (intOf f).toNat)
  case atStart => exact ⟨0, 0, rfl, by omega, Lib.hid ⟨Nat.zero_le _, by simp⟩, Own.nil, b1⟩
  case round =>
    obtain ⟨k, F, rfl, hF, hk, ow, hb⟩ := hrel
    rcases Nat.lt_or_ge F n with hlt | hge
    · have hb2 : (cutK p n S k).length ≤ 512 := by
        rw [cutK_len]
        rcases Nat.lt_or_ge 512 k with h1 | h1
        · have h2 : 512 * S ≤ k * S := Nat.mul_le_mul_right _ (by omega)
          rw [← hk.out.2] at h2
          have := hs0
          omega
        · exact h1
      obtain ⟨T, hT⟩ : ∃ T : Nat, Hid (min (F + S) n = T) := ⟨_, Lib.hid rfl⟩
      have hmin : min ((F : Int) + (S : Int)) (n : Int) = (T : Int) := by rw [← hT.out]; omega
      go_wp2_with (at_builtin; refine wpList_snoc rfl _ _ 199 rfl w.heap.size 132 i0 _ 3 24 Tryz.underlying199 Hi.out Hz0.out Hz1.out Hz2.out rfl (by decide) _ (cutK p n S k) ⟨p, F, T⟩ #[.int .i64 (p : Int), .int .i64 (F : Int), .int .i64 (T : Int)] 132 rfl ow rfl rfl rfl (by simp [Qst.enc, Value.oneCell']) (by omega) (by decide) hb.size rfl ?_; intro v' w5 hown5 hb5)
      refine ⟨⟨k + 1, F + S, rfl, by omega, Lib.hid ⟨(cut_lt hs0).2 (by rw [← hk.out.2]; exact hlt), by rw [hk.out.2, Nat.succ_mul]⟩, ?_, hb.trans hb5⟩, by simp [intOf]; omega⟩
      rw [cutK_snoc]
      have hq : cutQ p n S k = ⟨p, F, T⟩ := by unfold cutQ; rw [← hk.out.2, hT.out]
      rw [hq]
      exact hown5
    · have hke : k = cutN n S := Nat.le_antisymm hk.out.1 (Nat.le_of_not_lt (fun h => by have := (cut_lt hs0).1 h; rw [← hk.out.2] at this; omega))
      go_wp2_with fail
      go_ret
      exact ⟨_, rfl, by rw [hblk.out, ← hke]; exact ow, hb⟩

end Go.Proofs.YtfolgmcoggejbaaGreat
