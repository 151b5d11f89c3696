/- Contracts of the reference's Below and Perm. For at most 65536 numbers. -/
import Derived.Test.YtdngehgjbledfaaGreatPrmA
import Derived.Test.YtdngehgjbledfaaGreatApt
namespace Go.Proofs.YtdngehgjbledfaaGreat
open Go.RowKit
set_option linter.unusedVariables false
set_option linter.unusedSimpArgs false

theorem below_drw (w : World) (n : Nat) : Below w.heap.size w (w.drewN n) := ⟨rfl, rfl, rfl, Nat.le_refl _, fun _ _ => rfl⟩
set_option maxRecDepth 100000 in
set_option maxHeartbeats 1000000 in
theorem rBelow_any (s n : Nat) (w : World) (h0 : 0 < n) (hn : n ≤ 65536) : Calls Tryz.prog 85 #[.int .u64 s, .int .i64 n] w fun e w' => e = .returned (.tuple #[.int .u64 (nxS s), .int .i64 ((nxY s % n : Nat) : Int)]) ∧ Below w.heap.size w w' := by
  have cN := rNext_any s w
  obtain ⟨y, hy⟩ : ∃ y, nxY s = y := ⟨_, rfl⟩
  have y64 : y < 2 ^ 64 := by rw [← hy]; exact nxY_lt s
  have y63 : (y : Int) ≤ 18446744073709551615 := by omega
  obtain ⟨j, hj⟩ : ∃ j, y % n = j := ⟨_, rfl⟩
  have hjl : j < n := by rw [← hj]; exact Nat.mod_lt _ h0
  have jm : (y : Int) % (n : Int) = (j : Int) := by rw [← hj]; simp
  have jt : (y : Int).tmod (n : Int) = (j : Int) := by rw [← jm]; exact Int.tmod_eq_emod_of_nonneg (by omega)
  rw [hy] at cN ⊢
  rw [hj]
  have n0 : (n : Int) ≠ 0 := by omega
  clear hy hj y64
  go_enter Tryz.func85, Tryz.ntmps85
  go_wp2_with (go_at_call 105; refine (cN).mono ?_; rintro e w' ⟨rfl, rfl⟩)
  go_quiet (fail)
  go_wp2_with fail
  go_ret2
  exact ⟨rfl, below_drw _ _⟩

theorem own_ptr' {α : Type} {w : World} {B e z : Nat} {enc : α → List Value} {v : Value} {l : List α} (h : Own w B e z enc v l) (hl : 0 < l.length) : ∃ g c, v = .slice (some ⟨g, 0, none⟩) l.length c ∧ B ≤ g ∧ g < w.heap.size := by
  rcases h.2 with ⟨_, h0⟩ | ⟨g, cap, cur, rfl, hb, hg, _⟩
  · omega
  · exact ⟨g, cap, rfl, hb, (Array.getElem?_eq_some_iff.1 hg).1⟩
set_option maxRecDepth 100000 in
set_option maxHeartbeats 4000000 in
theorem rPerm_any (s n : Nat) (w : World) (hn : n ≤ 65536) : Calls Tryz.prog 60 #[.int .u64 s, .int .i64 n] w fun e w' => ∃ v s', e = .returned (.tuple #[.int .u64 s', v]) ∧ Own w' w.heap.size 3 1 encI v (permL s n) ∧ Below w.heap.size w w' := by
  obtain ⟨i0, hi, hz0, hz1, hz2⟩ := info_parts int_info5
  have Hi := Lib.hid hi; have Hz0 := Lib.hid hz0; have Hz1 := Lib.hid hz1; have Hz2 := Lib.hid hz2
  clear hi hz0 hz1 hz2
  go_enter Tryz.func60, Tryz.ntmps60
  go_wp2_with fail
  go_loopw [6, 7] (fun v i wr => ∃ k : Nat, k ≤ n ∧ i = .int .i64 k ∧ Own wr w.heap.size 3 1 encI v (upL k) ∧ Below w.heap.size w wr) (fun _ i _ => n - (intOf i).toNat)
  case atStart => exact ⟨0, Nat.zero_le _, rfl, Own.nil, Below.refl _ _⟩
  case round =>
    obtain ⟨k, hk, rfl, ow, hb⟩ := hrel
    rcases Nat.lt_or_ge k n with hlt | hge
    · have oby : ((upL k).length + 1) * 8 ≤ 140737488355328 := by rw [upL_len]; omega
      have sz := hb.size
      have up := Lib.hid (upL_snoc k)
      go_wp2_with (at_builtin; refine wpList_snoc (g := wr.heap.size) rfl _ _ 54 rfl w.heap.size 3 i0 _ 1 8 Tryz.underlying54 Hi.out Hz0.out Hz1.out Hz2.out rfl (by decide) _ (upL k) (k : Int) #[.int .i64 k] 3 rfl ow rfl rfl rfl (encI_one _) oby (by decide) sz rfl ?_; intro v5 w5 own5 hb5)
      exact ⟨⟨k + 1, by omega, by go_num, by rw [up.out]; exact own5, hb.trans hb5⟩, by simp [intOf]; omega⟩
    · obtain rfl : k = n := by omega
      obtain ⟨w6, rfl⟩ : ∃ w6, w6 = wr := ⟨_, rfl⟩
      go_wp2_with fail
      go_loopw [0, 8] (fun sv iv wr => ∃ (z : Int) (j s' : Nat) (L : List Int), z = (j : Int) - 1 ∧ j ≤ k ∧ sv = .int .u64 s' ∧ iv = .int .i64 z ∧ Hid (L.length = k) ∧ Hid (prm j s' L = prm k s (upL k)) ∧ Own wr w.heap.size 3 1 encI u6 L ∧ Below w.heap.size w wr) (fun _ iv _ => (intOf iv).toNat)
      case atStart => exact ⟨_, k, s, upL k, rfl, Nat.le_refl _, rfl, rfl, Lib.hid (upL_len k), Lib.hid rfl, ow, hb⟩
      case round =>
        clear ow hb
        obtain ⟨z, j, s', L, hz, hj, rfl, rfl, hL, hinv, ow, hb⟩ := hrel
        obtain ⟨w7, rfl⟩ : ∃ w7, w7 = wr := ⟨_, rfl⟩
        by_cases h2 : 2 ≤ j
        · obtain ⟨i, rfl⟩ : ∃ i, j = i + 1 := ⟨j - 1, by omega⟩
          obtain rfl : z = (i : Int) := by omega
          have hi1 : 0 < i := by omega
          have hstep := hinv.out
          rw [prm_step hi1] at hstep
          have cB := rBelow_any s' (i + 1) w7 (by omega) (by omega)
          obtain ⟨m, hm⟩ : ∃ m, nxY s' % (i + 1) = m := ⟨_, rfl⟩
          have hmi : m < i + 1 := by rw [← hm]; exact Nat.mod_lt _ (by omega)
          rw [hm] at cB hstep
          rw [show ((i + 1 : Nat) : Int) = (i : Int) + 1 from by omega] at cB
          obtain ⟨xi, hxi⟩ : ∃ x, L[i]? = some x := ⟨_, List.getElem?_eq_getElem (by rw [hL.out]; omega)⟩
          obtain ⟨xj, hxj⟩ : ∃ x, L[m]? = some x := ⟨_, List.getElem?_eq_getElem (by rw [hL.out]; omega)⟩
          obtain ⟨g, c, hv, hg1, hg2⟩ := own_ptr' ow (by rw [hL.out]; omega)
          rw [hL.out] at hv
          subst hv
          have g1 : decide ((1 : Int) ≤ (i : Int)) = true := by simp; omega
          obtain ⟨q, hq⟩ : ∃ q, i = q + 1 := ⟨i - 1, by omega⟩
          have hq' : (i : Int) - 1 = (q : Int) := by omega
          have mk : (m : Int) < (k : Int) := by omega
          have ik : (i : Int) < (k : Int) := by omega
          have Hstep := Lib.hid hstep
          have Hxi := Lib.hid hxi; have Hxj := Lib.hid hxj; have Hq := Lib.hid hq
          clear hstep hm hxi hxj hq hz
          go_wp2_with fail
          refine cB.mono ?_
          rintro e w8 ⟨rfl, hb8⟩
          have ow8 := ow.below hb8
          have b8 := below_trans hb hb8
          have ci : w8.cell? ⟨g, i, none⟩ = some (.int .i64 xi) := Own.at1 (f := Value.int .i64) ow8 hL.out Hxi.out
          have cm : w8.cell? ⟨g, m, none⟩ = some (.int .i64 xj) := Own.at1 (f := Value.int .i64) ow8 hL.out Hxj.out
          clear cB
          go_wp2_with fail
          go_quiet (fail)
          have bq : Below w.heap.size w (w8.drewN nq) := below_trans b8 (below_drw _ _)
          have owq : Own (w8.drewN nq) w.heap.size 3 1 encI (.slice (some ⟨g, 0, none⟩) k c) L := ow8.below (below_drw _ _)
          clear ci cm
          generalize w8.drewN nq = w9 at *
          have ci : w9.cell? ⟨g, i, none⟩ = some (.int .i64 xi) := Own.at1 (f := Value.int .i64) owq hL.out Hxi.out
          have fi : w9.frozen? ⟨g, i, none⟩ = false := Own.fr1 (f := Value.int .i64) owq hL.out i
          have o1 := Own.set1 (f := Value.int .i64) owq hL.out i xj
          have cm2 : (w9.setCell ⟨g, i, none⟩ (.int .i64 xj)).cell? ⟨g, m, none⟩ = some (.int .i64 xj) := Own.at1 (f := Value.int .i64) o1 (by rw [List.length_set]; exact hL.out) (by
            by_cases e : i = m
            · subst e; rw [List.getElem?_set_self (by rw [hL.out]; omega)]
            · rw [List.getElem?_set_ne e]; exact Hxj.out)
          have fm2 : (w9.setCell ⟨g, i, none⟩ (.int .i64 xj)).frozen? ⟨g, m, none⟩ = false := (World.frozen?_setCell _ _ _ _).trans (Own.fr1 (f := Value.int .i64) owq hL.out m)
          have o2 := Own.set1 (f := Value.int .i64) o1 (by rw [List.length_set]; exact hL.out) m xi
          rw [← swp_set Hxi.out Hxj.out] at o2
          have hl8 : (swp L i m).length = k := by rw [swp_len]; exact hL.out
          have Hl8 := Lib.hid hl8
          have bz : Below w.heap.size w ((w9.setCell ⟨g, i, none⟩ (.int .i64 xj)).setCell ⟨g, m, none⟩ (.int .i64 xi)) := (bq.setCell (p := ⟨g, i, none⟩) hg1 _).setCell (p := ⟨g, m, none⟩) hg1 _
          clear o1 hl8
          go_wp2_with fail
          exact ⟨⟨_, q + 1, nxS s', swp L i m, by omega, by omega, rfl, rfl, Hl8, Lib.hid (by rw [← Hq.out]; exact Hstep.out), o2, bz⟩, by simp [intOf]; omega⟩
        · have e1 : prm j s' L = (s', L) := by
            rcases (show j = 0 ∨ j = 1 by omega) with rfl | rfl <;> rfl
          have hp : permL s k = L := by
            unfold permL
            rw [← hinv.out, e1]
          have g1 : decide ((1 : Int) ≤ z) = false := by simp; omega
          have Hp := Lib.hid hp
          clear hp e1 hz
          go_wp2_with fail
          go_ret2
          exact ⟨_, _, rfl, by rw [Hp.out]; exact ow, hb⟩

end Go.Proofs.YtdngehgjbledfaaGreat
