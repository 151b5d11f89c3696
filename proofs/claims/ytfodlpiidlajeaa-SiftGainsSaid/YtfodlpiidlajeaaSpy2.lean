/- Contract of optics.Knows for valid pulses. For at most 4096 notes. -/
import Derived.Test.YtfodlpiidlajeaaSpyP
import Derived.Test.YtfodlpiidlajeaaSpyA
import Derived.Test.YtfodlpiidlajeaaSlots
namespace Go.Proofs.Ytfodlpiidlajeaa
open Go.RowKit
set_option linter.unusedVariables false
set_option linter.unusedSimpArgs false

theorem get_some {α : Type} {l : List α} {k n : Nat} (h : l.length = n) (hk : k < n) : ∃ x, l[k]? = some x := ⟨l[k]'(by omega), List.getElem?_eq_getElem (by omega)⟩

set_option maxRecDepth 100000 in
set_option maxHeartbeats 4000000 in
theorem Knows_any (A : Option Addr) (n : Nat) (p : List Pls) (C : Option Addr) (m : Nat) (l : List Nte) (w : World) (hA : Arr 5 Pls.enc w w.heap.size A p) (hC : Arr 4 Nte.enc w w.heap.size C l) (hl : l.length ≤ 4096) (h0 : allE Pls.ok p = 0) :
    Calls Try.prog 80 #[.slice A p.length n, .slice C l.length m] w fun e w' => ∃ v, e = .returned (.tuple #[v, .int .i64 (ndE p l)]) ∧ Own w' w.heap.size 3 1 encI v (ndL p l) ∧ Below w.heap.size w w' := by
  have hlen := (allE_zero.1 h0).1
  obtain ⟨i0, hi, hz0, hz1, hz2⟩ := info_parts bool_info
  obtain ⟨j0, hj, hy0, hy1, hy2⟩ := info_parts int_info
  have H0 := Lib.hid h0
  clear h0
  go_enter Try.func80, Try.ntmps80
  go_wp2_with (first
    | (go_at_call 124; refine (valid_any A n p _ hA (by omega)).mono ?_; rintro e w2 ⟨rfl, hb2⟩; rw [H0.out])
    | (at_make; refine wpList_mk rfl _ _ 46 rfl 4 i0 _ 1 Try.underlying46 hi hz0 hz1 hz2 rfl Value.bool false rfl _ _ _ _ p.length rfl rfl rfl rfl (by omega) (by unfold maxLen; omega) ?_; intro w3 hown3 hb3))
  have hsz2 := hb2.size
  go_loopw [26] (fun i wr => ∃ k : Nat, k ≤ l.length ∧ i = .int .i64 k ∧ (l.take k).all (fun y => decide (nteF p.length y = 0)) = true ∧ Own wr w.heap.size 4 1 encB (.slice (some ⟨w2.heap.size, 0, none⟩) p.length p.length) (knTo p l k) ∧ Below w.heap.size w wr) (fun i _ => l.length - (intOf i).toNat)
  case atStart => exact ⟨0, Nat.zero_le _, rfl, by simp, by rw [knTo_zero]; exact hown3.down hsz2, below_trans hb2 hb3⟩
  case round =>
    obtain ⟨k, hk, rfl, hall, hown, hb⟩ := hrel
    have Hall := Lib.hid hall; clear hall
    have hkl := Lib.hid (knTo_len p l k)
    by_cases hlt : k < l.length
    · obtain ⟨bk, off, ns, nh, nb, nbit, rfl, hbb, hq, c0, c1, c2, c3⟩ := hC.nte hlt hb
      have hq' := Lib.hid hq.out; clear hq
      by_cases hok : Nte.ok ⟨ns, nh, nb, nbit⟩ = true
      · have Hok := Lib.hid hok
        simp only [Nte.ok, betwB, Bool.and_eq_true, decide_eq_true_eq] at hok
        obtain ⟨⟨a0, a1⟩, a2, a3⟩ := hok
        by_cases hr : 0 ≤ ns ∧ ns < p.length
        · obtain ⟨r1, r2⟩ := hr
          have Hf : Hid (nteF p.length ⟨ns, nh, nb, nbit⟩ = 0) := Lib.hid (nteF_ok Hok.out (by simp [betwB]; omega))
          obtain ⟨j, rfl⟩ : ∃ j : Nat, ns = (j : Int) := ⟨ns.toNat, by omega⟩
          have hjl : j < p.length := by omega
          clear r1 r2
          obtain ⟨bk2, off2, pb, pbit, pc, pph, ps, rfl, hbb2, hp, p0, p1, p2, p3, p4⟩ := hA.pls hjl hb
          have Hp := Lib.hid (basAt_of hp.out)
          have hs := hb.size
          have hlt2 : bk2 < wr.heap.size := by omega
          have hgl := hown.g_lt
          obtain ⟨n0, n1, n2, n3⟩ := nte_new wr j nh nb nbit 128
          have r0 := later_alloc p0 (.cells #[.int .i64 (j : Int), .int .i64 nh, .int .i64 nb, .bool nbit] 128)
          obtain ⟨y, hy⟩ := get_some hkl.out hjl
          cases hh : hitB p ⟨j, nh, nb, nbit⟩
          · have Hh := Lib.hid hh
            simp only [hitB, decide_eq_false_iff_not, not_or, Hp.out] at hh
            have g1 : (nh == 2) = false := by simpa using hh.1
            have g2 : (nb == pb) = false := by simpa using hh.2
            clear hh
            go_wp2
            (refine wp_region_later (by kernel_rfl) (by kernel_rfl) ?_; (repeat (go_big_quiet_step (fail))); refine wpQuiet_nil ?_; rintro w4 ⟨⟨_, hb4⟩, rfl⟩)
            go_wp2
            go_roundw
            case rel => exact ⟨k + 1, by omega, by go_num, all_take hq'.out Hall.out (by simpa using Hf.out), by rw [knTo_miss hq'.out Hh.out]; exact (hown.alloc _).below hb4, below_trans (below_alloc hb _) hb4⟩
            case measure => simp [intOf]; omega
          · have Hh := Lib.hid hh
            simp only [hitB, decide_eq_true_eq, Hp.out] at hh
            by_cases hw : nh = 2
            · subst hw
              clear hh
              go_wp2
              (refine wp_region_later (by kernel_rfl) (by kernel_rfl) ?_; (repeat (go_big_quiet_step (fail))); refine wpQuiet_nil ?_; rintro w4 ⟨⟨_, hb4⟩, rfl⟩)
              have d9 := bel_cell hb4 (new_cell (w := wr) (T := 128) (cs := #[.int .i64 (j : Int), .int .i64 2, .int .i64 nb, .bool nbit]) (j := 0) rfl)
              have hown4 := (hown.alloc _).below hb4
              have d0 := Own.at1 (f := Value.bool) hown4 hkl.out hy
              have d1 := Own.fr1 (f := Value.bool) hown4 hkl.out j
              have Hs := Lib.hid (Own.set1 (f := Value.bool) hown4 hkl.out j true)
              go_wp2
              go_roundw
              case rel => exact ⟨k + 1, by omega, by go_num, all_take hq'.out Hall.out (by simpa using Hf.out), by rw [knTo_hit hq'.out Hh.out]; exact Hs.out, (below_trans (below_alloc hb _) hb4).setCell hsz2 _⟩
              case measure => simp [intOf]; omega
            · have g1 : (nh == 2) = false := by simpa using hw
              obtain rfl : nb = pb := by rcases hh with h | h; exact (hw h).elim; exact h
              clear hh
              go_wp2
              (refine wp_region_later (by kernel_rfl) (by kernel_rfl) ?_; (repeat (go_big_quiet_step (fail))); refine wpQuiet_nil ?_; rintro w4 ⟨⟨_, hb4⟩, rfl⟩)
              have d9 := bel_cell hb4 (new_cell (w := wr) (T := 128) (cs := #[.int .i64 (j : Int), .int .i64 nh, .int .i64 nb, .bool nbit]) (j := 0) rfl)
              have hown4 := (hown.alloc _).below hb4
              have d0 := Own.at1 (f := Value.bool) hown4 hkl.out hy
              have d1 := Own.fr1 (f := Value.bool) hown4 hkl.out j
              have Hs := Lib.hid (Own.set1 (f := Value.bool) hown4 hkl.out j true)
              go_wp2
              go_roundw
              case rel => exact ⟨k + 1, by omega, by go_num, all_take hq'.out Hall.out (by simpa using Hf.out), by rw [knTo_hit hq'.out Hh.out]; exact Hs.out, (below_trans (below_alloc hb _) hb4).setCell hsz2 _⟩
              case measure => simp [intOf]; omega
        · have Hf : Hid (nteF p.length ⟨ns, nh, nb, nbit⟩ = 3) := Lib.hid (nteF_range Hok.out (by simp [betwB]; omega))
          have hcase : ns < 0 ∨ (0 ≤ ns ∧ (p.length : Int) ≤ ns) := by omega
          clear hr
          rcases hcase with a | ⟨a, b⟩
          all_goals
            go_wp2
            go_ret2
            exact ⟨_, by rw [(nd_err Hall.out hq'.out Hf.out (by decide)).1]; rfl, by rw [(nd_err Hall.out hq'.out Hf.out (by decide)).2]; exact Own.nil, below_alloc hb _⟩
      · have Hok : Hid (Nte.ok ⟨ns, nh, nb, nbit⟩ = false) := Lib.hid (by simpa using hok)
        have Hf : Hid (nteF p.length ⟨ns, nh, nb, nbit⟩ = 2) := Lib.hid (nteF_arg Hok.out)
        simp only [Nte.ok, betwB, Bool.and_eq_true, decide_eq_true_eq] at hok
        have hcase : nh < 1 ∨ (¬ nh < 1 ∧ 3 < nh) ∨ (¬ nh < 1 ∧ ¬ 3 < nh ∧ nb < 0) ∨ (¬ nh < 1 ∧ ¬ 3 < nh ∧ ¬ nb < 0 ∧ 1 < nb) := by omega
        clear hok
        rcases hcase with a | ⟨a, b⟩ | ⟨a, b, d⟩ | ⟨a, b, d, e⟩
        all_goals
          go_wp2
          go_ret2
          exact ⟨_, by rw [(nd_err Hall.out hq'.out Hf.out (by decide)).1]; rfl, by rw [(nd_err Hall.out hq'.out Hf.out (by decide)).2]; exact Own.nil, below_alloc hb _⟩
    · obtain rfl : k = l.length := by omega
      have He := Lib.hid (nd_yes Hall.out (Nat.le_refl _))
      clear Hall hlt
      have hs := hb.size
      obtain ⟨b, hbL⟩ : ∃ b, knTo p l l.length = b := ⟨_, rfl⟩
      rw [hbL] at hown hkl He
      clear hbL
      have Hc : Hid (∀ (k : Nat) (y : Bool) (wq : World), b[k]? = some y → Below wr.heap.size wr wq → wq.cell? ⟨w2.heap.size, k, none⟩ = some (.bool y)) := Lib.hid (fun k y wq hy hbq => bel_cell hbq (Own.at1 (f := Value.bool) hown hkl.out hy))
      obtain ⟨N, hN⟩ : ∃ N, wr.heap.size = N := ⟨_, rfl⟩
      rw [hN] at hs Hc
      have hN' : N ≤ wr.heap.size := by omega
      clear hN
      go_wp2
      go_loopw [10, 79] (fun v i wq => ∃ k : Nat, k ≤ p.length ∧ i = .int .i64 k ∧ Own wq N 3 1 encI v (idxTo b k) ∧ Below N wr wq) (fun _ i _ => p.length - (intOf i).toNat)
      case atStart => exact ⟨0, Nat.zero_le _, rfl, Own.nil, Below.refl _ _⟩
      case round =>
        obtain ⟨k, hk, rfl, howq, hbq⟩ := hrel
        have hle := idxTo_le b k
        by_cases hlt : k < p.length
        · obtain ⟨y, hy⟩ := get_some hkl.out hlt
          have d0 := Hc.out k y _ hy hbq
          have Hy := Lib.hid hy; clear hy
          cases y
          · go_wp2
            go_roundw
            case rel => exact ⟨k + 1, by omega, by go_num, by rw [idxTo_miss Hy.out]; exact howq, hbq⟩
            case measure => simp [intOf]; omega
          · go_wp2_with (at_builtin; refine wpList_snoc rfl _ _ 41 rfl N 3 j0 _ 1 8 Try.underlying41 hj hy0 hy1 hy2 rfl (by decide) _ (idxTo b k) (k : Int) #[.int .i64 (k : Int)] 3 rfl howq rfl rfl rfl (encI_one _) (by omega) (by decide) (Nat.le_trans hN' hbq.size) rfl ?_; intro v' w5 hown5 hb5)
            go_roundw
            case rel => exact ⟨k + 1, by omega, by go_num, by rw [idxTo_hit Hy.out]; exact hown5, hbq.trans hb5⟩
            case measure => simp [intOf]; omega
        · obtain rfl : k = p.length := by omega
          go_wp2
          go_ret2
          exact ⟨_, by rw [He.out.1]; rfl, by rw [He.out.2]; exact howq.down hs, hb.trans (hbq.mono hs)⟩

end Go.Proofs.Ytfodlpiidlajeaa
