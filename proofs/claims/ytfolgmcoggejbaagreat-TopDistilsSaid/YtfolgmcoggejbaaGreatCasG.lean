/- Contract of a course's advance. For a course that is valid. -/
import Derived.Test.YtfolgmcoggejbaaGreatCasE
import Derived.Test.YtfolgmcoggejbaaGreatCasF
import Derived.Deep.LoopGhost
namespace Go.Proofs.YtfolgmcoggejbaaGreat
open Go.RowKit Go.Maps
set_option linter.unusedVariables false
set_option linter.unusedSimpArgs false

theorem Cas.run_stop (c : Cas) (k : Nat) (m : Mac) : c.run k .stop m = m := by
  cases k <;> simp [Cas.run]
theorem Cas.run_step {c : Cas} {k : Nat} {t : Ctl} {m : Mac} (hk : c.mu t m ≤ k) (ht : t ≠ .stop) : ∃ j, k = j + 1 ∧ c.run k t m = c.run j (c.step t m).1 (c.step t m).2 := by
  cases k with
  | zero =>
    cases t with
    | stop => exact absurd rfl ht
    | ask => simp [Cas.mu] at hk
    | search => simp [Cas.mu] at hk
    | halve => simp [Cas.mu] at hk
  | succ j => exact ⟨j, rfl, by rw [Cas.run, if_neg ht]⟩
theorem fn_some (f : FuncId) (g : Nat) (w : World) : (binOp BinOp.neq 264 (.func (.func f) #[.pointer (some ⟨g, 0, none⟩)] #[]) .nilFunc).run Tryz.prog w = .ok (.bool true) w := by kernel_rfl
theorem fn_none (w : World) : (binOp BinOp.neq 264 .nilFunc .nilFunc).run Tryz.prog w = .ok (.bool false) w := by kernel_rfl
set_option maxRecDepth 100000 in
set_option maxHeartbeats 16000000 in
theorem advance_any (c : Cas) (m : Mac) (M : Mem) (w : World) (h : MacAt w c m M) (hc : c.Ok) (ok : m.Ok c) :
    Calls Tryz.prog 108 #[.pointer (some ⟨M.g, 0, none⟩)] w fun e w' => (∃ u, e = .returned u) ∧ MacAt w' c (c.adv m) M ∧ OutS M.S w w' := by
  have y18 : w.cell? ⟨M.g, 18, none⟩ = some (.int .i64 (m.next.pass : Int)) := h.cel 18
  have y19 : w.cell? ⟨M.g, 19, none⟩ = some (.int .i64 (m.next.fr : Int)) := h.cel 19
  have y20 : w.cell? ⟨M.g, 20, none⟩ = some (.int .i64 (m.next.to : Int)) := h.cel 20
  have y21 : w.cell? ⟨M.g, 21, none⟩ = some (.bool m.opn) := h.cel 21
  have f18 := h.fr 18
  have f19 := h.fr 19
  have f20 := h.fr 20
  have f21 := h.fr 21
  have k1 : MacAt (w.setCell ⟨M.g, 18, none⟩ (.int .i64 0)) c { m with next := ⟨0, m.next.fr, m.next.to⟩ } M := h.set 18 _ (m' := { m with next := ⟨0, m.next.fr, m.next.to⟩ }) rfl rfl rfl
  have k2 := k1.set 19 (.int .i64 0) (m' := { m with next := ⟨0, 0, m.next.to⟩ }) rfl rfl rfl
  have k3 := k2.set 20 (.int .i64 0) (m' := { m with next := q0 }) rfl rfl rfl
  have k4 := k3.set 21 (.bool false) (m' := { m with next := q0, opn := false }) rfl rfl rfl
  have p4 : OutS M.S w ((((w.setCell ⟨M.g, 18, none⟩ (.int .i64 0)).setCell ⟨M.g, 19, none⟩ (.int .i64 0)).setCell ⟨M.g, 20, none⟩ (.int .i64 0)).setCell ⟨M.g, 21, none⟩ (.bool false)) := (((OutS.set (.inl rfl)).trans (OutS.set (.inl rfl))).trans (OutS.set (.inl rfl))).trans (OutS.set (.inl rfl))
  have K4 := Lib.hid k4
  have P4 := Lib.hid p4
  have hat := Cas.at_adv ok
  have Hc := Lib.hid hc
  clear k1 k2 k3 k4 p4 h ok hc
  go_enter Tryz.func108, Tryz.ntmps108
  go_upto_region 1 with fail
  obtain ⟨w1, hw1⟩ : ∃ w1, (((w.setCell ⟨M.g, 18, none⟩ (.int .i64 0)).setCell ⟨M.g, 19, none⟩ (.int .i64 0)).setCell ⟨M.g, 20, none⟩ (.int .i64 0)).setCell ⟨M.g, 21, none⟩ (.bool false) = w1 := ⟨_, rfl⟩
  have h1 := K4.out
  have p1 := P4.out
  rw [hw1] at h1 p1 ⊢
  clear hw1 K4 P4 y18 y19 y20 y21 f18 f19 f20 f21
  have x13 : w1.cell? ⟨M.g, 13, none⟩ = some (.bool m.srch) := h1.cel 13
  obtain ⟨m0, hm0⟩ : ∃ m0 : Mac, { m with next := q0, opn := false } = m0 := ⟨_, rfl⟩
  have hadv : Hid (c.adv m = c.run (c.mu (if m.srch then Ctl.halve else Ctl.ask) m0) (if m.srch then Ctl.halve else Ctl.ask) m0) := Lib.hid (by rw [← hm0]; rfl)
  rw [hm0] at h1 hat
  clear hm0
  obtain ⟨t0, ht0⟩ : ∃ t0, (if m.srch then Ctl.halve else Ctl.ask) = t0 := ⟨_, rfl⟩
  rw [ht0] at hat hadv
  go_upto_if 15 with fail
  go_cut [2] (fun v wx => v = ctlV M t0 ∧ wx = w1)
  case first =>
    clear hat hadv
    cases hs : m.srch
    · rw [hs] at ht0
      subst ht0
      go_wp2_with fail
      go_meet
      case rel => exact ⟨rfl, rfl⟩
    · rw [hs] at ht0
      subst ht0
      go_wp2_with fail
      go_meet
      case rel => exact ⟨rfl, rfl⟩
  obtain ⟨rfl, rfl⟩ := hcut
  obtain ⟨w2, rfl⟩ : ∃ w2, w2 = wc := ⟨_, rfl⟩
  clear x13 ht0
  go_wp2_with fail
  go_loopg [2] (c.mu t0 m0) (fun k v wr => ∃ (t : Ctl) (m2 : Mac), v = ctlV M t ∧ MacAt wr c m2 M ∧ OutS M.S w wr ∧ c.at t m2 ∧ c.mu t m2 ≤ k ∧ Hid (c.adv m = c.run k t m2))
  case atStart => exact ⟨t0, m0, rfl, h1, p1, hat, Nat.le_refl _, hadv⟩
  case round =>
    obtain ⟨t, m2, rfl, hA, hO, hat2, hmu, hR⟩ := hrel
    obtain ⟨w6, rfl⟩ : ∃ w6, w6 = wr := ⟨_, rfl⟩
    clear h1 p1 hat hadv
    have fs := fun f g w => fn_some f g w
    have fn := fun w => fn_none w
    cases t with
    | stop =>
      have hE : Hid (c.adv m = m2) := Lib.hid (by rw [hR.out, c.run_stop])
      simp only [ctlV]
      go_wp2_with fail
      go_end0
      exact ⟨⟨_, rfl⟩, by rw [hE.out]; exact hA, hO⟩
    | ask =>
      have cA := ask_any c m2 M w6 hA Hc.out hat2
      have hok := c.step_ok Hc.out .ask m2 (by decide) hat2
      obtain ⟨j, hj, hrun⟩ := Cas.run_step hmu (show Ctl.ask ≠ .stop by decide)
      have HR := Lib.hid (hR.out.trans hrun)
      have Hok := Lib.hid hok
      have Hmu := Lib.hid hmu
      have Hj := Lib.hid hj
      simp only [ctlV]
      clear hrun hok hmu hj hR
      go_wp2_with fail
      refine cA.mono ?_
      rintro e w7 ⟨rfl, hA7, hO7⟩
      clear cA
      go_wp2_with fail
      go_roundg j
      case measure => have := Hj.out; omega
      case rel => exact ⟨(c.askS m2).1, (c.askS m2).2, rfl, hA7, hO.trans hO7, Hok.out.1, by have h1 : c.mu (c.askS m2).1 (c.askS m2).2 < c.mu .ask m2 := Hok.out.2; have := Hmu.out; have := Hj.out; omega, HR⟩
    | search =>
      have cA := search_any c m2 M w6 hA Hc.out hat2
      have hok := c.step_ok Hc.out .search m2 (by decide) hat2
      obtain ⟨j, hj, hrun⟩ := Cas.run_step hmu (show Ctl.search ≠ .stop by decide)
      have HR := Lib.hid (hR.out.trans hrun)
      have Hok := Lib.hid hok
      have Hmu := Lib.hid hmu
      have Hj := Lib.hid hj
      simp only [ctlV]
      clear hrun hok hmu hj hR
      go_wp2_with fail
      refine cA.mono ?_
      rintro e w7 ⟨rfl, hA7, hO7⟩
      clear cA
      go_wp2_with fail
      go_roundg j
      case measure => have := Hj.out; omega
      case rel => exact ⟨(c.srcS m2).1, (c.srcS m2).2, rfl, hA7, hO.trans hO7, Hok.out.1, by have h1 : c.mu (c.srcS m2).1 (c.srcS m2).2 < c.mu .search m2 := Hok.out.2; have := Hmu.out; have := Hj.out; omega, HR⟩
    | halve =>
      have cA := halve_any c m2 M w6 hA Hc.out hat2
      have hok := c.step_ok Hc.out .halve m2 (by decide) hat2
      obtain ⟨j, hj, hrun⟩ := Cas.run_step hmu (show Ctl.halve ≠ .stop by decide)
      have HR := Lib.hid (hR.out.trans hrun)
      have Hok := Lib.hid hok
      have Hmu := Lib.hid hmu
      have Hj := Lib.hid hj
      simp only [ctlV]
      clear hrun hok hmu hj hR
      go_wp2_with fail
      refine cA.mono ?_
      rintro e w7 ⟨rfl, hA7, hO7⟩
      clear cA
      go_wp2_with fail
      go_roundg j
      case measure => have := Hj.out; omega
      case rel => exact ⟨(c.hlvS m2).1, (c.hlvS m2).2, rfl, hA7, hO.trans hO7, Hok.out.1, by have h1 : c.mu (c.hlvS m2).1 (c.hlvS m2).2 < c.mu .halve m2 := Hok.out.2; have := Hmu.out; have := Hj.out; omega, HR⟩

end Go.Proofs.YtfolgmcoggejbaaGreat
