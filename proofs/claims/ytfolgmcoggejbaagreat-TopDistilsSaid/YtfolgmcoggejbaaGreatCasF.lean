/- Contract of a course's halving. For a course that is valid. -/
import Derived.Test.YtfolgmcoggejbaaGreatCasD
import Derived.Test.YtfolgmcoggejbaaGreatMadeK
namespace Go.Proofs.YtfolgmcoggejbaaGreat
open Go.RowKit Go.Maps
set_option linter.unusedVariables false
set_option linter.unusedSimpArgs false

theorem MacAt.bvs {w : World} {c : Cas} {m : Mac} {M : Mem} (h : MacAt w c m M) (hl : 0 < m.b.length) : ∃ bk cap, M.bv = .slice (some ⟨bk, 0, none⟩) m.b.length cap ∧ m.b.length ≤ cap := by
  rcases h.b.2 with ⟨_, h0⟩ | ⟨g, cap, cur, hv, _, _, hn, _⟩
  · omega
  · exact ⟨g, cap, hv, hn⟩
theorem MacAt.setB {w : World} {c : Cas} {m : Mac} {M : Mem} (h : MacAt w c m M) {bk cap : Nat} (hbv : M.bv = .slice (some ⟨bk, 0, none⟩) m.b.length cap) {i : Nat} (hi : i < m.b.length) (v : Bool) :
    MacAt (w.setCell ⟨bk, i, none⟩ (.bool v)) c { m with b := m.b.set i v } M ∧ OutS M.S w (w.setCell ⟨bk, i, none⟩ (.bool v)) := by
  have hk : M.bv.ownBlock = some bk := by rw [hbv]; rfl
  obtain ⟨n1, n2, n3⟩ := h.nb hk
  have ho : OutS (fun k => k = bk) w (w.setCell ⟨bk, i, none⟩ (.bool v)) := OutS.set rfl
  have hb := h.b
  rw [hbv] at hb
  have hs := Own.setK (x' := v) (j := 0) (u := .bool v) hb rfl encB_len (List.getElem?_eq_getElem hi) (by decide) rfl
  simp only [Nat.mul_one, Nat.add_zero] at hs
  obtain ⟨D, hD⟩ := h.kn
  obtain ⟨es, clock, hbk, r⟩ := hD.own
  refine ⟨⟨ho.row h.row (fun e => n1 e.symm), h.rows.keep ho (fun k hk => by subst hk; exact h.obv _ (by rw [hbv]; rfl)), ?_, ho.own h.tv (fun k hk2 e => n3 (by rw [hk2, e])), ⟨D, ⟨es, clock, ho.row hbk (fun e => n2 e.symm), r⟩, hD.has, hD.miss, hD.at_, hD.low, hD.nod⟩, h.og, h.om, h.obv, h.otv⟩, ho.mono (fun k _ e => .inr (by rw [e, hbv]; rfl))⟩
  rw [hbv]; exact hs

set_option maxRecDepth 100000 in
set_option maxHeartbeats 16000000 in
theorem halve_any (c : Cas) (m : Mac) (M : Mem) (w : World) (h : MacAt w c m M) (hc : c.Ok) (hat : c.at .halve m) :
    Calls Tryz.prog 159 #[.pointer (some ⟨M.g, 0, none⟩)] w fun e w' => StepR c M (c.hlvS m) w w' e := by
  obtain ⟨hv, hf, hp⟩ := hat.1.odd hat.2.1
  have hlen := hat.1.len
  have x14 : w.cell? ⟨M.g, 14, none⟩ = some (.int .i64 (m.odd.pass : Int)) := h.cel 14
  have x15 : w.cell? ⟨M.g, 15, none⟩ = some (.int .i64 (m.odd.fr : Int)) := h.cel 15
  have x16 : w.cell? ⟨M.g, 16, none⟩ = some (.int .i64 (m.odd.to : Int)) := h.cel 16
  have x4 : w.cell? ⟨M.g, 4, none⟩ = some (.slice (some ⟨M.ob, 0, none⟩) c.P M.oc) := h.cel 4
  have hP := hc.P
  have hn := hc.n
  have hv1 := hv.1; have hv2 := hv.2.1; have hv3 := hv.2.2
  have Hc := Lib.hid hc; have Hv := Lib.hid hv; have Hlen := Lib.hid hlen
  obtain ⟨z, hz⟩ : ∃ z, m.odd.to - m.odd.fr = z := ⟨_, rfl⟩
  have Hz := Lib.hid hz
  have hzi : (m.odd.to : Int) - (m.odd.fr : Int) = (z : Int) := by omega
  have hz1 : 1 ≤ z ∧ z ≤ 512 := by omega
  by_cases h1 : z = 1
  · subst h1
    have hn0 : 0 < m.b.length := by omega
    obtain ⟨bk, cap, hbv, hcap⟩ := h.bvs hn0
    obtain ⟨A, k, o1, o2, o3, o4⟩ := h.rows.ord m.odd.pass hv1
    have hF : m.odd.fr < (c.ord m.odd.pass).length := by rw [c.ord_len]; omega
    obtain ⟨i, hi, hin⟩ := Cas.ord_mem (List.getElem_mem hF)
    obtain ⟨ab, ao, hA, _, _, hcell⟩ := o4 (fun e => by rw [e] at hF; simp at hF)
    have hoe : (c.ord m.odd.pass)[m.odd.fr]? = some (i : Int) := by rw [List.getElem?_eq_getElem hF, hi]
    have z0 := hcell m.odd.fr _ hoe 0 _ rfl
    simp only [Nat.mul_one, Nat.add_zero] at z0
    subst hA
    have hbit : m.bit c = i := by unfold Mac.bit; rw [List.getD_eq_getElem?_getD, hoe]; simp
    have hib : i < m.b.length := by omega
    obtain ⟨bv, hbe⟩ : ∃ bv, m.b[i]? = some bv := ⟨_, List.getElem?_eq_getElem hib⟩
    have hb := h.b
    rw [hbv] at hb
    have c0 : w.cell? ⟨bk, i, none⟩ = some (.bool bv) := by
      have := Own.atK (j := 0) (u := .bool bv) hb rfl encB_len hbe rfl
      simpa using this
    have f0 : w.frozen? ⟨bk, i, none⟩ = false := Own.frK hb rfl i
    have x6 := h.cel 6
    rw [show (M.cs c m)[6]? = some (.slice (some ⟨bk, 0, none⟩) m.b.length cap) from congrArg some hbv] at x6
    have hR : Hid (c.hlvS m = (.search, { m with b := m.b.set i (!bv), flips := m.flips + 1, srch := false })) := Lib.hid (by
      unfold Cas.hlvS
      rw [if_pos Hz.out, hbit, List.getD_eq_getElem?_getD, hbe]; rfl)
    have hP2 := h.rows.oc.1
    clear hi hoe hcell hb hbe hbit hat hF hc hv o4 hz
    go_enter Tryz.func159, Tryz.ntmps159
    go_upto_region 1 with fail
    go_region
    go_upto_region 3 with fail
    go_region
    go_upto_region 4 with fail
    go_region
    obtain ⟨k1, u1⟩ := h.setB hbv hib (!bv)
    have k2 := k1.on (Below.refl _ _).drew.drew.drew
    have p2 : OutS M.S w (w.setCell ⟨bk, i, none⟩ (.bool !bv)).drew.drew.drew := u1.trans (OutS.of (Below.refl _ _).drew.drew.drew)
    obtain ⟨w2, hw2⟩ : ∃ w2, (w.setCell ⟨bk, i, none⟩ (.bool !bv)).drew.drew.drew = w2 := ⟨_, rfl⟩
    rw [hw2] at k2 p2 ⊢
    clear hw2 k1 u1 h x14 x15 x16 x4 x6 c0 f0 z0 o1
    have y9 : w2.cell? ⟨M.g, 9, none⟩ = some (.int .i64 (m.flips : Int)) := k2.cel 9
    have y13 : w2.cell? ⟨M.g, 13, none⟩ = some (.bool m.srch) := k2.cel 13
    have f9 := k2.fr 9
    have f13 := k2.fr 13
    have k3 : MacAt (w2.setCell ⟨M.g, 9, none⟩ (.int .i64 ((m.flips : Int) + 1))) c { m with b := m.b.set i (!bv), flips := m.flips + 1 } M := k2.set 9 _ (m' := { m with b := m.b.set i (!bv), flips := m.flips + 1 }) rfl rfl rfl
    have k4 := k3.set 13 (.bool false) (m' := { m with b := m.b.set i (!bv), flips := m.flips + 1, srch := false }) rfl rfl rfl
    have p4 : OutS M.S w ((w2.setCell ⟨M.g, 9, none⟩ (.int .i64 ((m.flips : Int) + 1))).setCell ⟨M.g, 13, none⟩ (.bool false)) := (p2.trans (OutS.set (.inl rfl))).trans (OutS.set (.inl rfl))
    clear k2 k3 p2
    go_wp2_with fail
    go_ret
    rw [hR.out]
    exact ⟨rfl, k4, p4⟩
  · have hfl : m.first.low := by
      have := hc.P
      refine ⟨?_, ?_, ?_⟩ <;> simp only [Mac.first] <;> omega
    have hfv : c.val m.first := ⟨hv.1, by simp only [Mac.first]; omega, by simp only [Mac.first]; omega⟩
    obtain ⟨t, ht⟩ : ∃ t, m.odd.fr + z / 2 = t := ⟨_, rfl⟩
    have hfe : m.first = ⟨m.odd.pass, m.odd.fr, t⟩ := by unfold Mac.first; rw [hz, ht]
    have hti : (m.odd.fr : Int) + (z : Int) / 2 = (t : Int) := by omega
    have ht2 : t ≤ 512 := by omega
    have g1 : ((z : Int) == 1) = false := by simpa using (by omega : ¬ (z : Int) = 1)
    have hne : ¬ m.odd.to - m.odd.fr = 1 := by omega
    have Hne := Lib.hid hne
    have Hfe := Lib.hid hfe
    have Hfl := Lib.hid hfl
    have Hfv := Lib.hid hfv
    have Hat := Lib.hid hat
    clear hne hfe hfl hfv hat hc hv ht hz h1
    go_enter Tryz.func159, Tryz.ntmps159
    go_upto_region 1 with fail
    go_region
    go_upto_region 10 with fail
    have bq := (below_alloc (Below.refl w.heap.size w) (.cells #[.int .i64 (m.odd.pass : Int), .int .i64 (m.odd.fr : Int), .int .i64 (t : Int)] 132)).drew
    have t0 : (w.alloc (.cells #[.int .i64 (m.odd.pass : Int), .int .i64 (m.odd.fr : Int), .int .i64 (t : Int)] 132)).drew.cell? ⟨w.heap.size, 0, none⟩ = some (.int .i64 (m.odd.pass : Int)) := new_cell rfl
    have t1 : (w.alloc (.cells #[.int .i64 (m.odd.pass : Int), .int .i64 (m.odd.fr : Int), .int .i64 (t : Int)] 132)).drew.cell? ⟨w.heap.size, 1, none⟩ = some (.int .i64 (m.odd.fr : Int)) := new_cell rfl
    have t2 : (w.alloc (.cells #[.int .i64 (m.odd.pass : Int), .int .i64 (m.odd.fr : Int), .int .i64 (t : Int)] 132)).drew.cell? ⟨w.heap.size, 2, none⟩ = some (.int .i64 (t : Int)) := new_cell rfl
    have hA1 := h.on bq
    obtain ⟨fb, hfb⟩ : ∃ fb, w.heap.size = fb := ⟨_, rfl⟩
    have hgb : M.g < fb := by rw [← hfb]; exact (Array.getElem?_eq_some_iff.1 h.row).1
    obtain ⟨w1, hw1⟩ : ∃ w1, (w.alloc (.cells #[.int .i64 (m.odd.pass : Int), .int .i64 (m.odd.fr : Int), .int .i64 (t : Int)] 132)).drew = w1 := ⟨_, rfl⟩
    rw [hw1] at bq t0 t1 t2 hA1 ⊢
    rw [hfb] at t0 t1 t2 ⊢
    have Bq := Lib.hid bq
    clear hw1 hfb x14 x15 x16 x4 bq
    have hfl2 := Hfl.out; have hfv2 := Hfv.out
    rw [Hfe.out] at hfl2 hfv2
    have cK := knows_any c m M ⟨m.odd.pass, m.odd.fr, t⟩ w1 hA1 hfl2
    have Hfv2 := Lib.hid hfv2
    clear hfl2 hfv2
    go_wp2_with fail
    refine cK.mono ?_
    rintro e w2 (⟨hk, rfl, hb2⟩ | ⟨hk, rfl, hA2, hO2⟩)
    case inr =>
      have hR : Hid (c.hlvS m = (.stop, { m with next := ⟨m.odd.pass, m.odd.fr, t⟩, opn := true })) := Lib.hid (by
        unfold Cas.hlvS
        rw [if_neg Hne.out, Hfe.out]
        have : m.look ⟨m.odd.pass, m.odd.fr, t⟩ = none := by
          cases hl : m.look ⟨m.odd.pass, m.odd.fr, t⟩ with
          | none => rfl
          | some a => rw [show lookT m.told ⟨m.odd.pass, m.odd.fr, t⟩ = some a from hl] at hk; cases hk
        rw [this])
      clear cK t0 t1 t2
      go_wp2_with fail
      go_ret
      rw [hR.out]
      exact ⟨rfl, hA2, (OutS.of Bq.out).trans hO2.toM⟩
    · obtain ⟨a, ha⟩ : ∃ a, lookT m.told ⟨m.odd.pass, m.odd.fr, t⟩ = some a := Option.isSome_iff_exists.1 hk
      have hA2 := hA1.on hb2
      have q2 := below_trans Bq.out hb2
      have s0 := bel_cell hb2 t0
      have s1 := bel_cell hb2 t1
      have s2 := bel_cell hb2 t2
      have y7 : w2.cell? ⟨M.g, 7, none⟩ = some (.map (some M.mb)) := hA2.cel 7
      have hL := (hA2.kn.look (c.val_low Hc.out Hfv2.out)).1
      have hLd := ((hA2.on (Below.refl _ _).drew).kn.look (c.val_low Hc.out Hfv2.out)).1
      rw [ha] at hL hLd
      simp only [Option.getD_some] at hL hLd
      unfold qv at hL hLd
      have cO := isOdd_any c m M ⟨m.odd.pass, m.odd.fr, t⟩ a w2.drew (hA2.on (Below.refl _ _).drew) Hc.out Hlen.out Hfv2.out
      have hR : Hid (c.hlvS m = if c.isOdd m.b ⟨m.odd.pass, m.odd.fr, t⟩ a = true then (.halve, { m with odd := ⟨m.odd.pass, m.odd.fr, t⟩, ans := a }) else (.halve, { m with odd := ⟨m.odd.pass, t, m.odd.to⟩, ans := m.ans != a })) := Lib.hid (by
        unfold Cas.hlvS
        rw [if_neg Hne.out, Hfe.out, look_told, ha])
      generalize c.isOdd m.b ⟨m.odd.pass, m.odd.fr, t⟩ a = od at cO hR
      clear cK t0 t1 t2 hA1 hk
      go_upto_region 12 with fail
      go_region
      go_wp2_with fail
      refine cO.mono ?_
      rintro e w3 ⟨rfl, hb3⟩
      have q3 := q2.drew.trans (hb3.mono q2.drew.size)
      have hA3 := (hA2.on (Below.refl _ _).drew).on hb3
      have r0 := bel_cell (w := w2.drew) hb3 s0
      have r1 := bel_cell (w := w2.drew) hb3 s1
      have r2 := bel_cell (w := w2.drew) hb3 s2
      clear cO s0 s1 s2 y7 hL hLd hb3 hb2 q2 hA2
      have y14 : w3.cell? ⟨M.g, 14, none⟩ = some (.int .i64 (m.odd.pass : Int)) := hA3.cel 14
      have y15 : w3.cell? ⟨M.g, 15, none⟩ = some (.int .i64 (m.odd.fr : Int)) := hA3.cel 15
      have y16 : w3.cell? ⟨M.g, 16, none⟩ = some (.int .i64 (m.odd.to : Int)) := hA3.cel 16
      have y17 : w3.cell? ⟨M.g, 17, none⟩ = some (.bool m.ans) := hA3.cel 17
      have f14 := hA3.fr 14
      have f15 := hA3.fr 15
      have f16 := hA3.fr 16
      have f17 := hA3.fr 17
      cases od
      · go_upto_region 15 with fail
        go_region
        have k1 : MacAt (w3.setCell ⟨M.g, 15, none⟩ (.int .i64 (t : Int))) c { m with odd := ⟨m.odd.pass, t, m.odd.to⟩ } M := hA3.set 15 _ (m' := { m with odd := ⟨m.odd.pass, t, m.odd.to⟩ }) rfl rfl rfl
        have k2 := k1.set 17 (.bool (!(m.ans == a))) (m' := { m with odd := ⟨m.odd.pass, t, m.odd.to⟩, ans := m.ans != a }) rfl rfl rfl
        have k3 := k2.on (Below.refl _ _).drew
        have p3 : OutS M.S w ((w3.setCell ⟨M.g, 15, none⟩ (.int .i64 (t : Int))).setCell ⟨M.g, 17, none⟩ (.bool (!(m.ans == a)))).drew := (((OutS.of q3).trans (OutS.set (.inl rfl))).trans (OutS.set (.inl rfl))).trans (OutS.of (Below.refl _ _).drew)
        have hR2 := hR.out
        rw [if_neg (by decide)] at hR2
        have HR2 := Lib.hid hR2
        clear k1 k2 hA3 y14 y15 y16 y17 f14 f15 f16 f17 r0 r1 r2 hR2
        go_wp2_with fail
        go_ret
        rw [HR2.out]
        exact ⟨rfl, k3, p3⟩
      · go_upto_region 14 with fail
        have k1 : MacAt (w3.setCell ⟨M.g, 14, none⟩ (.int .i64 (m.odd.pass : Int))) c m M := hA3.set 14 _ (m' := m) rfl rfl rfl
        have k2 := k1.set 15 (.int .i64 (m.odd.fr : Int)) (m' := m) rfl rfl rfl
        have k3 := k2.set 16 (.int .i64 (t : Int)) (m' := { m with odd := ⟨m.odd.pass, m.odd.fr, t⟩ }) rfl rfl rfl
        have k4 := k3.set 17 (.bool a) (m' := { m with odd := ⟨m.odd.pass, m.odd.fr, t⟩, ans := a }) rfl rfl rfl
        have p4 : OutS M.S w ((((w3.setCell ⟨M.g, 14, none⟩ (.int .i64 (m.odd.pass : Int))).setCell ⟨M.g, 15, none⟩ (.int .i64 (m.odd.fr : Int))).setCell ⟨M.g, 16, none⟩ (.int .i64 (t : Int))).setCell ⟨M.g, 17, none⟩ (.bool a)) := ((((OutS.of q3).trans (OutS.set (.inl rfl))).trans (OutS.set (.inl rfl))).trans (OutS.set (.inl rfl))).trans (OutS.set (.inl rfl))
        have hR2 := hR.out
        rw [if_pos (by first | trivial | rfl)] at hR2
        have HR2 := Lib.hid hR2
        have K4 := Lib.hid k4
        have P4 := Lib.hid p4
        clear k1 k2 k3 k4 p4 hR2
        go_wp2_with fail
        go_ret
        rw [HR2.out]
        exact ⟨rfl, K4.out, P4.out⟩

end Go.Proofs.YtfolgmcoggejbaaGreat
