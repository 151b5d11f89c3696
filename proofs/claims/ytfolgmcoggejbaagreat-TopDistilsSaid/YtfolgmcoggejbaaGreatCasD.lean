/- Contracts of the steps of a course: ask. For a course that is valid. -/
import Derived.Test.YtfolgmcoggejbaaGreatCasC
import Derived.StillTail
import Derived.StillTailTactics
import Derived.Deep.DeepCutAuto
namespace Go.Proofs.YtfolgmcoggejbaaGreat
open Go.RowKit Go.Maps
set_option linter.unusedVariables false
set_option linter.unusedSimpArgs false

/-- The function value of a place of the course. -/
def ctlV (M : Mem) : Ctl → Value
  | .ask => .func (.func 158) #[.pointer (some ⟨M.g, 0, none⟩)] #[]
  | .search => .func (.func 207) #[.pointer (some ⟨M.g, 0, none⟩)] #[]
  | .halve => .func (.func 159) #[.pointer (some ⟨M.g, 0, none⟩)] #[]
  | .stop => .nilFunc
/-- The blocks that a step turns. -/
def Mem.S (M : Mem) (k : Nat) : Prop := k = M.g ∨ M.bv.ownBlock = some k
def StepR (c : Cas) (M : Mem) (r : Ctl × Mac) (w w' : World) (e : Ending) : Prop := e = .returned (ctlV M r.1) ∧ MacAt w' c r.2 M ∧ OutS M.S w w'
def cellN (w : World) (a : Addr) : Nat := match w.cell? a with | some (.int _ n) => n.toNat | _ => 0
theorem cellN_of {w : World} {a : Addr} {k : IntKind} {n : Nat} (h : w.cell? a = some (.int k (n : Int))) : cellN w a = n := by simp [cellN, h]
theorem OutS.toM {M : Mem} {w w' : World} (h : OutS (fun k => k = M.g) w w') : OutS M.S w w' := h.mono (fun _ _ h => .inl h)

set_option maxRecDepth 100000 in
set_option maxHeartbeats 8000000 in
theorem ask_any (c : Cas) (m : Mac) (M : Mem) (w : World) (h : MacAt w c m M) (hc : c.Ok) (hat : c.at .ask m) :
    Calls Tryz.prog 158 #[.pointer (some ⟨M.g, 0, none⟩)] w fun e w' => StepR c M (c.askS m) w w' e := by
  have x11 : w.cell? ⟨M.g, 11, none⟩ = some (.int .i64 (m.pass : Int)) := h.cel 11
  have x1 : w.cell? ⟨M.g, 1, none⟩ = some (.int .i64 (c.P : Int)) := h.cel 1
  have hpass := hat.1.pass
  have hP := hc.P
  by_cases hp : m.pass = c.P
  · have hs : Hid (c.askS m = (.stop, m)) := Lib.hid (by unfold Cas.askS; rw [if_pos hp])
    have hd := h.on (Below.refl _ _).drew
    have g1 : ((m.pass : Int) == (c.P : Int)) = true := by simp [hp]
    clear hpass hP hat hc h hp
    go_enter Tryz.func158, Tryz.ntmps158
    go_upto_region 1 with fail
    go_region
    go_wp2_with fail
    go_ret
    rw [hs.out]
    exact ⟨rfl, hd, OutS.of (Below.refl _ _).drew⟩
  · have hs : Hid (c.askS m = askGo m ((c.blk m.pass).drop m.block)) := Lib.hid (by unfold Cas.askS; rw [if_neg hp])
    have hpl : m.pass < c.P := Nat.lt_of_le_of_ne hpass hp
    have g1 : ((m.pass : Int) == (c.P : Int)) = false := by simp; omega
    have hbl := hat.1.blk
    have hsh := c.blk_short hc m.pass
    have Hc := Lib.hid hc
    have HP := Lib.hid hP
    clear hpass hP hat hc hp
    go_enter Tryz.func158, Tryz.ntmps158
    go_upto_region 1 with fail
    go_region
    have hd := h.on (Below.refl _ _).drew
    have od : OutS (fun k => k = M.g) w w.drew := OutS.of (Below.refl _ _).drew
    clear h x11 x1
    obtain ⟨L, hL⟩ : ∃ L, (c.blk m.pass).length = L := ⟨_, rfl⟩
    have HL := Lib.hid hL
    rw [hL] at hbl hsh
    clear hL
    go_wp2_with fail
    go_loopw [2] (fun v wr => v = .nilFunc ∧ ∃ i : Nat, i ≤ L ∧ MacAt wr c { m with block := i } M ∧ OutS (fun k => k = M.g) w wr ∧ Hid (askGo m ((c.blk m.pass).drop m.block) = askGo { m with block := i } ((c.blk m.pass).drop i))) (fun _ wr => L - cellN wr ⟨M.g, 12, none⟩)
    case atStart => exact ⟨rfl, m.block, hbl, hd, od, Lib.hid rfl⟩
    case round =>
      obtain ⟨rfl, i, hi, hA, hO, hG⟩ := hrel
      obtain ⟨w6, rfl⟩ : ∃ w6, w6 = wr := ⟨_, rfl⟩
      obtain ⟨A, k, b1, b2, b3, b4⟩ := hA.rows.blk m.pass hpl
      rw [HL.out] at b1 b2
      have y12 : w6.cell? ⟨M.g, 12, none⟩ = some (.int .i64 (i : Int)) := hA.cel 12
      have y11 : w6.cell? ⟨M.g, 11, none⟩ = some (.int .i64 (m.pass : Int)) := hA.cel 11
      have y5 : w6.cell? ⟨M.g, 5, none⟩ = some (.slice (some ⟨M.kb, 0, none⟩) c.P M.kc) := hA.cel 5
      have hkc := hA.rows.kc.1
      have hcn := cellN_of y12
      clear hd od
      by_cases hlt : i < L
      · obtain ⟨q, hq⟩ : ∃ q, (c.blk m.pass)[i]? = some q := ⟨_, List.getElem?_eq_getElem (by rw [HL.out]; exact hlt)⟩
        have hqv : c.val q := by
          have h1 := c.blk_at (p := m.pass) (i := i) (by rw [HL.out]; exact hlt)
          rw [hq] at h1
          rw [Option.some.inj h1]
          exact c.blk_val Hc.out hpl (by rw [HL.out]; exact hlt)
        have hql := c.val_low Hc.out hqv
        have hst : Hid (askGo { m with block := i } ((c.blk m.pass).drop i) = if (lookT m.told q).isSome then askGo { m with block := i + 1 } ((c.blk m.pass).drop (i + 1)) else (.stop, { m with block := i, next := q, opn := true })) := Lib.hid (by
          have h1 : i < (c.blk m.pass).length := by rw [HL.out]; exact hlt
          rw [List.drop_eq_getElem_cons h1]
          have h2 : (c.blk m.pass)[i] = q := by rw [List.getElem?_eq_getElem h1] at hq; exact Option.some.inj hq
          rw [h2]
          rfl)
        obtain ⟨b, off, rfl, _, _, hcell⟩ := b4 (fun e => by rw [e] at hq; simp at hq)
        have z0 := hcell i q hq 0 _ rfl
        have z1 := hcell i q hq 1 _ rfl
        have z2 := hcell i q hq 2 _ rfl
        simp only [Nat.add_zero] at z0
        go_upto_region 3 with fail
        go_region
        go_upto_region 5 with fail
        have hA5 := hA.on (Below.refl _ _).drew
        have oK : OutS (fun k => k = M.g) w w6.drew.drew := hO.trans (OutS.of (Below.refl _ _).drew.drew)
        obtain ⟨w5, hw5⟩ : ∃ w5, w6.drew = w5 := ⟨_, rfl⟩
        have t12 : w5.cell? ⟨M.g, 12, none⟩ = some (.int .i64 (i : Int)) := by rw [← hw5]; exact y12
        have t11 : w5.cell? ⟨M.g, 11, none⟩ = some (.int .i64 (m.pass : Int)) := by rw [← hw5]; exact y11
        have t5 : w5.cell? ⟨M.g, 5, none⟩ = some (.slice (some ⟨M.kb, 0, none⟩) c.P M.kc) := by rw [← hw5]; exact y5
        have tb : w5.cell? ⟨M.kb, m.pass, none⟩ = some (.slice (some ⟨b, off, none⟩) L k) := by rw [← hw5]; exact b1
        have t0 : w5.cell? ⟨b, off + i * 3, none⟩ = some (.int .i64 (q.pass : Int)) := by rw [← hw5]; exact z0
        have t1 : w5.cell? ⟨b, off + i * 3 + 1, none⟩ = some (.int .i64 (q.fr : Int)) := by rw [← hw5]; exact z1
        have t2 : w5.cell? ⟨b, off + i * 3 + 2, none⟩ = some (.int .i64 (q.to : Int)) := by rw [← hw5]; exact z2
        rw [hw5] at hA5 oK ⊢
        clear hw5 y12 y11 y5 b1 z0 z1 z2 b4 hcell hA hO hqv
        have cK := knows_any c { m with block := i } M q w5.drew (hA5.on (Below.refl _ _).drew) hql
        have hA5d := hA5.on (Below.refl _ _).drew
        clear hA5 hql
        go_still_tail 17, (by kernel_rfl)
        change wpList _ _ _ _ _ w5.drew
        go_wp2_with fail
        refine cK.mono ?_
        rintro e w7 (⟨hk, rfl, hb7⟩ | ⟨hk, rfl, hA7, hO7⟩)
        · have hA7 := hA5d.on hb7
          have c12 : w7.cell? ⟨M.g, 12, none⟩ = some (.int .i64 (i : Int)) := hA7.cel 12
          have f12 := hA7.fr 12
          have hB : MacAt (w7.setCell ⟨M.g, 12, none⟩ (.int .i64 ((i : Int) + 1))) c { m with block := i + 1 } M := hA7.set 12 _ (m' := { m with block := i + 1 }) rfl rfl rfl
          have oB : OutS (fun k => k = M.g) w (w7.setCell ⟨M.g, 12, none⟩ (.int .i64 ((i : Int) + 1))) := (oK.trans (OutS.of hb7)).trans (OutS.set rfl)
          have hG2 : Hid (askGo m ((c.blk m.pass).drop m.block) = askGo { m with block := i + 1 } ((c.blk m.pass).drop (i + 1))) := Lib.hid (by rw [hG.out, hst.out, if_pos hk])
          clear hA7 hA5d t12 t11 t5 tb t0 t1 t2 hst hG hb7
          go_wp2_with fail
          refine ⟨⟨rfl, i + 1, by omega, hB, oB, hG2⟩, ?_⟩
          have h9 : (w7.setCell ⟨M.g, 12, none⟩ (.int .i64 ((i : Int) + 1))).cell? ⟨M.g, 12, none⟩ = some (.int .i64 ((i + 1 : Nat) : Int)) := hB.cel 12
          rw [cellN_of h9, hcn]
          omega
        · have hR : Hid (c.askS m = (.stop, { m with block := i, next := q, opn := true })) := Lib.hid (by rw [hs.out, hG.out, hst.out, if_neg (by rw [hk]; decide)])
          clear hA5d t12 t11 t5 tb t0 t1 t2 hst hG
          go_wp2_with fail
          go_ret
          rw [hR.out]
          exact ⟨rfl, hA7, (oK.trans hO7).toM⟩
      · obtain rfl : i = L := by omega
        have hR : Hid (c.askS m = (.search, { m with block := i })) := Lib.hid (by rw [hs.out, hG.out, List.drop_eq_nil_of_le (by rw [HL.out]; exact Nat.le_refl _)]; rfl)
        have hAd := hA.on (Below.refl _ _).drew
        go_upto_region 3 with fail
        go_region
        go_wp2_with fail
        go_ret
        rw [hR.out]
        exact ⟨rfl, hAd, (hO.trans (OutS.of (Below.refl _ _).drew)).toM⟩

end Go.Proofs.YtfolgmcoggejbaaGreat
