/- Contract of reconcile.Run: the course of a whole cascade. For a plan that is valid. -/
import Derived.Test.YtfolgmcoggejbaaGreatCasL
namespace Go.Proofs.YtfolgmcoggejbaaGreat
open Go.RowKit Go.Maps
set_option linter.unusedVariables false
set_option linter.unusedSimpArgs false

def Cas.top (c : Cas) : Nat := c.P * ((c.n + 1) * (c.n + 1))
def Cas.goT (c : Cas) (t : List Bool) : Nat → Mac → Mac
  | 0, m => m
  | k + 1, m => if m.opn = true then c.goT t k (c.tell m (par t (c.part m.next))) else m
def Cas.runT (c : Cas) (t b : List Bool) : Mac := c.goT t (c.top + 1) (c.new b)
theorem goT_same {c : Cas} (hc : c.Ok) (t : List Bool) : ∀ (k k' : Nat) (m : Mac), c.at .stop m → c.top < m.told.length + k → c.top < m.told.length + k' → c.goT t k m = c.goT t k' m := by
  intro k
  induction k with
  | zero =>
    intro k' m h h1 h2
    have := h.1.few
    unfold Cas.top at h1
    omega
  | succ k ih =>
    intro k' m h h1 h2
    cases k' with
    | zero =>
      have := h.1.few
      unfold Cas.top at h2
      omega
    | succ k' =>
      unfold Cas.goT
      split
      · rename_i ho
        obtain ⟨h3, h4⟩ := Cas.tell_ok hc h ho (par t (c.part m.next))
        have hl : (c.tell m (par t (c.part m.next))).told.length = m.told.length + 1 := by rw [h4]; simp
        exact ih k' _ h3 (by omega) (by omega)
      · rfl

theorem cplan_ok (c : Cas) (hc : c.Ok) (w : World) : Calls Tryz.prog 44 #[.agg #[.int .i64 (c.P : Int), .int .i64 (c.K : Int), .int .u64 (c.sd : Int)]] w fun e w' => e = .returned (.int .i64 0) ∧ Below w.heap.size w w' := by
  have h1 := hc.P; have h2 := hc.K
  go_enter Tryz.func44, Tryz.ntmps44
  go_wp2
  all_goals (go_ret; exact ⟨ret_int (by omega), below_alloc (Below.refl _ _) _⟩)
theorem MacAt.offT {w : World} {c : Cas} {m : Mac} {M : Mem} (h : MacAt w c m M) {k : Nat} (hk : M.T k) : k ≠ M.ob ∧ k < w.heap.size := by
  have ob := h.rows.ob
  have ne : ∀ j, M.off j → j ≠ M.ob := fun j ho e => by subst e; rcases ho with h1 | h1 <;> omega
  rcases hk with rfl | hk | rfl | hk
  · exact ⟨ne _ h.og, (Array.getElem?_eq_some_iff.1 h.row).1⟩
  · obtain ⟨cs, hr⟩ := own_row h.b hk
    exact ⟨ne _ (h.obv k hk), (Array.getElem?_eq_some_iff.1 hr).1⟩
  · obtain ⟨D, hD⟩ := h.kn
    obtain ⟨es, clock, hbk, _⟩ := hD.own
    exact ⟨ne _ h.om, (Array.getElem?_eq_some_iff.1 hbk).1⟩
  · obtain ⟨cs, hr⟩ := own_row h.tv hk
    exact ⟨ne _ (h.otv k hk), (Array.getElem?_eq_some_iff.1 hr).1⟩
set_option maxRecDepth 100000 in
set_option maxHeartbeats 4000000 in
theorem Run_any (c : Cas) (B : Option Addr) (cb : Nat) (b : List Bool) (T : Option Addr) (ct : Nat) (t : List Bool) (w : World) (hc : c.Ok) (hb : b.length = c.n) (ht : t.length = c.n) (hB : Arr 1 encB w w.heap.size B b) (nB : B = none → cb = 0) (hl : b.length ≤ cb) (hcb : cb ≤ maxLen) (hT : Arr 1 encB w w.heap.size T t) :
    Calls Tryz.prog 8 #[.agg #[.int .i64 (c.P : Int), .int .i64 (c.K : Int), .int .u64 (c.sd : Int)], .slice B c.n cb, .slice T c.n ct] w fun e w' => ∃ u v, e = .returned (.tuple #[u, v, .int .i64 0]) ∧ Own w' 0 4 1 encB u (c.runT t b).b ∧ Own w' 0 202 4 encA v (c.runT t b).told ∧ Below w.heap.size w w' := by
  have hn := hc.n
  have b1 := below_alloc (Below.refl w.heap.size w) (.cells #[.int .i64 (c.P : Int), .int .i64 (c.K : Int), .int .u64 (c.sd : Int)] 43)
  have cC := cplan_ok c hc
  have cN := fun w' (hx : Below w.heap.size w w') => mnew_any c B cb b w' hc hb (hB.on hx) nB hl hcb
  have x0 : (w.alloc (.cells #[.int .i64 (c.P : Int), .int .i64 (c.K : Int), .int .u64 (c.sd : Int)] 43)).cell? ⟨w.heap.size, 0, none⟩ = some (.int .i64 (c.P : Int)) := new_cell rfl
  have x1 : (w.alloc (.cells #[.int .i64 (c.P : Int), .int .i64 (c.K : Int), .int .u64 (c.sd : Int)] 43)).cell? ⟨w.heap.size, 1, none⟩ = some (.int .i64 (c.K : Int)) := new_cell rfl
  have x2 : (w.alloc (.cells #[.int .i64 (c.P : Int), .int .i64 (c.K : Int), .int .u64 (c.sd : Int)] 43)).cell? ⟨w.heap.size, 2, none⟩ = some (.int .u64 (c.sd : Int)) := new_cell rfl
  have Hc := Lib.hid hc
  have Hb := Lib.hid hb; have Ht := Lib.hid ht; have HT := Lib.hid hT
  clear hc hb ht hB nB hl hcb hT
  go_enter Tryz.func8, Tryz.ntmps8
  go_wp2_with (first
    | (go_at_call 44; refine (cC _).mono ?_; rintro e w2 ⟨rfl, hb2⟩; have z0 := bel_cell hb2 x0; have z1 := bel_cell hb2 x1; have z2 := bel_cell hb2 x2; have q2 := below_trans b1 hb2)
    | (go_at_call 45; refine (cN _ q2).mono ?_; rintro e w3 ⟨M, rfl, hM, hb3, hT3⟩))
  obtain ⟨wk, rfl⟩ : ∃ x, x = w3 := ⟨_, rfl⟩
  have hat := Cas.new_ok Hc.out Hb.out
  have hR := Lib.hid (show ∀ k, c.top < (c.new b).told.length + k → c.goT t k (c.new b) = c.runT t b from fun k hk => goT_same Hc.out t _ _ _ hat.1 hk (by unfold Cas.top; omega))
  go_loopg [] (c.top) (fun k wr => ∃ (m : Mac) (tv : Value), MacAt wr c m { M with tv := tv } ∧ OutS (fun k => w.heap.size ≤ k) wk wr ∧ c.at .stop m ∧ Hid (c.top ≤ m.told.length + k) ∧ Hid (∀ k, c.top < m.told.length + k → c.goT t k m = c.runT t b) ∧ (∀ k, ({ M with tv := tv } : Mem).T k → w.heap.size ≤ k))
  case atStart => exact ⟨c.new b, M.tv, hM, OutS.refl _ _, hat.1, Lib.hid (by omega), hR, fun k hk => Nat.le_trans (Nat.le_trans b1.size hb2.size) (hT3 k hk)⟩
  case round =>
    obtain ⟨m, tv, hA, hO, hs, hk, hG, hT4⟩ := hrel
    have x21 : wr.cell? ⟨M.g, 21, none⟩ = some (.bool m.opn) := hA.cel 21
    have q3 := below_trans q2 hb3
    have bwr : Below w.heap.size w wr := q3.trans (hO.below q3.size (fun k hk => hk))
    cases ho : m.opn with
    | false =>
      rw [ho] at x21
      have x6 : wr.cell? ⟨M.g, 6, none⟩ = some M.bv := hA.cel 6
      have x8 : wr.cell? ⟨M.g, 8, none⟩ = some tv := hA.cel 8
      have HE : Hid (c.runT t b = m) := Lib.hid (by
        rw [← hG.out (c.top + 1) (by omega)]
        unfold Cas.goT
        rw [if_neg (by rw [ho]; decide)])
      have o1 := hA.b; have o2 := hA.tv
      have L6 := later_cell x6
      have L8 := later_cell x8
      clear hA hO hs hM hR hat
      go_wp2_with fail
      (refine wp_region_later (by kernel_rfl) (by kernel_rfl) ?_; (repeat (go_big_quiet_step (fail))); refine wpQuiet_nil ?_; rintro w5 ⟨⟨_, hb5⟩, rfl⟩)
      go_wp2_with fail
      go_ret3
      exact ⟨_, _, rfl, by rw [HE.out]; exact o1.below hb5, by rw [HE.out]; exact o2.below hb5, bwr.trans (hb5.mono bwr.size)⟩
    | true =>
      rw [ho] at x21
      have x18 : wr.cell? ⟨M.g, 18, none⟩ = some (.int .i64 (m.next.pass : Int)) := hA.cel 18
      have x19 : wr.cell? ⟨M.g, 19, none⟩ = some (.int .i64 (m.next.fr : Int)) := hA.cel 19
      have x20 : wr.cell? ⟨M.g, 20, none⟩ = some (.int .i64 (m.next.to : Int)) := hA.cel 20
      obtain ⟨hv, hlk⟩ := hs.2 ho
      have x4 : wr.cell? ⟨M.g, 4, none⟩ = some (.slice (some ⟨M.ob, 0, none⟩) c.P M.oc) := hA.cel 4
      obtain ⟨A, k5, o1, o2, o3, o4⟩ := hA.rows.ord m.next.pass hv.1
      have hne : c.ord m.next.pass ≠ [] := fun e => by
        have h1 := c.ord_len m.next.pass
        rw [e] at h1
        have h2 := hv.2.1; have h3 := hv.2.2
        simp at h1; omega
      have arA := o4.arr hA.rows.hi
      obtain ⟨ab, ao, rfl, _, _, _⟩ := o4 hne
      have arP := arA.part m.next.fr (m.next.to - m.next.fr)
      have hpl := c.part_len hv
      have hin : ∀ x ∈ c.part m.next, ∃ i : Nat, x = (i : Int) ∧ i < t.length := fun x hx => by rw [Ht.out]; exact Cas.part_mem hx
      have cP : ∀ w', Below wr.heap.size wr w' → Calls Tryz.prog 47 #[.slice T c.n ct, .slice (some ⟨ab, ao + m.next.fr, none⟩) (m.next.to - m.next.fr) (k5 - m.next.fr)] w' fun e w2 => e = .returned (.bool (par t (c.part m.next))) ∧ w' = w2 := fun w' hb => by
        have hw : Below w.heap.size w w' := bwr.trans (hb.mono bwr.size)
        have h2 := parity_any T ct t (some ⟨ab, ao + m.next.fr * 1, none⟩) (k5 - m.next.fr) (c.part m.next) w' (HT.out.on hw) (arP.on hb) (by rw [Ht.out]; omega) (by have := hv.2.2; omega) hin
        rw [hpl, Nat.mul_one, Ht.out] at h2
        exact h2
      obtain ⟨wq, hwq⟩ : ∃ x, wr.alloc (.cells #[.int .i64 (m.next.pass : Int), .int .i64 (m.next.fr : Int), .int .i64 (m.next.to : Int)] 132) = x := ⟨_, rfl⟩
      have bq : Below wr.heap.size wr wq := by rw [← hwq]; exact below_alloc (Below.refl _ _) _
      have y4 := bel_cell bq x4
      have yo := bel_cell bq o1
      have z0' : wq.cell? ⟨wr.heap.size, 0, none⟩ = some (.int .i64 (m.next.pass : Int)) := by rw [← hwq]; exact new_cell rfl
      have z1' : wq.cell? ⟨wr.heap.size, 1, none⟩ = some (.int .i64 (m.next.fr : Int)) := by rw [← hwq]; exact new_cell rfl
      have z2' : wq.cell? ⟨wr.heap.size, 2, none⟩ = some (.int .i64 (m.next.to : Int)) := by rw [← hwq]; exact new_cell rfl
      have bqd := below_trans bq (Below.refl _ _).drew
      have cT := Tell_any c m { M with tv := tv } (par t (c.part m.next)) wq.drew (hA.on bqd) Hc.out hs ho
      have cP2 := cP wq.drew bqd
      have hoff : ∀ k, ({ M with tv := tv } : Mem).T k → k ≠ M.ob ∧ k < wr.heap.size := fun k hk => hA.offT hk
      have SX : Hid (∀ w', OutS ({ M with tv := tv } : Mem).T wq.drew w' → w'.cell? ⟨M.ob, m.next.pass, none⟩ = some (.slice (some ⟨ab, ao, none⟩) c.n k5) ∧ w'.cell? ⟨wr.heap.size, 0, none⟩ = some (.int .i64 (m.next.pass : Int)) ∧ w'.cell? ⟨wr.heap.size, 1, none⟩ = some (.int .i64 (m.next.fr : Int)) ∧ w'.cell? ⟨wr.heap.size, 2, none⟩ = some (.int .i64 (m.next.to : Int))) := Lib.hid (fun w' ho => ⟨ho.cell yo (fun e => (hoff _ e).1 rfl), ho.cell z0' (fun e => Nat.lt_irrefl _ (hoff _ e).2), ho.cell z1' (fun e => Nat.lt_irrefl _ (hoff _ e).2), ho.cell z2' (fun e => Nat.lt_irrefl _ (hoff _ e).2)⟩)
      have S0 := SX.out _ (OutS.refl _ _)
      have v1 := hv.1; have v2 := hv.2.1; have v3 := hv.2.2
      have Fin : Hid (∀ tv6 w6, MacAt w6 c (c.tell m (par t (c.part m.next))) { M with tv := tv6 } → OutS ({ M with tv := tv } : Mem).T wq.drew w6 → (∀ k, tv6.ownBlock = some k → tv.ownBlock = some k ∨ wq.drew.heap.size ≤ k) → ∃ (m : Mac) (tv : Value), MacAt w6 c m { M with tv := tv } ∧ OutS (fun k => w.heap.size ≤ k) wk w6 ∧ c.at .stop m ∧ Hid (c.top ≤ m.told.length + (gk - 1)) ∧ Hid (∀ k, c.top < m.told.length + k → c.goT t k m = c.runT t b) ∧ (∀ k, ({ M with tv := tv } : Mem).T k → w.heap.size ≤ k)) := Lib.hid (fun tv6 w6 hA6 hO6 hT6 => by
        obtain ⟨t1, t2⟩ := Cas.tell_ok Hc.out hs ho (par t (c.part m.next))
        have tl : (c.tell m (par t (c.part m.next))).told.length = m.told.length + 1 := by rw [t2]; simp
        refine ⟨_, tv6, hA6, hO.trans ((OutS.of bqd).trans (hO6.mono (fun j _ hj => hT4 j hj))), t1, Lib.hid (by have := hk.out; omega), Lib.hid (fun j hj => ?_), fun j hj => ?_⟩
        · rw [← hG.out (j + 1) (by omega)]
          conv => rhs; unfold Cas.goT
          rw [if_pos ho]
        · rcases hj with hj | hj | hj | hj
          · exact hT4 j (.inl hj)
          · exact hT4 j (.inr (.inl hj))
          · exact hT4 j (.inr (.inr (.inl hj)))
          · rcases hT6 j hj with h1 | h1
            · exact hT4 j (.inr (.inr (.inr h1)))
            · exact Nat.le_trans bwr.size (Nat.le_trans bqd.size h1))
      have Kp : Hid (0 < gk) := Lib.hid (by
        obtain ⟨t1, t2⟩ := Cas.tell_ok Hc.out hs ho (par t (c.part m.next))
        have tl : (c.tell m (par t (c.part m.next))).told.length = m.told.length + 1 := by rw [t2]; simp
        have h1 := t1.1.few
        have h2 := hk.out
        unfold Cas.top at h2
        omega)
      clear hG hk hT4 HT
      go_upto_region 12 with fail
      have i1 : (0 : Int) ≤ (m.next.fr : Int) := by omega
      have i2 : (m.next.fr : Int) ≤ (m.next.to : Int) := by omega
      have i3 : (m.next.to : Int) ≤ (k5 : Int) := by omega
      have e5 : (if k5 = m.next.fr then (some ⟨ab, ao, none⟩ : Option Addr) else some ⟨ab, ao + m.next.fr, none⟩) = some ⟨ab, ao + m.next.fr, none⟩ := if_neg (by omega)
      rw [← e5] at cP2
      clear e5
      clear hoff hA hO hs hM hR hat arA arP hin cP bqd hne hpl x18 x19 x20 x21 x4 o1
      go_region_held3 (fun w' => w'.cell? ⟨M.g, 4, none⟩ = some (.slice (some ⟨M.ob, 0, none⟩) c.P M.oc) ∧ w'.cell? ⟨M.ob, m.next.pass, none⟩ = some (.slice (some ⟨ab, ao, none⟩) c.n k5) ∧ w'.cell? ⟨wr.heap.size, 0, none⟩ = some (.int .i64 (m.next.pass : Int)) ∧ w'.cell? ⟨wr.heap.size, 1, none⟩ = some (.int .i64 (m.next.fr : Int)) ∧ w'.cell? ⟨wr.heap.size, 2, none⟩ = some (.int .i64 (m.next.to : Int)))
        (first | (exact ⟨y4, S0⟩) | (exact ⟨hA6.cel 4, SX.out _ hO6⟩))
        (first | (go_at_call 47; refine cP2.mono ?_; rintro e w5 ⟨rfl, rfl⟩) | (go_at_call 46; refine cT.mono ?_; rintro e w6 ⟨rfl, tv6, hA6, hO6, hT6⟩))
      all_goals (
        go_wp2_with fail
        go_roundg (gk - 1)
        case measure => have := Kp.out; omega
        case rel => exact Fin.out _ _ hA6 hO6 hT6)

end Go.Proofs.YtfolgmcoggejbaaGreat
