/- Contracts of isOdd and knows of a course. For a course that is valid. -/
import Derived.Test.YtfolgmcoggejbaaGreatCasB
import Derived.Test.YtfolgmcoggejbaaGreatGfcAll
import Derived.Test.YtfolgmcoggejbaaGreatNumAll
import Derived.Test.YtfolgmcoggejbaaGreatStrA
namespace Go.Proofs.YtfolgmcoggejbaaGreat
open Go.RowKit Go.Maps
set_option linter.unusedVariables false
set_option linter.unusedSimpArgs false

theorem Arr.part {α : Type} {sz : Nat} {enc : α → List Value} {w : World} {B b off : Nat} {l : List α} (h : Arr sz enc w B (some ⟨b, off, none⟩) l) (i j : Nat) : Arr sz enc w B (some ⟨b, off + i * sz, none⟩) ((l.drop i).take j) := by
  have h1 := Arr.drop h i
  exact Arr.take h1 j
theorem Cas.part_len {c : Cas} {q : Qst} (h : c.val q) : (c.part q).length = q.to - q.fr := by
  unfold Cas.part
  rw [List.length_take, List.length_drop, c.ord_len]
  have := h.2.1; have := h.2.2; omega
theorem Cas.part_mem {c : Cas} {q : Qst} {x : Int} (h : x ∈ c.part q) : ∃ i : Nat, x = (i : Int) ∧ i < c.n := Cas.ord_mem (List.mem_of_mem_drop (List.mem_of_mem_take h))
theorem Cas.val_low {c : Cas} (hc : c.Ok) {q : Qst} (h : c.val q) : q.low := by
  have := hc.P; have := hc.n; have := h.1; have := h.2.1; have := h.2.2
  exact ⟨by omega, by omega, by omega⟩

set_option maxRecDepth 100000 in
set_option maxHeartbeats 4000000 in
theorem isOdd_any (c : Cas) (m : Mac) (M : Mem) (q : Qst) (a : Bool) (w : World) (h : MacAt w c m M) (hc : c.Ok) (hlen : m.b.length = c.n) (hq : c.val q) :
    Calls Tryz.prog 208 #[.pointer (some ⟨M.g, 0, none⟩), .agg #[.int .i64 (q.pass : Int), .int .i64 (q.fr : Int), .int .i64 (q.to : Int)], .bool a] w fun e w' => e = .returned (.bool (c.isOdd m.b q a)) ∧ Below w.heap.size w w' := by
  obtain ⟨B, cb, hbv, lb, mbv, nbv, arB⟩ := h.b.form encB_len
  obtain ⟨A, k, o1, o2, o3, o4⟩ := h.rows.ord q.pass hq.1
  have hne : c.ord q.pass ≠ [] := fun e => by
    have h1 := c.ord_len q.pass
    rw [e] at h1
    have h2 := hq.2.1; have h3 := hq.2.2
    simp at h1; omega
  have arA := o4.arr h.rows.hi
  obtain ⟨ab, ao, rfl, _, _, _⟩ := o4 hne
  have arP := arA.part q.fr (q.to - q.fr)
  have hpl := c.part_len hq
  have hbl : m.b.length ≤ 100000 := by have := hc.n; omega
  have hin : ∀ x ∈ c.part q, ∃ i : Nat, x = (i : Int) ∧ i < m.b.length := fun x hx => by rw [hlen]; exact Cas.part_mem hx
  have hv1 := hq.1; have hv2 := hq.2.1; have hv3 := hq.2.2
  have hn := hc.n
  have hP := h.rows.oc.1
  have hpl2 : (c.part q).length ≤ 100000 := by omega
  have x6 := h.cel 6
  rw [show (M.cs c m)[6]? = some (.slice B m.b.length cb) from congrArg some hbv] at x6
  have x4 : w.cell? ⟨M.g, 4, none⟩ = some (.slice (some ⟨M.ob, 0, none⟩) c.P M.oc) := h.cel 4
  have y6 := later_alloc x6 (.cells #[.int .i64 (q.pass : Int), .int .i64 (q.fr : Int), .int .i64 (q.to : Int)] 132)
  have y4 := later_alloc x4 (.cells #[.int .i64 (q.pass : Int), .int .i64 (q.fr : Int), .int .i64 (q.to : Int)] 132)
  have yo := later_alloc o1 (.cells #[.int .i64 (q.pass : Int), .int .i64 (q.fr : Int), .int .i64 (q.to : Int)] 132)
  have z0 : ∀ x : Later (w.alloc (.cells #[.int .i64 (q.pass : Int), .int .i64 (q.fr : Int), .int .i64 (q.to : Int)] 132)), x.w.cell? ⟨w.heap.size, 0, none⟩ = some (.int .i64 (q.pass : Int)) := later_new rfl
  have z1 : ∀ x : Later (w.alloc (.cells #[.int .i64 (q.pass : Int), .int .i64 (q.fr : Int), .int .i64 (q.to : Int)] 132)), x.w.cell? ⟨w.heap.size, 1, none⟩ = some (.int .i64 (q.fr : Int)) := later_new rfl
  have z2 : ∀ x : Later (w.alloc (.cells #[.int .i64 (q.pass : Int), .int .i64 (q.fr : Int), .int .i64 (q.to : Int)] 132)), x.w.cell? ⟨w.heap.size, 2, none⟩ = some (.int .i64 (q.to : Int)) := later_new rfl
  have bq := below_alloc (Below.refl w.heap.size w) (.cells #[.int .i64 (q.pass : Int), .int .i64 (q.fr : Int), .int .i64 (q.to : Int)] 132)
  have cP : ∀ (x : Later (w.alloc (.cells #[.int .i64 (q.pass : Int), .int .i64 (q.fr : Int), .int .i64 (q.to : Int)] 132))), Calls Tryz.prog 47 #[.slice B m.b.length cb, .slice (some ⟨ab, ao + q.fr, none⟩) (q.to - q.fr) (k - q.fr)] x.w fun e w' => e = .returned (.bool (par m.b (c.part q))) ∧ x.w = w' := fun x => by
    have hb := below_trans bq x.2
    have h2 := parity_any B cb m.b (some ⟨ab, ao + q.fr * 1, none⟩) (k - q.fr) (c.part q) x.w (arB.on hb) (arP.on hb) hbl hpl2 hin
    rw [hpl, Nat.mul_one] at h2
    exact h2
  have hres : Hid (c.isOdd m.b q a = (par m.b (c.part q) != a)) := Lib.hid rfl
  clear hin arP arA arB hpl hpl2 hbl hne x6 x4 o1 h hc hq o4 hlen hbv
  generalize par m.b (c.part q) = R at *
  go_enter Tryz.func208, Tryz.ntmps208
  go_upto_region 1 with fail
  (refine wp_region_later (by kernel_rfl) (by kernel_rfl) ?_; (repeat (go_big_quiet_step (((go_at_call 47; exact calls_later_same (cP _)))))); refine wpQuiet_nil ?_; rintro w2 ⟨⟨_, hb2⟩, rfl⟩)
  go_wp2_with fail
  go_ret
  exact ⟨ret_bool (by rw [hres.out]; cases R <;> cases a <;> rfl), below_trans bq hb2⟩

theorem MacAt.setRow {w : World} {c : Cas} {m m' : Mac} {M : Mem} (h : MacAt w c m M) (hb : m'.b = m.b) (ht : m'.told = m.told) : MacAt (w.setRow M.g (M.cs c m')) c m' M ∧ OutS (fun k => k = M.g) w (w.setRow M.g (M.cs c m')) := by
  have ho : OutS (fun k => k = M.g) w (w.setRow M.g (M.cs c m')) := OutS.grown (grown_setRow w M.g (M.cs c m')) (fun g hg => by cases hg; exact .inl rfl)
  obtain ⟨D, hD⟩ := h.kn
  obtain ⟨es, clock, hbk, r⟩ := hD.own
  refine ⟨⟨setRow_heap w M.g _ (M.cs c m') _ (0, 0) h.row, h.rows.keep ho (fun k hk => by subst hk; exact h.og), ?_, ?_, ?_, h.og, h.om, h.obv, h.otv⟩, ho⟩
  · rw [hb]; exact ho.own h.b (fun k hk => (h.nb hk).1)
  · rw [ht]; exact ho.own h.tv (fun k hk => (h.nt hk).1)
  · rw [ht]; exact ⟨D, ⟨es, clock, ho.row hbk h.nm, r⟩, hD.has, hD.miss, hD.at_, hD.low, hD.nod⟩
theorem Cas.lookT_low {c : Cas} (hc : c.Ok) {q : Qst} (h : c.val q) {w : World} {mb : Nat} {told : List (Qst × Bool)} (hk : Knw w mb told) :
    (Instr.lookup 130 (.map (some mb)) (qv q) true).run Tryz.prog w = .ok (.tuple #[.bool ((lookT told q).getD false), .bool (lookT told q).isSome]) w := (hk.look (c.val_low hc h)).2
theorem Knw.on {w w' : World} {mb : Nat} {told : List (Qst × Bool)} (h : Knw w mb told) (hb : Below w.heap.size w w') : Knw w' mb told := h.kept (grown_of_below hb) (by simp)
set_option maxRecDepth 100000 in
set_option maxHeartbeats 4000000 in
theorem knows_any (c : Cas) (m : Mac) (M : Mem) (q : Qst) (w : World) (h : MacAt w c m M) (hq : q.low) :
    Calls Tryz.prog 206 #[.pointer (some ⟨M.g, 0, none⟩), .agg #[.int .i64 (q.pass : Int), .int .i64 (q.fr : Int), .int .i64 (q.to : Int)]] w fun e w' =>
      ((lookT m.told q).isSome = true ∧ e = .returned (.bool true) ∧ Below w.heap.size w w') ∨ ((lookT m.told q).isSome = false ∧ e = .returned (.bool false) ∧ MacAt w' c { m with next := q, opn := true } M ∧ OutS (fun k => k = M.g) w w') := by
  have bq := below_alloc (Below.refl w.heap.size w) (.cells #[.int .i64 (q.pass : Int), .int .i64 (q.fr : Int), .int .i64 (q.to : Int)] 132)
  have h1 := h.on bq
  have x7 : (w.alloc (.cells #[.int .i64 (q.pass : Int), .int .i64 (q.fr : Int), .int .i64 (q.to : Int)] 132)).cell? ⟨M.g, 7, none⟩ = some (.map (some M.mb)) := h1.cel 7
  have z0 : (w.alloc (.cells #[.int .i64 (q.pass : Int), .int .i64 (q.fr : Int), .int .i64 (q.to : Int)] 132)).cell? ⟨w.heap.size, 0, none⟩ = some (.int .i64 (q.pass : Int)) := new_cell rfl
  have z1 : (w.alloc (.cells #[.int .i64 (q.pass : Int), .int .i64 (q.fr : Int), .int .i64 (q.to : Int)] 132)).cell? ⟨w.heap.size, 1, none⟩ = some (.int .i64 (q.fr : Int)) := new_cell rfl
  have z2 : (w.alloc (.cells #[.int .i64 (q.pass : Int), .int .i64 (q.fr : Int), .int .i64 (q.to : Int)] 132)).cell? ⟨w.heap.size, 2, none⟩ = some (.int .i64 (q.to : Int)) := new_cell rfl
  have hL := (h1.kn.look hq).2
  have hLd := ((h1.kn.on (Below.refl _ _).drew).look hq).2
  have Fin : Hid (∀ b, (lookT m.told q).isSome = b → b = false → (lookT m.told q).isSome = false) := Lib.hid (fun b h1 h2 => h1.trans h2)
  obtain ⟨v0, hv0⟩ : ∃ v0, (lookT m.told q).getD false = v0 := ⟨_, rfl⟩
  unfold qv at hL hLd
  go_enter Tryz.func206, Tryz.ntmps206
  go_upto_region 1 with fail
  obtain ⟨w1, hw1⟩ : ∃ w1, w.alloc (.cells #[.int .i64 (q.pass : Int), .int .i64 (q.fr : Int), .int .i64 (q.to : Int)] 132) = w1 := ⟨_, rfl⟩
  rw [hw1] at bq h1 x7 z0 z1 z2 hL hLd ⊢
  clear hw1
  rw [hv0] at hL hLd
  have hqs : (Tryz.prog.info? 132).map (·.size) = some 3 := by kernel_rfl
  cases hk : (lookT m.told q).isSome
  · rw [hk] at hL hLd
    go_region
    have h2 := h1.on (Below.refl _ _).drew
    obtain ⟨h3, o3⟩ := h2.setRow (m' := { m with next := q }) rfl rfl
    have h4 := h3.set 21 (.bool true) (m' := { m with next := q, opn := true }) rfl rfl rfl
    have f3 := h3.fr 21
    have c3 : ((w1.drew).setRow M.g (M.cs c { m with next := q })).cell? ⟨M.g, 21, none⟩ = some (.bool m.opn) := h3.cel 21
    have o4 : OutS (fun k => k = M.g) w (((w1.drew).setRow M.g (M.cs c { m with next := q })).setCell ⟨M.g, 21, none⟩ (.bool true)) := ((OutS.of (bq.drew)).trans o3).trans (OutS.set rfl)
    have r2 := h2.row
    clear h h1 h3 o3 x7 hL hLd
    go_wp2_with (refine wpList_store_in rfl 132 _ _ rfl M.g 18 #[.int .i64 (q.pass : Int), .int .i64 (q.fr : Int), .int .i64 (q.to : Int)] (by kernel_rfl) (by kernel_rfl) 134 _ (M.cs c { m with next := q }) r2 hqs (Nat.le_of_ble_eq_true (by kernel_rfl)) (by kernel_rfl) (by kernel_rfl) ?_)
    go_ret
    exact .inr ⟨hk, rfl, h4, o4⟩
  · rw [hk] at hL hLd
    go_region
    go_wp2_with fail
    go_ret
    exact .inl ⟨hk, rfl, bq.drew⟩

end Go.Proofs.YtfolgmcoggejbaaGreat
