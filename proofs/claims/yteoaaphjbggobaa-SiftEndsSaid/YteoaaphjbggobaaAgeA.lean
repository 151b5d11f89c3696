/- The program's Agree. For valid pulses and clicks and a shift. -/
import Derived.Test.YteoaaphjbggobaaEndP
import Derived.Test.YteoaaphjbggobaaCarAll
import Derived.Test.YteoaaphjbggobaaApt
import Derived.Deep.DeepCutAuto
namespace Go.Proofs.Yteoaaphjbggobaa
open Go.RowKit
set_option linter.unusedVariables false
set_option linter.unusedSimpArgs false

/-- Two lists of numbers that grow side by side, each of the call's own. -/
structure Two (B : Nat) (W : World) (u v : Value) (l m : List Int) : Prop where
  o1 : Own W B 3 1 encI u l
  o2 : Own W B 3 1 encI v m
  ap : Ap u v
theorem Two.on {B : Nat} {W W' : World} {u v : Value} {l m : List Int} (h : Two B W u v l m) (hb : Below W.heap.size W W') : Two B W' u v l m := ⟨h.o1.below hb, h.o2.below hb, h.ap⟩
theorem Two.fst {B : Nat} {W W' : World} {u v u' : Value} {l m l' : List Int} (h : Two B W u v l m) (ho : Own W' B 3 1 encI u' l') (hg : W.grownBy W' u.ownBlock) (ha : At W u u') : Two B W' u' v l' m :=
  ⟨ho, own_new h.o2 h.ap.symm hg, (ap_new h.o2 h.ap.symm ha).symm⟩
theorem Two.snd {B : Nat} {W W' : World} {u v v' : Value} {l m m' : List Int} (h : Two B W u v l m) (ho : Own W' B 3 1 encI v' m') (hg : W.grownBy W' v.ownBlock) (ha : At W v v') : Two B W' u v' l m' :=
  ⟨own_new h.o1 h.ap hg, ho, ap_new h.o1 h.ap ha⟩
theorem Two.low1 {B : Nat} {W W' x : World} {u v : Value} {l m : List Int} (h : Two B W u v l m) (hg : W.grownBy W' u.ownBlock) (hb : Below B x W) (hs : B ≤ W.heap.size) : Below B x W' := hb.grown hg hs (fun k hk => (World.ownsRow.lt h.o1 k hk).1)
theorem Two.low2 {B : Nat} {W W' x : World} {u v : Value} {l m : List Int} (h : Two B W u v l m) (hg : W.grownBy W' v.ownBlock) (hb : Below B x W) (hs : B ≤ W.heap.size) : Below B x W' := hb.grown hg hs (fun k hk => (World.ownsRow.lt h.o2 k hk).1)

theorem own_rowkeep {α : Type} {w w' : World} {B e sz : Nat} {enc : α → List Value} {v : Value} {l : List α} (o : Go.Proofs.Yteoaaphjbggobaa.Own w B e sz enc v l) (hg : w.grownBy w' v.ownBlock) {k : Nat} {cs : Array Value} {T : TypeId} {fr : Nat × Nat} (hk : w.heap[k]? = some (.cells cs T fr)) (hT : T ≠ e) : w'.heap[k]? = some (.cells cs T fr) := by
  refine (hg.block k (Array.getElem?_eq_some_iff.1 hk).1 (fun e' => ?_)).trans hk
  rcases o.2 with ⟨rfl, _⟩ | ⟨g, cap, cur, rfl, _, hgb, _⟩
  · simp [Value.ownBlock] at e'
  · obtain rfl : k = g := by simpa [Value.ownBlock] using e'
    rw [hk] at hgb
    simp at hgb
    exact hT hgb.2.1
theorem agr_none {p : List Pls} {c : List Clk} {s : Int} {k : Nat} (h : (k : Int) + s < 0 ∨ (c.length : Int) ≤ (k : Int) + s) : agrAt p c s k = false := by
  unfold agrAt
  split
  · rfl
  · split
    · rw [List.getElem?_eq_none (by omega)]
    · rfl
theorem agr_val {p : List Pls} {c : List Clk} {s : Int} {k j : Nat} {x : Pls} {q : Clk} (hx : p[k]? = some x) (hq : c[j]? = some q) (e : (k : Int) + s = j) : agrAt p c s k = (x.seen && (x.basis == q.basis) && singleB q.kind) ∧ difB p c s k = (x.bit != decide (q.kind = 2)) := by
  constructor
  · unfold agrAt
    rw [hx]
    simp only
    rw [if_pos (by omega), e, Int.toNat_natCast, hq]
  · unfold difB rcvB kindAt bitAt
    rw [e]
    simp [hx, hq]

theorem int_info7 : (Try.prog.info? 3).map (fun i => (i.zero, i.size, i.bytes)) = some (some (.int .i64 0), 1, 8) := by kernel_rfl
set_option maxRecDepth 100000 in
set_option maxHeartbeats 16000000 in
theorem oAgree_any (A : Option Addr) (n : Nat) (p : List Pls) (C : Option Addr) (m : Nat) (c : List Clk) (s : Int) (w : World) (hA : Arr 5 Pls.enc w w.heap.size A p) (hC : Arr 2 Clk.enc w w.heap.size C c)
    (hp : allE Pls.ok p = 0) (hc : allE Clk.ok c = 0) (hs1 : -16 ≤ s) (hs2 : s ≤ 16) :
    Calls Try.prog 9 #[.slice A p.length n, .slice C c.length m, .int .i64 s] w fun e w' => ∃ v u, e = .returned (.tuple #[v, u, .int .i64 0]) ∧ Own w' w.heap.size 3 1 encI v (agrTo p c s p.length) ∧ Own w' w.heap.size 3 1 encI u (wrgTo p c s p.length) ∧ Below w.heap.size w w' := by
  obtain ⟨i0, hi, hz0, hz1, hz2⟩ := info_parts int_info7
  have Hi := Lib.hid hi; have Hz0 := Lib.hid hz0; have Hz1 := Lib.hid hz1; have Hz2 := Lib.hid hz2
  clear hi hz0 hz1 hz2
  obtain ⟨hpl, hpo⟩ := allE_zero.1 hp
  obtain ⟨hcl, hco⟩ := allE_zero.1 hc
  have Hco := Lib.hid hco
  have cV := ovalid_any A n p w hA (by omega)
  rw [hp] at cV
  clear hp hc hpo hco
  have d1 : decide (s < -16) = false := by simp; omega
  have d2 : decide (16 < s) = false := by simp; omega
  have d3 : decide (4096 < (p.length : Int)) = false := by simp; omega
  have d4 : decide (4096 < (c.length : Int)) = false := by simp; omega
  go_enter Try.func9, Try.ntmps9
  go_wp2_with fail
  refine cV.mono ?_
  rintro e w1 ⟨rfl, hb1⟩
  clear cV
  go_wp2_with fail
  go_loopw [39] (fun i wr => ∃ k : Nat, k ≤ c.length ∧ i = .int .i64 k ∧ Below w.heap.size w wr) (fun i _ => c.length - (intOf i).toNat)
  case atStart => exact ⟨0, Nat.zero_le _, rfl, hb1⟩
  case round =>
    clear hb1
    obtain ⟨k, hk, rfl, hb⟩ := hrel
    obtain ⟨wi, rfl⟩ : ∃ wi, wi = wr := ⟨_, rfl⟩
    rcases Nat.lt_or_ge k c.length with hlt | hge
    · obtain ⟨bp, op, qb, qk, rfl, hbb, hx, x0, x1⟩ := hC.clk hlt hb
      have hxo : Clk.ok ⟨qb, qk⟩ = true := List.all_eq_true.1 Hco.out _ (List.mem_of_getElem? hx.out)
      unfold Clk.ok at hxo
      simp only [betwB, Bool.and_eq_true, decide_eq_true_eq] at hxo
      obtain ⟨⟨a1, a2⟩, a3, a4⟩ := hxo
      have e1 : decide (qb < 0) = false := by simp; omega
      have e2 : decide (1 < qb) = false := by simp; omega
      have e3 : decide (qk < 0) = false := by simp; omega
      have e4 : decide (3 < qk) = false := by simp; omega
      have q7 := below_alloc hb (.cells #[.int .i64 qb, .int .i64 qk] 100)
      go_wp2_with fail
      exact ⟨⟨k + 1, by omega, by go_num, q7⟩, by simp [intOf]; omega⟩
    · obtain rfl : k = c.length := by omega
      clear hk hge
      go_wp2_with fail
      go_loopw [12, 13, 64] (fun u v i wr => ∃ k : Nat, k ≤ p.length ∧ i = .int .i64 k ∧ Two w.heap.size wr u v (agrTo p c s k) (wrgTo p c s k) ∧ Below w.heap.size w wr) (fun _ _ i _ => p.length - (intOf i).toNat)
      case atStart => exact ⟨0, Nat.zero_le _, rfl, ⟨Own.nil, Own.nil, .inl rfl⟩, hb⟩
      case round =>
        clear hb
        obtain ⟨k, hk, rfl, T, hb⟩ := hrel
        obtain ⟨wo, rfl⟩ : ∃ wo, wo = wr := ⟨_, rfl⟩
        have la := agrTo_le p c s k
        have lw := wrgTo_le p c s k
        have hbs : w.heap.size ≤ wo.heap.size := hb.size
        rcases Nat.lt_or_ge k p.length with hlt | hge
        · obtain ⟨bp, op, pb, pbit, pc, pph, ps, rfl, hbb, hx, c0, c1, c2, c3, c4⟩ := hA.pls hlt hb
          obtain ⟨n0, n1, n2, n3, n4⟩ := pls_new wo pb pbit pc pph ps 102
          by_cases hj0 : (k : Int) + s < 0
          · have hj0' : decide ((k : Int) + s < 0) = true := by simpa using hj0
            obtain ⟨m1, m2⟩ := agr_miss (agr_none (p := p) (c := c) (.inl hj0))
            have M1 := Lib.hid m1; have M2 := Lib.hid m2
            clear m1 m2
            go_wp2_with fail
            (refine wp_region_later (by kernel_rfl) (by kernel_rfl) ?_; (repeat (go_big_quiet_step (fail))); refine wpQuiet_nil ?_; rintro w2 ⟨⟨_, hb2⟩, rfl⟩)
            go_wp2_with fail
            exact ⟨⟨k + 1, by omega, by go_num, by rw [M1.out, M2.out]; exact (T.on (below_alloc (Below.refl _ _) _)).on hb2, below_trans (below_alloc hb _) hb2⟩, by simp [intOf]; omega⟩
          · by_cases hj1 : (c.length : Int) ≤ (k : Int) + s
            · have hj0' : decide ((k : Int) + s < 0) = false := by simpa using hj0
              have hj1' : decide ((c.length : Int) ≤ (k : Int) + s) = true := by simpa using hj1
              obtain ⟨m1, m2⟩ := agr_miss (agr_none (p := p) (c := c) (.inr hj1))
              have M1 := Lib.hid m1; have M2 := Lib.hid m2
              clear m1 m2
              go_wp2_with fail
              (refine wp_region_later (by kernel_rfl) (by kernel_rfl) ?_; (repeat (go_big_quiet_step (fail))); refine wpQuiet_nil ?_; rintro w2 ⟨⟨_, hb2⟩, rfl⟩)
              go_wp2_with fail
              exact ⟨⟨k + 1, by omega, by go_num, by rw [M1.out, M2.out]; exact (T.on (below_alloc (Below.refl _ _) _)).on hb2, below_trans (below_alloc hb _) hb2⟩, by simp [intOf]; omega⟩
            · obtain ⟨j, hj⟩ : ∃ j : Nat, (k : Int) + s = j := ⟨((k : Int) + s).toNat, by omega⟩
              have hjc : j < c.length := by omega
              obtain ⟨b2, off2, qb, qk, rfl, hbb2, hq, q0, q1⟩ := hC.clk hjc hb
              obtain ⟨hav, hdv⟩ := agr_val hx.out hq.out hj
              simp only at hav hdv
              have Hav := Lib.hid hav; have Hdv := Lib.hid hdv
              have Hj := Lib.hid hj
              clear hav hdv hj hj0 hj1
              have g0 : decide ((j : Int) < 0) = false := by simp
              have g1 : decide (c.length ≤ j) = false := by simp; omega
              have r0 := later_alloc q0 (.cells #[.int .i64 pb, .bool pbit, .int .i64 pc, .int .i64 pph, .bool ps] 102)
              have r1 := later_alloc q1 (.cells #[.int .i64 pb, .bool pbit, .int .i64 pc, .int .i64 pph, .bool ps] 102)
              have T2 := T.on (below_alloc (Below.refl _ _) (.cells #[.int .i64 pb, .bool pbit, .int .i64 pc, .int .i64 pph, .bool ps] 102))
              have hb3 := below_alloc hb (.cells #[.int .i64 pb, .bool pbit, .int .i64 pc, .int .i64 pph, .bool ps] 102)
              clear T hb
              cases ps
              · obtain ⟨m1, m2⟩ := agr_miss (p := p) (c := c) (s := s) (k := k) (by rw [Hav.out]; rfl)
                have M1 := Lib.hid m1; have M2 := Lib.hid m2
                clear m1 m2
                go_wp2_with fail
                rw [Hj.out]
                (refine wp_region_later (by kernel_rfl) (by kernel_rfl) ?_; (repeat (go_big_quiet_step (fail))); refine wpQuiet_nil ?_; rintro w2 ⟨⟨_, hb2⟩, rfl⟩)
                go_wp2_with fail
                exact ⟨⟨k + 1, by omega, by go_num, by rw [M1.out, M2.out]; exact T2.on hb2, below_trans hb3 hb2⟩, by simp [intOf]; omega⟩
              · by_cases hbs2 : qb = pb
                · subst hbs2
                  go_wp2_with fail
                  rw [Hj.out]
                  (refine wp_region_later (by kernel_rfl) (by kernel_rfl) ?_; (repeat (go_big_quiet_step (fail))); refine wpQuiet_nil ?_; rintro w2 ⟨⟨_, hb2⟩, rfl⟩)
                  have e1 : w2.cell? ⟨wo.heap.size, 1, none⟩ = some (.bool pbit) := n1 ⟨w2, hb2⟩
                  have e2 : w2.cell? ⟨b2, off2 + j * 2 + 1, none⟩ = some (.int .i64 qk) := r1 ⟨w2, hb2⟩
                  have hrow : w2.heap[wo.heap.size]? = some (.cells #[.int .i64 qb, .bool pbit, .int .i64 pc, .int .i64 pph, .bool true] 102 (0, 0)) := (hb2.block _ (by simp)).trans (World.alloc_heap_new _ _)
                  have T3 := T2.on hb2
                  have hb4 := below_trans hb3 hb2
                  have hs2' : w.heap.size ≤ w2.heap.size := hb4.size
                  have by1 : ((agrTo p c s k).length + 1) * 8 ≤ 140737488355328 := by omega
                  have by2 : ((wrgTo p c s k).length + 1) * 8 ≤ 140737488355328 := by omega
                  have i1 : (j : Int) < (c.length : Int) := by omega
                  clear T2 hb3 hb2 n0 n1 n2 n3 n4 r0 r1 q0 q1 c0 c1 c2 c3 c4
                  by_cases hq1 : qk = 1
                  · subst hq1
                    have hit : agrAt p c s k = true := by rw [Hav.out]; simp [singleB]
                    have Ah := Lib.hid (agr_hit hit)
                    have wm := Lib.hid (fun h => wrg_miss (p := p) (c := c) (s := s) (k := k) hit h)
                    have wh := Lib.hid (fun h => wrg_hit (p := p) (c := c) (s := s) (k := k) hit h)
                    clear hit
                    go_upto_region 23 with (at_builtin; refine wpList_snocS (g := w2.heap.size) rfl _ _ 43 rfl w.heap.size 3 i0 _ 1 8 Try.underlying43 Hi.out Hz0.out Hz1.out Hz2.out rfl (by decide) _ (agrTo p c s k) (k : Int) #[.int .i64 k] 3 rfl T3.o1 rfl rfl rfl (encI_one _) by1 (by decide) hs2' rfl ?_; intro u5 w5 o5 g5 a5)
                    have T5 := T3.fst o5 g5 a5
                    have hb5 := T3.low1 g5 hb4 hs2'
                    have row5 := own_rowkeep T3.o1 g5 hrow (by decide)
                    have y1 : w5.cell? ⟨wo.heap.size, 1, none⟩ = some (.bool pbit) := cell_of_row _ _ _ _ _ _ row5
                    have hs5 : w.heap.size ≤ w5.heap.size := hb5.size
                    rw [← Ah.out] at T5
                    clear T3 o5 g5 a5 e1 e2 hb4 hrow row5
                    cases pbit
                    · have hw := Lib.hid (wm.out (by rw [Hdv.out]; rfl))
                      go_wp2_with fail
                      exact ⟨⟨k + 1, by omega, by go_num, by rw [hw.out]; exact T5, hb5⟩, by simp [intOf]; omega⟩
                    · have hw := Lib.hid (wh.out (by rw [Hdv.out]; rfl))
                      go_wp2_with (at_builtin; refine wpList_snocS (g := w5.heap.size) rfl _ _ 43 rfl w.heap.size 3 i0 _ 1 8 Try.underlying43 Hi.out Hz0.out Hz1.out Hz2.out rfl (by decide) _ (wrgTo p c s k) (k : Int) #[.int .i64 k] 3 rfl T5.o2 rfl rfl rfl (encI_one _) by2 (by decide) hs5 rfl ?_; intro u6 w6 o6 g6 a6)
                      have T6 := T5.snd o6 g6 a6
                      have hb6 := T5.low2 g6 hb5 hs5
                      exact ⟨⟨k + 1, by omega, by go_num, by rw [hw.out]; exact T6, hb6⟩, by simp [intOf]; omega⟩
                  · by_cases hq2 : qk = 2
                    · subst hq2
                      clear hq1
                      have hit : agrAt p c s k = true := by rw [Hav.out]; simp [singleB]
                      have Ah := Lib.hid (agr_hit hit)
                      have wm := Lib.hid (fun h => wrg_miss (p := p) (c := c) (s := s) (k := k) hit h)
                      have wh := Lib.hid (fun h => wrg_hit (p := p) (c := c) (s := s) (k := k) hit h)
                      clear hit
                      go_upto_region 23 with (at_builtin; refine wpList_snocS (g := w2.heap.size) rfl _ _ 43 rfl w.heap.size 3 i0 _ 1 8 Try.underlying43 Hi.out Hz0.out Hz1.out Hz2.out rfl (by decide) _ (agrTo p c s k) (k : Int) #[.int .i64 k] 3 rfl T3.o1 rfl rfl rfl (encI_one _) by1 (by decide) hs2' rfl ?_; intro u5 w5 o5 g5 a5)
                      have T5 := T3.fst o5 g5 a5
                      have hb5 := T3.low1 g5 hb4 hs2'
                      have row5 := own_rowkeep T3.o1 g5 hrow (by decide)
                      have y1 : w5.cell? ⟨wo.heap.size, 1, none⟩ = some (.bool pbit) := cell_of_row _ _ _ _ _ _ row5
                      have hs5 : w.heap.size ≤ w5.heap.size := hb5.size
                      rw [← Ah.out] at T5
                      clear T3 o5 g5 a5 e1 e2 hb4 hrow row5
                      cases pbit
                      · have hw := Lib.hid (wh.out (by rw [Hdv.out]; rfl))
                        go_wp2_with (at_builtin; refine wpList_snocS (g := w5.heap.size) rfl _ _ 43 rfl w.heap.size 3 i0 _ 1 8 Try.underlying43 Hi.out Hz0.out Hz1.out Hz2.out rfl (by decide) _ (wrgTo p c s k) (k : Int) #[.int .i64 k] 3 rfl T5.o2 rfl rfl rfl (encI_one _) by2 (by decide) hs5 rfl ?_; intro u6 w6 o6 g6 a6)
                        have T6 := T5.snd o6 g6 a6
                        have hb6 := T5.low2 g6 hb5 hs5
                        exact ⟨⟨k + 1, by omega, by go_num, by rw [hw.out]; exact T6, hb6⟩, by simp [intOf]; omega⟩
                      · have hw := Lib.hid (wm.out (by rw [Hdv.out]; rfl))
                        go_wp2_with fail
                        exact ⟨⟨k + 1, by omega, by go_num, by rw [hw.out]; exact T5, hb5⟩, by simp [intOf]; omega⟩
                    · obtain ⟨m1, m2⟩ := agr_miss (p := p) (c := c) (s := s) (k := k) (by rw [Hav.out]; simp [singleB, hq1, hq2])
                      have M1 := Lib.hid m1; have M2 := Lib.hid m2
                      have e8 : (qk == 1) = false := by simpa using hq1
                      have e9 : (qk == 2) = false := by simpa using hq2
                      clear m1 m2 hq1 hq2
                      go_wp2_with fail
                      exact ⟨⟨k + 1, by omega, by go_num, by rw [M1.out, M2.out]; exact T3, hb4⟩, by simp [intOf]; omega⟩
                · have e9 : (qb != pb) = true := by simpa using hbs2
                  obtain ⟨m1, m2⟩ := agr_miss (p := p) (c := c) (s := s) (k := k) (by rw [Hav.out]; simp; intro h; exact absurd h.symm hbs2)
                  have M1 := Lib.hid m1; have M2 := Lib.hid m2
                  clear m1 m2 hbs2
                  go_wp2_with fail
                  rw [Hj.out]
                  (refine wp_region_later (by kernel_rfl) (by kernel_rfl) ?_; (repeat (go_big_quiet_step (fail))); refine wpQuiet_nil ?_; rintro w2 ⟨⟨_, hb2⟩, rfl⟩)
                  go_wp2_with fail
                  exact ⟨⟨k + 1, by omega, by go_num, by rw [M1.out, M2.out]; exact T2.on hb2, below_trans hb3 hb2⟩, by simp [intOf]; omega⟩
        · obtain rfl : k = p.length := by omega
          go_wp2_with fail
          go_ret3
          exact ⟨_, _, rfl, T.o1, T.o2, hb⟩

end Go.Proofs.Yteoaaphjbggobaa
