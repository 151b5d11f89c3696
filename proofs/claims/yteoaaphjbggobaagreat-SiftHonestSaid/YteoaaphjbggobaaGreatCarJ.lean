/- The program's Carry. For a valid channel and valid pulses. -/
import Derived.Test.YteoaaphjbggobaaGreatCarAll
import Derived.Test.YteoaaphjbggobaaGreatRulB
namespace Go.Proofs.YteoaaphjbggobaaGreat
open Go.RowKit
set_option linter.unusedVariables false
set_option linter.unusedSimpArgs false

theorem own_blk {α : Type} {w : World} {B e sz g n cap : Nat} {enc : α → List Value} {l : List α} (h : Go.Proofs.YteoaaphjbggobaaGreat.Own w B e sz enc (.slice (some ⟨g, 0, none⟩) n cap) l) : g < w.heap.size := by
  rcases h.2 with ⟨h0, _⟩ | ⟨g', cap', cur, h0, _, hg, _⟩
  · cases h0
  · injection h0 with e1 e2 e3
    injection e1 with e1
    injection e1 with e1
    rw [e1]
    exact (Array.getElem?_eq_some_iff.1 hg).1
theorem carX_at {l : List Rul} {p : List Pls} {s k : Nat} {x : Pls} (h : p[k]? = some x) : ∀ {n : Nat}, k < n → n ≤ p.length → (carX l p s n).1[k]? = some (outX (rulX l k (plsX x, (carX l p s k).2.1, (carX l p s k).2.2) l.length).1)
  | 0, h1, _ => by omega
  | n + 1, h1, h2 => by
    obtain ⟨y, hy⟩ : ∃ y, p[n]? = some y := ⟨_, List.getElem?_eq_getElem (by omega)⟩
    rw [carX_snoc hy]
    have hn := carX_len l p s n (by omega)
    by_cases e : k = n
    · subst e
      rw [h] at hy
      cases hy
      simp only
      rw [List.getElem?_append_right (by omega), hn, Nat.sub_self]
      rfl
    · simp only
      rw [List.getElem?_append_left (by omega)]
      exact carX_at h (by omega) (by omega)
theorem rule_kind {r : Rul} (h : ruleB r = true) : r.k = 1 ∨ r.k = 2 ∨ r.k = 3 ∨ r.k = 4 ∨ r.k = 5 ∨ r.k = 6 ∨ r.k = 7 := by
  unfold ruleB at h
  by_cases h1 : r.k = 1 ∨ r.k = 2
  · omega
  rw [if_neg h1] at h
  by_cases h3 : r.k = 3
  · omega
  rw [if_neg h3] at h
  by_cases h4 : r.k = 4 ∨ r.k = 6
  · omega
  rw [if_neg h4] at h
  by_cases h5 : r.k = 5
  · omega
  rw [if_neg h5] at h
  by_cases h7 : r.k = 7
  · omega
  rw [if_neg h7] at h
  cases h
theorem fill_same {α : Type} {L : List α} {d : α} {k : Nat} (h : L[k]? = some d) : fill L d k = fill L d (k + 1) := by
  have hk := (List.getElem?_eq_some_iff.1 h).1
  obtain ⟨h2, e⟩ := List.getElem?_eq_some_iff.1 (fill_at d hk)
  rw [← fill_set d h]
  have h3 : (fill L d k).set k (fill L d k)[k] = fill L d k := List.set_getElem_self h2
  rw [e] at h3
  exact h3.symm
theorem lgt_info9 : (Tryz.prog.info? 196).map (fun i => (i.zero, i.size, i.bytes)) = some (some (.agg #[.int .i64 0, .int .i64 0, .bool false, .bool false]), 4, 24) := by kernel_rfl
set_option maxRecDepth 100000 in
set_option maxHeartbeats 16000000 in
theorem Carry_any (A : Option Addr) (cA : Nat) (l : List Rul) (C : Option Addr) (cC : Nat) (p : List Pls) (s : Nat) (w : World) (hA : Arr 5 Rul.enc w w.heap.size A l) (hC : Arr 5 Pls.enc w w.heap.size C p) (hr : rulesE l = 0) (hr2 : l.all ruleB = true) (hr3 : l.length ≤ 32) (hp : allE Pls.ok p = 0) :
    Calls Tryz.prog 54 #[.slice A l.length cA, .slice C p.length cC, .int .u64 s] w fun e w' => ∃ v u, e = .returned (.tuple #[v, u, .int .i64 0]) ∧ Own w' w.heap.size 196 4 Lgt.enc v (carX l p s p.length).1 ∧ Own w' w.heap.size 239 4 Nte.enc u (carX l p s p.length).2.2 ∧ Below w.heap.size w w' := by
  obtain ⟨i0, hi, hz0, hz1, hz2⟩ := info_parts lgt_info9
  have Hi := Lib.hid hi; have Hz0 := Lib.hid hz0; have Hz1 := Lib.hid hz1; have Hz2 := Lib.hid hz2
  clear hi hz0 hz1 hz2
  obtain ⟨hpl, hpo⟩ := allE_zero.1 hp
  have cR := oRules_any A cA l w hA (by omega)
  rw [hr] at cR
  have Hpo := Lib.hid hpo; have Hr2 := Lib.hid hr2
  clear hr hpo hr2
  have hlen0 : Hid (∀ k, k ≤ p.length → (carX l p s k).1.length = k) := Lib.hid (fun k hk => carX_len l p s k hk)
  go_enter Tryz.func54, Tryz.ntmps54
  go_wp2_with fail
  refine cR.mono ?_
  rintro e w1 ⟨rfl, hb1⟩
  go_wp2_with fail
  have cV := ovalid_any C cC p w1 (hC.on hb1) (by omega)
  rw [hp] at cV
  refine cV.mono ?_
  rintro e w2 ⟨rfl, hb2⟩
  have q2 := below_trans hb1 hb2
  clear cR cV hb1 hb2 hp
  go_wp2_with fail
  refine (New_any s w2).mono ?_
  rintro e w3 ⟨rfl, hw3⟩
  have D3 : DrwAt w3 w2.heap.size s := by rw [hw3]; exact DrwAt.new w2 s
  have q3 : Below w.heap.size w w3 := by rw [hw3]; exact below_alloc q2 _
  clear hw3
  go_wp2_with fail
  refine (acts_any _).mono ?_
  rintro e w5 ⟨c1, c2, c3, c6, rfl, hac, hb5⟩
  have D5 := (D3.keep (row := none) (World.grownBy_alloc w3 (.cells #[.slice none 0 0] 190) none) (by simp)).on hb5
  have E5 : Boxed w5 w3.heap.size 190 (.slice none 0 0) := (Boxed.new w3 190 (.slice none 0 0)).kept (grown_of_below hb5) (by simp)
  have q5 := below_trans (below_alloc q3 (.cells #[.slice none 0 0] 190)) hb5
  have hbb : w.heap.size ≤ w2.heap.size := q2.size
  have hEE : w.heap.size ≤ w3.heap.size := q3.size
  generalize w2.heap.size = b at *
  generalize w3.heap.size = E at *
  clear hb5 q3 q2 D3
  unfold actsV actF
  go_upto_region 8 with fail
  obtain ⟨w6, hw6⟩ : ∃ w6, w5.alloc (.cells #[.nilFunc, .func (.func 140) #[] #[.pointer (some ⟨c1, 0, none⟩)], .func (.func 140) #[] #[.pointer (some ⟨c2, 0, none⟩)], .func (.func 140) #[] #[.pointer (some ⟨c3, 0, none⟩)], .func (.func 147) #[] #[], .func (.func 146) #[] #[], .func (.func 140) #[] #[.pointer (some ⟨c6, 0, none⟩)], .func (.func 148) #[] #[]] 193) = w6 := ⟨_, rfl⟩
  have hdd : w6.heap[w5.heap.size]? = some (.cells (actsC c1 c2 c3 c6) 193 (0, 0)) := by rw [← hw6]; exact World.alloc_heap_new _ _
  have D6 : DrwAt w6 b s := by rw [← hw6]; exact D5.keep (row := none) (World.grownBy_alloc _ _ none) (by simp)
  have E6 : Boxed w6 E 190 (.slice none 0 0) := by rw [← hw6]; exact E5.alloc _
  have A6 : ActBs w6 c1 c2 c3 c6 := by rw [← hw6]; exact ⟨hac.b1.alloc _, hac.b2.alloc _, hac.b3.alloc _, hac.b6.alloc _⟩
  have q6 : Below w.heap.size w w6 := by rw [← hw6]; exact below_alloc q5 _
  rw [hw6]
  clear hw6 D5 E5 hac q5
  generalize w5.heap.size = D at *
  go_upto_region 9 with (at_make; refine wpList_mkK rfl _ _ 129 rfl 196 i0 _ 4 24 Tryz.underlying129 Hi.out Hz0.out Hz1.out Hz2.out (by decide) Lgt.enc_len lgt0 rfl _ _ _ _ p.length rfl rfl rfl rfl (by omega) (by unfold maxLen; omega) ?_; intro w7 own7 hb7)
  have q7 := below_trans q6 hb7
  have O7 : CarO w.heap.size w7 b E D w6.heap.size p.length c1 c2 c3 c6 s [] (List.replicate p.length lgt0) := by
    refine ⟨D6.on hb7, ⟨_, E6.kept (grown_of_below hb7) (by simp), Own.nil⟩, ?_, ⟨A6.b1.kept (grown_of_below hb7) (by simp), A6.b2.kept (grown_of_below hb7) (by simp), A6.b3.kept (grown_of_below hb7) (by simp), A6.b6.kept (grown_of_below hb7) (by simp)⟩, Go.Proofs.YteoaaphjbggobaaGreat.Own.down own7 q6.size, ⟨hbb, hEE, q7.size⟩⟩
    exact (hb7.block _ (Array.getElem?_eq_some_iff.1 hdd).1).trans hdd
  have hgl : w6.heap.size < w7.heap.size := own_blk own7
  generalize w6.heap.size = g at *
  clear D6 E6 A6 q6 hb7 own7 hdd hbb hEE
  have st0 : Hid (fill (carX l p s p.length).1 lgt0 0 = List.replicate p.length lgt0) := Lib.hid (by rw [fill_zero, hlen0.out _ (Nat.le_refl _)])
  go_wp2_with fail
  go_loopw [40] (fun i wr => ∃ k : Nat, k ≤ p.length ∧ i = .int .i64 k ∧ CarO w.heap.size wr b E D g p.length c1 c2 c3 c6 (carX l p s k).2.1 (carX l p s k).2.2 (fill (carX l p s p.length).1 lgt0 k) ∧ Below w.heap.size w wr ∧ g < wr.heap.size) (fun i _ => p.length - (intOf i).toNat)
  case atStart => exact ⟨0, Nat.zero_le _, rfl, by rw [st0.out]; exact O7, q7, hgl⟩
  case round =>
    clear O7 q7 hgl
    obtain ⟨k, hk, rfl, O, hb, hgw⟩ := hrel
    obtain ⟨wo, rfl⟩ : ∃ wo, wo = wr := ⟨_, rfl⟩
    rcases Nat.lt_or_ge k p.length with hlt | hge
    · have hb2 := hb
      obtain ⟨bp, op, pb, pbit, pc, pph, ps, rfl, hbb, hx, x0, x1, x2, x3, x4⟩ := hC.pls hlt hb
      have hok : Pls.ok ⟨pb, pbit, pc, pph, ps⟩ = true := List.all_eq_true.1 Hpo.out _ (List.mem_of_getElem? hx.out)
      obtain ⟨q, rfl⟩ : ∃ q : Nat, pph = (q : Int) := ⟨pph.toNat, by simp [Pls.ok, betwB] at hok; omega⟩
      have hcs := Lib.hid (carX_snoc (l := l) (s := s) hx.out)
      have hat := Lib.hid (carX_at (l := l) (s := s) hx.out hlt (Nat.le_refl _))
      have hz0 : plsX ⟨pb, pbit, pc, (q : Int), ps⟩ = ⟨q, pb, pbit, false⟩ := by simp [plsX]
      have hok2 := Lib.hid (plsX_ok hok)
      rw [hz0] at hcs hat hok2
      have hnt := carX_notes l hr3 p s k
      obtain ⟨Z, hZ⟩ : ∃ Z, (carX l p s k).2 = Z := ⟨_, rfl⟩
      rw [hZ] at O hnt hcs hat
      have HZ := Lib.hid hZ
      obtain ⟨s1, ns1⟩ := Z
      simp only at O hnt hcs hat
      have O2 := (O.alloc (.cells #[.int .i64 pb, .bool pbit, .int .i64 pc, .int .i64 q, .bool ps] 148)).alloc (.cells #[.int .i64 q, .int .i64 pb, .bool pbit, .bool false] 196)
      have hb3 := below_alloc (below_alloc hb (.cells #[.int .i64 pb, .bool pbit, .int .i64 pc, .int .i64 q, .bool ps] 148)) (.cells #[.int .i64 q, .int .i64 pb, .bool pbit, .bool false] 196)
      have hXr := World.alloc_heap_new (wo.alloc (.cells #[.int .i64 pb, .bool pbit, .int .i64 pc, .int .i64 q, .bool ps] 148)) (.cells #[.int .i64 q, .int .i64 pb, .bool pbit, .bool false] 196)
      have hXs : (wo.alloc (.cells #[.int .i64 pb, .bool pbit, .int .i64 pc, .int .i64 q, .bool ps] 148)).heap.size = wo.heap.size + 1 := by simp
      have hbs : w.heap.size ≤ wo.heap.size := hb.size
      clear hok hz0 hZ O hb hb2
      go_upto_region 13 with fail
      rw [hXs] at hXr
      obtain ⟨X, hX⟩ : ∃ X, wo.heap.size + 1 = X := ⟨_, rfl⟩
      rw [hX] at hXr ⊢
      obtain ⟨W1, hW1⟩ : ∃ W1, (wo.alloc (.cells #[.int .i64 pb, .bool pbit, .int .i64 pc, .int .i64 q, .bool ps] 148)).alloc (.cells #[.int .i64 q, .int .i64 pb, .bool pbit, .bool false] 196) = W1 := ⟨_, rfl⟩
      rw [hW1] at O2 hb3 hXr ⊢
      have hgX : g ≠ X := by omega
      have hBX : w.heap.size ≤ X := by omega
      have S1 : CarS w.heap.size W1 b X E ⟨q, pb, pbit, false⟩ s1 ns1 := ⟨O2.d, hXr, O2.e, ⟨O2.lb.1, hBX, O2.lb.2.1, O2.lb.2.2⟩⟩
      clear hXs hW1 x0 x1 x2 x3 x4
      go_wp2_with fail
      go_loopw [54] (fun i wr => ∃ j : Nat, j ≤ l.length ∧ i = .int .i64 j ∧ CarS w.heap.size wr b X E (rulX l k (⟨q, pb, pbit, false⟩, s1, ns1) j).1 (rulX l k (⟨q, pb, pbit, false⟩, s1, ns1) j).2.1 (rulX l k (⟨q, pb, pbit, false⟩, s1, ns1) j).2.2 ∧ CarK w.heap.size b X E W1 wr) (fun i _ => l.length - (intOf i).toNat)
      case atStart => exact ⟨0, Nat.zero_le _, rfl, S1, CarK.refl _ _ _ _ _⟩
      case round =>
        clear S1
        obtain ⟨j, hj, rfl, S, K⟩ := hrel
        obtain ⟨wi, rfl⟩ : ∃ wi, wi = wr := ⟨_, rfl⟩
        have hokj := Lib.hid (rulX_ok l Hr2.out k (⟨q, pb, pbit, false⟩, s1, ns1) hok2.out j)
        rcases Nat.lt_or_ge j l.length with hjl | hjg
        · obtain ⟨br, orr, r, rfl, hbr, hrx, y0, y1, y2, y3, y4⟩ := hA.rul hjl (hb3.trans K.bel)
          have hst := Lib.hid (rulX_snoc k (⟨q, pb, pbit, false⟩, s1, ns1) hrx.out)
          have hnj := rulX_notes l k (⟨q, pb, pbit, false⟩, s1, ns1) j hj
          simp only at hnj
          generalize rulX l k (⟨q, pb, pbit, false⟩, s1, ns1) j = z at *
          obtain ⟨x, s2, ns2⟩ := z
          simp only at S hnj
          have hnm : ns2.length ≤ 1000000 := by omega
          have hp3 : x.ph ≤ 3 := by
            have := hokj.out
            unfold Lgt.ok at this
            rw [Bool.and_eq_true] at this
            simpa using this.2
          have hrb : ruleB r = true := List.all_eq_true.1 Hr2.out _ (List.mem_of_getElem? hrx.out)
          have Hrb := Lib.hid hrb
          clear hrb hokj
          obtain ⟨S2, K2⟩ := S.alloc (.cells #[.int .i64 r.k, .int .i64 r.f, .int .i64 r.t, .int .i64 r.a, .int .i64 r.b] 70)
          have hR := rul_box wi r
          have K3 := K.trans K2
          clear S K
          go_upto_region 16 with fail
          clear y0 y1 y2 y3 y4
          obtain ⟨W2, hW2⟩ : ∃ W2, wi.alloc (.cells #[.int .i64 r.k, .int .i64 r.f, .int .i64 r.t, .int .i64 r.a, .int .i64 r.b] 70) = W2 := ⟨_, rfl⟩
          rw [hW2] at S2 K2 K3 hR ⊢
          obtain ⟨R, hRn⟩ : ∃ R, wi.heap.size = R := ⟨_, rfl⟩
          rw [hRn] at hR ⊢
          have hRB : R ≠ b ∧ R ≠ X ∧ R ≠ E := ⟨row_ne hR S2.d (by decide), row_ne hR S2.l (by decide), by obtain ⟨v, hv, _⟩ := S2.e; exact row_ne hR hv (by decide)⟩
          clear hW2 K2
          have r0 : W2.cell? ⟨R, 0, none⟩ = some (.int .i64 r.k) := cell_of_row _ _ _ _ _ _ hR
          have r1 : W2.cell? ⟨R, 1, none⟩ = some (.int .i64 r.f) := cell_of_row _ _ _ _ _ _ hR
          have r2 : W2.cell? ⟨R, 2, none⟩ = some (.int .i64 r.t) := cell_of_row _ _ _ _ _ _ hR
          have r3 : W2.cell? ⟨R, 3, none⟩ = some (.int .i64 r.a) := cell_of_row _ _ _ _ _ _ hR
          have r4 : W2.cell? ⟨R, 4, none⟩ = some (.int .i64 r.b) := cell_of_row _ _ _ _ _ _ hR
          go_cut [72] (fun v wx => v = .bool (onB r k) ∧ CarS w.heap.size wx b X E x s2 ns2 ∧ CarK w.heap.size b X E W1 wx ∧ wx.heap[R]? = some (.cells #[.int .i64 r.k, .int .i64 r.f, .int .i64 r.t, .int .i64 r.a, .int .i64 r.b] 70 (0, 0)))
          case first =>
            have cG := ranged_any r.k r.f r.t r.a r.b W2
            have after : Hid (∀ w', Below W2.heap.size W2 w' → CarS w.heap.size w' b X E x s2 ns2 ∧ CarK w.heap.size b X E W1 w' ∧ w'.heap[R]? = some (.cells #[.int .i64 r.k, .int .i64 r.f, .int .i64 r.t, .int .i64 r.a, .int .i64 r.b] 70 (0, 0))) := Lib.hid (fun w' hbw => by
              obtain ⟨a1, a2⟩ := S2.on hbw
              exact ⟨a1, K3.trans a2, (hbw.block _ (Array.getElem?_eq_some_iff.1 hR).1).trans hR⟩)
            clear S2 K3 hR
            by_cases h4 : 4 ≤ r.k
            · have d1 : decide (4 ≤ r.k) = true := decide_eq_true h4
              rw [d1] at cG
              by_cases hf : r.f ≤ (k : Int)
              · have d2 : decide (r.f ≤ (k : Int)) = true := decide_eq_true hf
                by_cases ht : (k : Int) ≤ r.t
                · have d3 : decide ((k : Int) ≤ r.t) = true := decide_eq_true ht
                  have hon : Hid (onB r k = true) := Lib.hid (by unfold onB; simp [hf, ht])
                  clear h4 hf ht d1
                  go_wp2_with (go_at_call 101; refine cG.mono ?_; rintro e w8 ⟨rfl, hb8⟩; have r1 := bel_cell hb8 r1; have r2 := bel_cell hb8 r2)
                  go_meet
                  case rel => rw [hon.out]; exact ⟨rfl, after.out _ hb8⟩
                · have d3 : decide ((k : Int) ≤ r.t) = false := decide_eq_false ht
                  have hon : Hid (onB r k = false) := Lib.hid (by unfold onB; simp [hf, ht]; omega)
                  clear h4 hf ht d1
                  go_wp2_with (go_at_call 101; refine cG.mono ?_; rintro e w8 ⟨rfl, hb8⟩; have r1 := bel_cell hb8 r1; have r2 := bel_cell hb8 r2)
                  go_meet
                  case rel => rw [hon.out]; exact ⟨rfl, after.out _ hb8⟩
              · have d2 : decide (r.f ≤ (k : Int)) = false := decide_eq_false hf
                have hon : Hid (onB r k = false) := Lib.hid (by unfold onB; simp [hf]; omega)
                clear h4 hf d1
                go_wp2_with (go_at_call 101; refine cG.mono ?_; rintro e w8 ⟨rfl, hb8⟩; have r1 := bel_cell hb8 r1; have r2 := bel_cell hb8 r2)
                go_meet
                case rel => rw [hon.out]; exact ⟨rfl, after.out _ hb8⟩
            · have d1 : decide (4 ≤ r.k) = false := decide_eq_false h4
              rw [d1] at cG
              have hon : Hid (onB r k = true) := Lib.hid (by unfold onB; simp; omega)
              clear h4 d1
              go_wp2_with (go_at_call 101; refine cG.mono ?_; rintro e w8 ⟨rfl, hb8⟩; have r1 := bel_cell hb8 r1; have r2 := bel_cell hb8 r2)
              go_meet
              case rel => rw [hon.out]; exact ⟨rfl, after.out _ hb8⟩
          case rest =>
            clear r0 r1 r2 r3 r4 S2 K3 hR
            obtain ⟨rfl, S2, K3, hR⟩ := hcut
            have O3 := O2.car S2 K3 hgX ⟨_, hXr⟩
            have Sd := S2.drew
            have r1 : wc.cell? ⟨R, 1, none⟩ = some (.int .i64 r.f) := cell_of_row _ _ _ _ _ _ hR
            have r2 : wc.cell? ⟨R, 2, none⟩ = some (.int .i64 r.t) := cell_of_row _ _ _ _ _ _ hR
            have r3 : wc.cell? ⟨R, 3, none⟩ = some (.int .i64 r.a) := cell_of_row _ _ _ _ _ _ hR
            have r4 : wc.cell? ⟨R, 4, none⟩ = some (.int .i64 r.b) := cell_of_row _ _ _ _ _ _ hR
            cases hon : onB r k
            · have hs : Hid (stpX r k (x, s2, ns2) = (x, s2, ns2)) := Lib.hid (by unfold stpX; rw [if_neg (by rw [hon]; simp)])
              clear hon
              go_wp2_with fail
              have S9 := S2; have K9 := K3
              exact ⟨⟨j + 1, by omega, by go_num, by rw [hst.out, hs.out]; exact S9, K9⟩, by simp [intOf]; omega⟩
            · have hs : Hid (stpX r k (x, s2, ns2) = ((actX r k x s2).1, (actX r k x s2).2.1, ns2 ++ (actX r k x s2).2.2)) := Lib.hid (by unfold stpX; rw [if_pos hon])
              have fin : Hid (∀ w9, CarS w.heap.size w9 b X E (actX r k x s2).1 (actX r k x s2).2.1 (ns2 ++ (actX r k x s2).2.2) → CarK w.heap.size b X E wc.drew w9 → CarS w.heap.size w9 b X E (stpX r k (x, s2, ns2)).1 (stpX r k (x, s2, ns2)).2.1 (stpX r k (x, s2, ns2)).2.2 ∧ CarK w.heap.size b X E W1 w9) := Lib.hid (fun w9 h1 h2 => by
                rw [hs.out]; exact ⟨h1, (K3.trans Sd.2).trans h2⟩)
              clear hon hs
              rcases rule_kind Hrb.out with hk | hk | hk | hk | hk | hk | hk
              · have r0 : wc.cell? ⟨R, 0, none⟩ = some (.int .i64 1) := by have h9 : wc.cell? ⟨R, 0, none⟩ = some (.int .i64 r.k) := cell_of_row _ _ _ _ _ _ hR; rw [hk] at h9; exact h9
                have hact : Hid (actX r k x s2 = if x.br = true then (x, s2, []) else (⟨x.ph - (lossN r.a s2 x.ph).1, x.basis, x.bit, false⟩, (lossN r.a s2 x.ph).2, [])) := Lib.hid (by unfold actX; rw [if_neg (by omega), if_pos hk])
                have dk : wc.cell? ⟨D, 1, none⟩ = some (.func (.func 140) #[] #[.pointer (some ⟨c1, 0, none⟩)]) := cell_of_row _ _ _ _ _ _ O3.dd
                have cX := quiet1_any c1 w.heap.size b X E s2 r x ns2 wc.drew k (.iface 188 (.pointer (some ⟨E, 0, none⟩))) (⟨x.ph - (lossN r.a s2 x.ph).1, x.basis, x.bit, false⟩, (lossN r.a s2 x.ph).2, []) Sd.1 O3.ac.b1 (fun hbr w' hS => loss_any w.heap.size b X E s2 r x ns2 w' hS hbr hp3)
                rw [← hact.out] at cX
                unfold Rul.val at cX
                rw [hk] at cX
                clear hact hk
                go_upto_region 17 with fail
                go_still_tail 9, (by kernel_rfl)
                change wpList _ _ _ _ _ wc.drew
                go_wp2_with fail
                refine cX.mono ?_
                rintro e w9 ⟨⟨v9, rfl⟩, J9, K9⟩
                clear cX dk r0
                go_wp2_with fail
                obtain ⟨S9, K9⟩ := fin.out _ J9 K9
                exact ⟨⟨j + 1, by omega, by go_num, by rw [hst.out]; exact S9, K9⟩, by simp [intOf]; omega⟩
              · have r0 : wc.cell? ⟨R, 0, none⟩ = some (.int .i64 2) := by have h9 : wc.cell? ⟨R, 0, none⟩ = some (.int .i64 r.k) := cell_of_row _ _ _ _ _ _ hR; rw [hk] at h9; exact h9
                have hact : Hid (actX r k x s2 = if x.br = true then (x, s2, []) else (if 0 < x.ph then (⟨x.ph, x.basis, x.bit != chB s2 r.a, false⟩, nxS s2, []) else (x, s2, []))) := Lib.hid (by unfold actX; rw [if_neg (by omega), if_neg (by omega : ¬ r.k = 1), if_pos hk])
                have dk : wc.cell? ⟨D, 2, none⟩ = some (.func (.func 140) #[] #[.pointer (some ⟨c2, 0, none⟩)]) := cell_of_row _ _ _ _ _ _ O3.dd
                have cX := quiet2_any c2 w.heap.size b X E s2 r x ns2 wc.drew k (.iface 188 (.pointer (some ⟨E, 0, none⟩))) (if 0 < x.ph then (⟨x.ph, x.basis, x.bit != chB s2 r.a, false⟩, nxS s2, []) else (x, s2, [])) Sd.1 O3.ac.b2 (fun hbr w' hS => noise_any w.heap.size b X E s2 r x ns2 w' hS hbr hp3)
                rw [← hact.out] at cX
                unfold Rul.val at cX
                rw [hk] at cX
                clear hact hk
                go_upto_region 17 with fail
                go_still_tail 9, (by kernel_rfl)
                change wpList _ _ _ _ _ wc.drew
                go_wp2_with fail
                refine cX.mono ?_
                rintro e w9 ⟨⟨v9, rfl⟩, J9, K9⟩
                clear cX dk r0
                go_wp2_with fail
                obtain ⟨S9, K9⟩ := fin.out _ J9 K9
                exact ⟨⟨j + 1, by omega, by go_num, by rw [hst.out]; exact S9, K9⟩, by simp [intOf]; omega⟩
              · have r0 : wc.cell? ⟨R, 0, none⟩ = some (.int .i64 3) := by have h9 : wc.cell? ⟨R, 0, none⟩ = some (.int .i64 r.k) := cell_of_row _ _ _ _ _ _ hR; rw [hk] at h9; exact h9
                have hact : Hid (actX r k x s2 = if x.br = true then (x, s2, []) else (x, s2, [])) := Lib.hid (by unfold actX; rw [if_neg (by omega), if_neg (by omega : ¬ r.k = 1), if_neg (by omega : ¬ r.k = 2), if_neg (by omega : ¬ r.k = 6), if_neg (by omega : ¬ r.k = 5), if_neg (by omega : ¬ r.k = 4)])
                have dk : wc.cell? ⟨D, 3, none⟩ = some (.func (.func 140) #[] #[.pointer (some ⟨c3, 0, none⟩)]) := cell_of_row _ _ _ _ _ _ O3.dd
                have cX := quiet3_any c3 w.heap.size b X E s2 r x ns2 wc.drew k (.iface 188 (.pointer (some ⟨E, 0, none⟩))) (x, s2, []) Sd.1 O3.ac.b3 (fun hbr w' hS => late_any w.heap.size b X E s2 r x ns2 w' hS)
                rw [← hact.out] at cX
                unfold Rul.val at cX
                rw [hk] at cX
                clear hact hk
                go_upto_region 17 with fail
                go_still_tail 9, (by kernel_rfl)
                change wpList _ _ _ _ _ wc.drew
                go_wp2_with fail
                refine cX.mono ?_
                rintro e w9 ⟨⟨v9, rfl⟩, J9, K9⟩
                clear cX dk r0
                go_wp2_with fail
                obtain ⟨S9, K9⟩ := fin.out _ J9 K9
                exact ⟨⟨j + 1, by omega, by go_num, by rw [hst.out]; exact S9, K9⟩, by simp [intOf]; omega⟩
              · have r0 : wc.cell? ⟨R, 0, none⟩ = some (.int .i64 4) := by have h9 : wc.cell? ⟨R, 0, none⟩ = some (.int .i64 r.k) := cell_of_row _ _ _ _ _ _ hR; rw [hk] at h9; exact h9
                have hact : Hid (actX r k x s2 = if x.br = true then (x, s2, []) else if x.ph = 0 then (x, s2, []) else if chB s2 r.a = true then rsnX k x (nxS s2) else (x, nxS s2, [])) := Lib.hid (by unfold actX; rw [if_neg (by omega), if_neg (by omega : ¬ r.k = 1), if_neg (by omega : ¬ r.k = 2), if_neg (by omega : ¬ r.k = 6), if_neg (by omega : ¬ r.k = 5), if_pos hk])
                have dk : wc.cell? ⟨D, 4, none⟩ = some (.func (.func 147) #[] #[]) := cell_of_row _ _ _ _ _ _ O3.dd
                have cX := resend_any w.heap.size b X E s2 k r x ns2 wc.drew Sd.1 hp3 hnm
                rw [← hact.out] at cX
                unfold eveV at cX
                unfold Rul.val at cX
                rw [hk] at cX
                clear hact hk
                go_upto_region 17 with fail
                go_still_tail 9, (by kernel_rfl)
                change wpList _ _ _ _ _ wc.drew
                go_wp2_with fail
                refine cX.mono ?_
                rintro e w9 ⟨⟨v9, rfl⟩, J9, K9⟩
                clear cX dk r0
                go_wp2_with fail
                obtain ⟨S9, K9⟩ := fin.out _ J9 K9
                exact ⟨⟨j + 1, by omega, by go_num, by rw [hst.out]; exact S9, K9⟩, by simp [intOf]; omega⟩
              · have r0 : wc.cell? ⟨R, 0, none⟩ = some (.int .i64 5) := by have h9 : wc.cell? ⟨R, 0, none⟩ = some (.int .i64 r.k) := cell_of_row _ _ _ _ _ _ hR; rw [hk] at h9; exact h9
                have hact : Hid (actX r k x s2 = if x.br = true then (x, s2, []) else if 2 ≤ x.ph then (⟨x.ph - 1, x.basis, x.bit, false⟩, s2, [⟨k, 2, x.basis, x.bit⟩]) else (x, s2, [])) := Lib.hid (by unfold actX; rw [if_neg (by omega), if_neg (by omega : ¬ r.k = 1), if_neg (by omega : ¬ r.k = 2), if_neg (by omega : ¬ r.k = 6), if_pos hk])
                have dk : wc.cell? ⟨D, 5, none⟩ = some (.func (.func 146) #[] #[]) := cell_of_row _ _ _ _ _ _ O3.dd
                have cX := osplit_any w.heap.size b X E s2 k r x ns2 wc.drew Sd.1 hp3 hnm
                rw [← hact.out] at cX
                unfold eveV at cX
                unfold Rul.val at cX
                rw [hk] at cX
                clear hact hk
                go_upto_region 17 with fail
                go_still_tail 9, (by kernel_rfl)
                change wpList _ _ _ _ _ wc.drew
                go_wp2_with fail
                refine cX.mono ?_
                rintro e w9 ⟨⟨v9, rfl⟩, J9, K9⟩
                clear cX dk r0
                go_wp2_with fail
                obtain ⟨S9, K9⟩ := fin.out _ J9 K9
                exact ⟨⟨j + 1, by omega, by go_num, by rw [hst.out]; exact S9, K9⟩, by simp [intOf]; omega⟩
              · have r0 : wc.cell? ⟨R, 0, none⟩ = some (.int .i64 6) := by have h9 : wc.cell? ⟨R, 0, none⟩ = some (.int .i64 r.k) := cell_of_row _ _ _ _ _ _ hR; rw [hk] at h9; exact h9
                have hact : Hid (actX r k x s2 = if x.br = true then (x, s2, []) else (if x.ph = 1 then (⟨if chB s2 r.a = true then 0 else 1, x.basis, x.bit, false⟩, nxS s2, []) else (x, s2, []))) := Lib.hid (by unfold actX; rw [if_neg (by omega), if_neg (by omega : ¬ r.k = 1), if_neg (by omega : ¬ r.k = 2), if_pos hk])
                have dk : wc.cell? ⟨D, 6, none⟩ = some (.func (.func 140) #[] #[.pointer (some ⟨c6, 0, none⟩)]) := cell_of_row _ _ _ _ _ _ O3.dd
                have cX := quiet4_any c6 w.heap.size b X E s2 r x ns2 wc.drew k (.iface 188 (.pointer (some ⟨E, 0, none⟩))) (if x.ph = 1 then (⟨if chB s2 r.a = true then 0 else 1, x.basis, x.bit, false⟩, nxS s2, []) else (x, s2, [])) Sd.1 O3.ac.b6 (fun hbr w' hS => starve_any w.heap.size b X E s2 r x ns2 w' hS hbr hp3)
                rw [← hact.out] at cX
                unfold Rul.val at cX
                rw [hk] at cX
                clear hact hk
                go_upto_region 17 with fail
                go_still_tail 9, (by kernel_rfl)
                change wpList _ _ _ _ _ wc.drew
                go_wp2_with fail
                refine cX.mono ?_
                rintro e w9 ⟨⟨v9, rfl⟩, J9, K9⟩
                clear cX dk r0
                go_wp2_with fail
                obtain ⟨S9, K9⟩ := fin.out _ J9 K9
                exact ⟨⟨j + 1, by omega, by go_num, by rw [hst.out]; exact S9, K9⟩, by simp [intOf]; omega⟩
              · have r0 : wc.cell? ⟨R, 0, none⟩ = some (.int .i64 7) := by have h9 : wc.cell? ⟨R, 0, none⟩ = some (.int .i64 r.k) := cell_of_row _ _ _ _ _ _ hR; rw [hk] at h9; exact h9
                have hact : Hid (actX r k x s2 = (⟨0, r.a, decide (r.b = 1), true⟩, s2, [⟨k, 3, r.a, decide (r.b = 1)⟩])) := Lib.hid (by unfold actX; rw [if_pos hk])
                have dk : wc.cell? ⟨D, 7, none⟩ = some (.func (.func 148) #[] #[]) := cell_of_row _ _ _ _ _ _ O3.dd
                have cX := blind_any w.heap.size b X E s2 k r x ns2 wc.drew Sd.1 hnm
                rw [← hact.out] at cX
                unfold eveV at cX
                unfold Rul.val at cX
                rw [hk] at cX
                clear hact hk
                go_upto_region 17 with fail
                go_still_tail 9, (by kernel_rfl)
                change wpList _ _ _ _ _ wc.drew
                go_wp2_with fail
                refine cX.mono ?_
                rintro e w9 ⟨⟨v9, rfl⟩, J9, K9⟩
                clear cX dk r0
                go_wp2_with fail
                obtain ⟨S9, K9⟩ := fin.out _ J9 K9
                exact ⟨⟨j + 1, by omega, by go_num, by rw [hst.out]; exact S9, K9⟩, by simp [intOf]; omega⟩
        · obtain rfl : j = l.length := by omega
          have O3 := O2.car S K hgX ⟨_, hXr⟩
          have hb4 := hb3.trans K.bel
          generalize rulX l k (⟨q, pb, pbit, false⟩, s1, ns1) l.length = z at *
          obtain ⟨x, s2, ns2⟩ := z
          simp only at S O3 hcs hat
          have y0 := S.c0
          have y3 := S.c3
          have hln : (carX l p s p.length).1.length = p.length := hlen0.out _ (Nat.le_refl _)
          have hfl : (fill (carX l p s p.length).1 lgt0 k).length = p.length := by rw [fill_len _ _ (by omega)]; exact hln
          have hfa := fill_at (L := (carX l p s p.length).1) lgt0 (k := k) (by omega)
          have hgs := hgw
          have hws : wo.heap.size ≤ wi.heap.size := by have := K.bel.size; have := (Array.getElem?_eq_some_iff.1 hXr).1; omega
          by_cases hx : 0 < x.ph ∨ x.br = true
          · have ho : outX x = x := by unfold outX; rw [if_pos hx]
            have hfs := fill_set lgt0 hat.out
            rw [ho] at hfs
            obtain ⟨O4, B4⟩ := O3.set hfl hfa x
            rw [hfs] at O4
            have hb5 := B4 hb4
            have z0 : wi.cell? ⟨g, k * 4, none⟩ = some (.int .i64 0) := O3.o.atK hfl Lgt.enc_len hfa (j := 0) rfl
            have z1 : wi.cell? ⟨g, k * 4 + 1, none⟩ = some (.int .i64 0) := O3.o.atK hfl Lgt.enc_len hfa (j := 1) rfl
            have z2 : wi.cell? ⟨g, k * 4 + 2, none⟩ = some (.bool false) := O3.o.atK hfl Lgt.enc_len hfa (j := 2) rfl
            have z3 : wi.cell? ⟨g, k * 4 + 3, none⟩ = some (.bool false) := O3.o.atK hfl Lgt.enc_len hfa (j := 3) rfl
            have f0 := O3.o.frK hfl (k * 4); have f1 := O3.o.frK hfl (k * 4 + 1); have f2 := O3.o.frK hfl (k * 4 + 2); have f3 := O3.o.frK hfl (k * 4 + 3)
            have y1 := S.c1
            have y2 := S.c2
            have hsz : Hid (g < ((((wi.setCell ⟨g, k * 4, none⟩ (.int .i64 x.ph)).setCell ⟨g, k * 4 + 1, none⟩ (.int .i64 x.basis)).setCell ⟨g, k * 4 + 2, none⟩ (.bool x.bit)).setCell ⟨g, k * 4 + 3, none⟩ (.bool x.br)).heap.size) := Lib.hid (by
              have h1 := own_blk O4.o
              exact h1)
            clear hat hfs hfa hfl hln S K O3 hb4 hgs hws ho
            by_cases h9 : 0 < x.ph
            · have h8 : ¬ x.ph = 0 := by omega
              clear hx
              go_wp2_with fail
              exact ⟨⟨k + 1, by omega, by go_num, by rw [hcs.out]; exact O4, hb5, hsz.out⟩, by simp [intOf]; omega⟩
            · have h0 : x.ph = 0 := by omega
              have d2 : x.br = true := by
                rcases hx with h8 | h8
                · exact absurd h8 h9
                · exact h8
              rw [d2] at y3
              replace y0 : wi.cell? ⟨X, 0, none⟩ = some (.int .i64 0) := by rw [h0] at y0; exact y0
              rw [h0, d2] at O4 hb5 hsz
              clear hx h9 h0
              go_wp2_with fail
              exact ⟨⟨k + 1, by omega, by go_num, by rw [hcs.out]; exact O4, hb5, hsz.out⟩, by simp [intOf]; omega⟩
          · have ho : outX x = lgt0 := by unfold outX; rw [if_neg hx]
            have hat2 := hat.out
            rw [ho] at hat2
            have hfs := fill_same hat2
            rw [hfs] at O3
            have h0 : x.ph = 0 := by omega
            have d2 : x.br = false := by cases h9 : x.br; rfl; exact absurd (.inr h9) hx
            rw [d2] at y3
            rw [h0] at y0
            have y0 : wi.cell? ⟨X, 0, none⟩ = some (.int .i64 0) := y0
            have hsz : g < wi.heap.size := by omega
            clear hat hat2 hfs hfa hfl hln S K hgs hx h0 d2
            go_wp2_with fail
            exact ⟨⟨k + 1, by omega, by go_num, by rw [hcs.out]; exact O3, hb4, hsz⟩, by simp [intOf]; omega⟩
    · obtain rfl : k = p.length := by omega
      obtain ⟨u, hu, hw⟩ := O.e
      have hout := O.o
      rw [fill_all _ _ (by rw [hlen0.out _ (Nat.le_refl _)]; exact Nat.le_refl _)] at hout
      have yu := hu.cell
      go_wp2_with fail
      go_region
      go_wp2_with fail
      go_ret3
      exact ⟨_, _, rfl, hout.below ((Below.refl _ _).drew), (show Go.Proofs.YteoaaphjbggobaaGreat.Own wo w.heap.size 239 4 Nte.enc u _ from hw).below ((Below.refl _ _).drew), hb.drew⟩

end Go.Proofs.YteoaaphjbggobaaGreat
