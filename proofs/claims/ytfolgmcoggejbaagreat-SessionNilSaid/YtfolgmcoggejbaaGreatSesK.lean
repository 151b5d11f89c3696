/- A station begins its first session as the sender. For a new station whose head has at most so many slots as there are. -/
import Derived.Test.YtfolgmcoggejbaaGreatSesJ
import Derived.Laws.CopyRow
namespace Go.Proofs.YtfolgmcoggejbaaGreat
open Go.RowKit
set_option linter.unusedVariables false
set_option linter.unusedSimpArgs false

theorem run_storeVar_at {P : Program} (w : World) (g o : Nat) (t ty : TypeId) (old cells new : Array Value) (hg : w.heap[g]? = some (.cells old t (0, 0))) (hi : (P.info? ty).map (·.size) = some cells.size)
    (ho : o + cells.size ≤ old.size) (h1 : cells.all (·.oneCell') = true) (hn : (old.toList.take o ++ cells.toList ++ old.toList.drop (o + cells.size)).toArray = new) :
    (storeVar ty ⟨g, o, none⟩ (.agg cells)).run P w = .ok () (w.setRow g new) := by
  have := run_storeCells_at (P := P) g o t cells.toList 0 old w hg (by simp; omega) (fun v hv => (Array.all_eq_true_iff_forall_mem.1 h1) v (by simpa using hv))
  cases hq : P.info? ty with
  | none => simp [hq] at hi
  | some i =>
    have hs : cells.size = i.size := by simp [hq] at hi; omega
    simp only [Nat.add_zero, Array.length_toList, hn] at this
    simp [storeVar, sizeOf, typeInfo, hq, Value.cells, hs, this]
/-- The store of a struct into a bigger box. -/
theorem wpList_store_at {P : Program} {ops : Array Oper} {rest : List Oper} {o : Oper} {a : Act} {w : World} {Q : Exit → Act → World → Prop} (hgd : o.guard = none) (ty : TypeId) (x y : Operand) (ho : o.op = .store ty x y)
    (g off : Nat) (cells : Array Value) (hx : a.eval x = .pointer (some ⟨g, off, none⟩)) (hy : a.eval y = .agg cells)
    (t : TypeId) (old new : Array Value) (hg : w.heap[g]? = some (.cells old t (0, 0))) (hi : (P.info? ty).map (·.size) = some cells.size)
    (hold : off + cells.size ≤ old.size) (h1 : cells.all (·.oneCell') = true) (hn : (old.toList.take off ++ cells.toList ++ old.toList.drop (off + cells.size)).toArray = new)
    (h : wpList P ops Q rest (a.put o.dst undef) (w.setRow g new)) : wpList P ops Q (o :: rest) a w :=
  wpList_plain hgd fun _ hK => by
    unfold Oper.wp execOp
    simp only [ho, hx, hy, Instr.storeAt, Instr.sureAddr, Sem.run_bind, Sem.run_pure, Result.andThen_ok, run_storeVar_at w g off t ty old cells new hg hi hold h1 hn]
    exact hK _ _ h
theorem svalid_any (b : Nat) (x : Sta) (w : World) (hx : StaAt w b x) : Calls Tryz.prog 60 #[.pointer (some ⟨b, 0, none⟩)] w fun e w' => e = .returned (.bool true) ∧ w = w' := by
  have x0 : w.cell? ⟨b, 0, none⟩ = some (.bool true) := hx.c 0
  go_enter Tryz.func60, Tryz.ntmps60
  go_wp2_with fail
  go_ret
  exact ⟨rfl, rfl⟩
/-- The words of the head. -/
def wrdH (p : Pls) : Int := 2 * p.basis + (if p.bit = true then 1 else 0) + (if p.seen = true then 0 else 4)
/-- The station behind Begin, before its letter. -/
def begS (x : Sta) (ses : Int) (pv wv : Value) : Sta := { x with last := ses, k := { wrk0 with phase := 1, pulses := pv, wait := wv } }
set_option maxRecDepth 100000 in
set_option maxHeartbeats 8000000 in
theorem begin_head (b : Nat) (x : Sta) (ses : Int) (A : Option Addr) (c : Nat) (l : List Pls) (w : World) (hx : StaAt w b x) (hs : x.side = 0) (hph : x.k.phase ≠ 4) (h1 : 1 ≤ ses ∧ ses ≤ 1000) (hlast : x.last < ses)
    (hA : Arr 5 Pls.enc w w.heap.size A l) (hl : l.length ≤ c) (hc : c ≤ maxLen) (hn : A = none → c = 0) (hAo : ∀ a, A = some a → a.block ≠ b) (hsl : x.s.slots = (l.length : Int)) (hok : allE Pls.ok l = 0) (hhead : 0 ≤ x.s.head ∧ x.s.head ≤ (l.length : Int))
    (nb mb W : Nat) (bits : List Bool) (u : List Nat) (pool : PoolAt w x.pool nb mb W bits u) (off : PoolOff w x.pool nb mb b bits) (hmb : mb < w.heap.size) (hh : headLB ⟨ses, 1, (nxI W bits u x.side : Nat), none, 0, (l.take x.s.head.toNat).map wrdH, 0⟩ = true)
    (hn0 : nxE W bits u x.side = 0) (hp0 : plE W bits u (nxI W bits u x.side : Nat) (ltrL ⟨ses, 1, (nxI W bits u x.side : Nat), none, 0, (l.take x.s.head.toNat).map wrdH, 0⟩) = 0) :
    Calls Tryz.prog 19 #[.pointer (some ⟨b, 0, none⟩), .int .i64 ses, .slice A l.length c, .slice none 0 0] w fun e w' =>
      Out2 w w' b mb ∧ ∃ d A' c' T, e = .returned (.tuple #[.slice (some ⟨d, 0, none⟩) 1 1, .int .i64 0]) ∧ LtrAt w' d ⟨ses, 1, (nxI W bits u x.side : Nat), A', c', (l.take x.s.head.toNat).map wrdH, T⟩ := by
  have h4 : l.length ≤ 4096 := by
    unfold allE at hok
    split at hok
    · cases hok
    · omega
  have hall : Hid (l.all Pls.ok = true) := Lib.hid (by
    have h0 := hok
    unfold allE at h0
    split at h0
    · cases h0
    · split at h0
      · assumption
      · cases h0)
  obtain ⟨i0, hi, hz0, hz1, hz2⟩ := info_parts int_info
  have Hi := Lib.hid hi; have Hz0 := Lib.hid hz0; have Hz1 := Lib.hid hz1; have Hz2 := Lib.hid hz2
  clear hi hz0 hz1 hz2
  have x39 : w.cell? ⟨b, 39, none⟩ = some (.int .i64 x.k.phase) := hx.c 39
  have x38 : w.cell? ⟨b, 38, none⟩ = some (.int .i64 x.last) := hx.c 38
  have x35 : w.cell? ⟨b, 35, none⟩ = some (.int .i64 0) := by rw [← hs]; exact hx.c 35
  have x19 : w.cell? ⟨b, 19, none⟩ = some (.int .i64 (l.length : Int)) := by rw [← hsl]; exact hx.c 19
  have e1 : (x.k.phase == 4) = false := by simpa using hph
  have e2 : betwB ses 1 1000 = true := by simp [betwB]; omega
  have e3 : decide (ses ≤ x.last) = false := decide_eq_false (by omega)
  have cV := svalid_any b x w hx
  have cS := sends_any A c l (l.length : Int) w hA (by omega)
  rw [hok] at cS
  clear hph hlast hok
  go_enter Tryz.func19, Tryz.ntmps19
  go_wp2_with (first | (go_at_call 60; refine (cV).mono ?_; rintro e w' ⟨rfl, rfl⟩) | (go_at_call 61; refine (ssane_any _ _ _ _).mono ?_; rintro e w' ⟨rfl, rfl⟩; rw [e2]))
  refine cS.mono ?_
  rintro e w2 ⟨rfl, hb2⟩
  have hx2 := hx.on hb2
  rw [show (((l.length : Int) == (l.length : Int)) && ((0 : Int) == 0)) = true by simp]
  have y35 : w2.cell? ⟨b, 35, none⟩ = some (.int .i64 0) := bel_cell hb2 x35
  have y38 : w2.cell? ⟨b, 38, none⟩ = some (.int .i64 x.last) := hx2.c 38
  have f38 := hx2.fr 38
  clear x39 x38 x35 x19 e1 e2 e3 cV cS
  go_upto_region 13 with fail
  have hx3 : StaAt (w2.setCell ⟨b, 38, none⟩ (.int .i64 ses)) b { x with last := ses } := hx2.set 38 _ rfl
  have o3 : Out2 w (w2.setCell ⟨b, 38, none⟩ (.int .i64 ses)) b b := (Out2.of b b hb2).trans (Out2.grown (grown_setP w2 b 38 (.int .i64 ses)) (.inl rfl))
  obtain ⟨w3, hw3⟩ : ∃ w3, w2.setCell ⟨b, 38, none⟩ (.int .i64 ses) = w3 := ⟨_, rfl⟩
  rw [hw3] at hx3 o3 ⊢
  clear hw3 y35 y38 f38
  have y35 : w3.cell? ⟨b, 35, none⟩ = some (.int .i64 0) := by rw [← hs]; exact hx3.c 35
  have hA3 := arr_out2 hA o3 (fun a ha => ⟨hAo a ha, hAo a ha⟩)
  have ltb : b < w.heap.size := (Array.getElem?_eq_some_iff.1 hx).1
  have ltb3 : b < w3.heap.size := Nat.lt_of_lt_of_le ltb o3.size
  have cC := Clone_pulse A c l w3 hA3 hn hl (by omega)
  go_wp2_with fail
  refine cC.mono ?_
  rintro e w4 ⟨v, rfl, ow, hb4⟩
  obtain ⟨A4, c4, rfl, l4, m4, n4, ar4⟩ := ow.form Pls.enc_len
  have hx4 := hx3.on hb4
  have o4 := o3.trans (Out2.of b b hb4)
  have hx5 := hx4.on (below_alloc (Below.refl w4.heap.size w4) (.cells #[.int .i64 2] 3))
  have o5 := o4.trans (Out2.of b b (below_alloc (Below.refl w4.heap.size w4) (.cells #[.int .i64 2] 3)))
  have ow5 := ow.alloc (.cells #[.int .i64 2] 3)
  clear y35 cC
  go_upto_region 17 with (first | (refine wpList_buildAs rfl 80 _ rfl #[(0, .int .i64 1), (2, .slice A4 l.length c4), (4, .slice (some ⟨w4.heap.size, 0, none⟩) 1 1)] (by kernel_rfl) ({ wrk0 with phase := 1, pulses := .slice A4 l.length c4, wait := .slice (some ⟨w4.heap.size, 0, none⟩) 1 1 } : Wrk).cs (by kernel_rfl) ?_) | (refine wpList_store_at rfl 80 _ _ rfl b 39 ({ wrk0 with phase := 1, pulses := .slice A4 l.length c4, wait := .slice (some ⟨w4.heap.size, 0, none⟩) 1 1 } : Wrk).cs (by kernel_rfl) (by kernel_rfl) 82 _ (begS x ses (.slice A4 l.length c4) (.slice (some ⟨w4.heap.size, 0, none⟩) 1 1)).cs hx5 (show (Tryz.prog.info? 80).map (·.size) = some 18 by kernel_rfl) (Nat.le_of_ble_eq_true (by kernel_rfl)) (by kernel_rfl) (by kernel_rfl) ?_))
  have ltb6 : b < (w4.alloc (.cells #[.int .i64 2] 3)).heap.size := (Array.getElem?_eq_some_iff.1 hx5).1
  have hx6 : StaAt ((w4.alloc (.cells #[.int .i64 2] 3)).setRow b (begS x ses (.slice A4 l.length c4) (.slice (some ⟨w4.heap.size, 0, none⟩) 1 1)).cs) b (begS x ses (.slice A4 l.length c4) (.slice (some ⟨w4.heap.size, 0, none⟩) 1 1)) := setRow_heap _ b _ _ _ (0, 0) hx5
  have g6 := grown_setRow (w4.alloc (.cells #[.int .i64 2] 3)) b (begS x ses (.slice A4 l.length c4) (.slice (some ⟨w4.heap.size, 0, none⟩) 1 1)).cs
  have o6 : Out2 w ((w4.alloc (.cells #[.int .i64 2] 3)).setRow b (begS x ses (.slice A4 l.length c4) (.slice (some ⟨w4.heap.size, 0, none⟩) 1 1)).cs) b b := o5.trans (Out2.grown g6 (.inl rfl))
  have ow6 := Own.keep ow5 g6 (by
    cases A4 with
    | none => exact .inl rfl
    | some a =>
      refine .inr ?_
      have h9 := (World.ownsRow.lt ow a.block rfl).1
      simp [Value.ownBlock]; omega)
  obtain ⟨A', c', heq, _, _, _, ar6⟩ := ow6.form Pls.enc_len
  cases heq
  obtain ⟨w6, hw6⟩ : ∃ w6, (w4.alloc (.cells #[.int .i64 2] 3)).setRow b (begS x ses (.slice A4 l.length c4) (.slice (some ⟨w4.heap.size, 0, none⟩) 1 1)).cs = w6 := ⟨_, rfl⟩
  rw [hw6] at hx6 o6 ow6 ar6 ⊢
  clear hw6 g6 hx5 o5 ow5 hx4 o4
  obtain ⟨H, hH⟩ := Int.eq_ofNat_of_zero_le hhead.1
  have hHl : H ≤ l.length := by have := hhead.2; rw [hH] at this; omega
  have y20 : w6.cell? ⟨b, 20, none⟩ = some (.int .i64 (H : Int)) := by rw [← hH]; exact hx6.c 20
  have y41 : w6.cell? ⟨b, 41, none⟩ = some (.slice A4 l.length c4) := hx6.c 41
  go_upto_region 18 with fail
  go_region
  have o7 : Out2 w w6.drew b b := o6.trans (Out2.of b b (Below.refl w6.heap.size w6).drew)
  have hx7 : StaAt w6.drew b (begS x ses (.slice A4 l.length c4) (.slice (some ⟨w4.heap.size, 0, none⟩) 1 1)) := hx6
  have ar7 : Arr 5 Pls.enc w6.drew w6.drew.heap.size A4 l := ar6.on (Below.refl w6.heap.size w6).drew
  obtain ⟨w7, hw7⟩ : ∃ w7, w6.drew = w7 := ⟨_, rfl⟩
  rw [hw7] at o7 hx7 ar7 ⊢
  clear hw7 o6 hx6 ar6 ow6 y20 y41 hA3
  go_upto_region 19 with fail
  go_loopw [10, 104] (fun ov iv wr => ∃ k : Nat, k ≤ H ∧ iv = .int .i64 k ∧ Own wr w7.heap.size 3 1 encI ov ((l.take k).map wrdH) ∧ Below w7.heap.size w7 wr) (fun _ iv _ => H - (intOf iv).toNat)
  case atStart => exact ⟨0, by omega, rfl, Own.nil, Below.refl _ _⟩
  case round =>
    obtain ⟨k, hk, rfl, oj, hbj⟩ := hrel
    obtain ⟨w8, rfl⟩ : ∃ w8, w8 = wr := ⟨_, rfl⟩
    by_cases hlt : k < H
    · have hlt2 : k < l.length := by omega
      obtain ⟨bk, off, pb, pbit, pc, pph, ps, rfl, hbb, hp, c0, c1, c2, c3, c4⟩ := ar7.pls hlt2 hbj
      have okp : Pls.ok ⟨pb, pbit, pc, pph, ps⟩ = true := List.all_eq_true.1 hall.out _ (List.mem_of_getElem? hp.out)
      have hpb : pb = 0 ∨ pb = 1 := by simp [Pls.ok, betwB] at okp; omega
      have hst : Hid ((l.take (k + 1)).map wrdH = (l.take k).map wrdH ++ [wrdH ⟨pb, pbit, pc, pph, ps⟩]) := Lib.hid (by rw [List.take_add_one, hp.out]; simp)
      have hln : (((l.take k).map wrdH).length + 1) * 8 ≤ 140737488355328 := by rw [List.length_map, List.length_take]; omega
      have sz8 : w7.heap.size ≤ w8.heap.size := hbj.size
      have hone : ∀ n : Int, ∀ u ∈ encI n, u.oneCell' = true := fun n u hu => by
        simp [encI] at hu
        subst hu; rfl
      have ojp := oj.alloc (.cells #[.int .i64 pb, .bool pbit, .int .i64 pc, .int .i64 pph, .bool ps] 156)
      have q8 := below_alloc hbj (.cells #[.int .i64 pb, .bool pbit, .int .i64 pc, .int .i64 pph, .bool ps] 156)
      have szp : w7.heap.size ≤ (w8.alloc (.cells #[.int .i64 pb, .bool pbit, .int .i64 pc, .int .i64 pph, .bool ps] 156)).heap.size := q8.size
      clear hx7 o7 ow hA oj okp hp
      generalize (l.take k).map wrdH = L at *
      rcases hpb with rfl | rfl
      · cases pbit
        · cases ps
          · have hst2 : Hid ((l.take (k + 1)).map wrdH = L ++ [(4 : Int)]) := Lib.hid (by rw [hst.out]; rfl)
            go_wp2_with (at_builtin; refine wpList_snoc rfl _ _ 76 rfl w7.heap.size 3 i0 _ 1 8 Tryz.underlying76 Hi.out Hz0.out Hz1.out Hz2.out rfl (by decide) _ L (4 : Int) #[.int .i64 4] 3 rfl ojp rfl rfl rfl (hone _) hln (by decide) szp (by simp) ?_; intro v9 w9 ow9 hb9)
            exact ⟨⟨k + 1, by omega, by go_num, by rw [hst2.out]; exact ow9, q8.trans hb9⟩, by simp [intOf]; omega⟩
          · have hst2 : Hid ((l.take (k + 1)).map wrdH = L ++ [(0 : Int)]) := Lib.hid (by rw [hst.out]; rfl)
            go_wp2_with (at_builtin; refine wpList_snoc rfl _ _ 76 rfl w7.heap.size 3 i0 _ 1 8 Tryz.underlying76 Hi.out Hz0.out Hz1.out Hz2.out rfl (by decide) _ L (0 : Int) #[.int .i64 0] 3 rfl ojp rfl rfl rfl (hone _) hln (by decide) szp (by simp) ?_; intro v9 w9 ow9 hb9)
            exact ⟨⟨k + 1, by omega, by go_num, by rw [hst2.out]; exact ow9, q8.trans hb9⟩, by simp [intOf]; omega⟩
        · cases ps
          · have hst2 : Hid ((l.take (k + 1)).map wrdH = L ++ [(5 : Int)]) := Lib.hid (by rw [hst.out]; rfl)
            go_wp2_with (at_builtin; refine wpList_snoc rfl _ _ 76 rfl w7.heap.size 3 i0 _ 1 8 Tryz.underlying76 Hi.out Hz0.out Hz1.out Hz2.out rfl (by decide) _ L (5 : Int) #[.int .i64 5] 3 rfl ojp rfl rfl rfl (hone _) hln (by decide) szp (by simp) ?_; intro v9 w9 ow9 hb9)
            exact ⟨⟨k + 1, by omega, by go_num, by rw [hst2.out]; exact ow9, q8.trans hb9⟩, by simp [intOf]; omega⟩
          · have hst2 : Hid ((l.take (k + 1)).map wrdH = L ++ [(1 : Int)]) := Lib.hid (by rw [hst.out]; rfl)
            go_wp2_with (at_builtin; refine wpList_snoc rfl _ _ 76 rfl w7.heap.size 3 i0 _ 1 8 Tryz.underlying76 Hi.out Hz0.out Hz1.out Hz2.out rfl (by decide) _ L (1 : Int) #[.int .i64 1] 3 rfl ojp rfl rfl rfl (hone _) hln (by decide) szp (by simp) ?_; intro v9 w9 ow9 hb9)
            exact ⟨⟨k + 1, by omega, by go_num, by rw [hst2.out]; exact ow9, q8.trans hb9⟩, by simp [intOf]; omega⟩
      · cases pbit
        · cases ps
          · have hst2 : Hid ((l.take (k + 1)).map wrdH = L ++ [(6 : Int)]) := Lib.hid (by rw [hst.out]; rfl)
            go_wp2_with (at_builtin; refine wpList_snoc rfl _ _ 76 rfl w7.heap.size 3 i0 _ 1 8 Tryz.underlying76 Hi.out Hz0.out Hz1.out Hz2.out rfl (by decide) _ L (6 : Int) #[.int .i64 6] 3 rfl ojp rfl rfl rfl (hone _) hln (by decide) szp (by simp) ?_; intro v9 w9 ow9 hb9)
            exact ⟨⟨k + 1, by omega, by go_num, by rw [hst2.out]; exact ow9, q8.trans hb9⟩, by simp [intOf]; omega⟩
          · have hst2 : Hid ((l.take (k + 1)).map wrdH = L ++ [(2 : Int)]) := Lib.hid (by rw [hst.out]; rfl)
            go_wp2_with (at_builtin; refine wpList_snoc rfl _ _ 76 rfl w7.heap.size 3 i0 _ 1 8 Tryz.underlying76 Hi.out Hz0.out Hz1.out Hz2.out rfl (by decide) _ L (2 : Int) #[.int .i64 2] 3 rfl ojp rfl rfl rfl (hone _) hln (by decide) szp (by simp) ?_; intro v9 w9 ow9 hb9)
            exact ⟨⟨k + 1, by omega, by go_num, by rw [hst2.out]; exact ow9, q8.trans hb9⟩, by simp [intOf]; omega⟩
        · cases ps
          · have hst2 : Hid ((l.take (k + 1)).map wrdH = L ++ [(7 : Int)]) := Lib.hid (by rw [hst.out]; rfl)
            go_wp2_with (at_builtin; refine wpList_snoc rfl _ _ 76 rfl w7.heap.size 3 i0 _ 1 8 Tryz.underlying76 Hi.out Hz0.out Hz1.out Hz2.out rfl (by decide) _ L (7 : Int) #[.int .i64 7] 3 rfl ojp rfl rfl rfl (hone _) hln (by decide) szp (by simp) ?_; intro v9 w9 ow9 hb9)
            exact ⟨⟨k + 1, by omega, by go_num, by rw [hst2.out]; exact ow9, q8.trans hb9⟩, by simp [intOf]; omega⟩
          · have hst2 : Hid ((l.take (k + 1)).map wrdH = L ++ [(3 : Int)]) := Lib.hid (by rw [hst.out]; rfl)
            go_wp2_with (at_builtin; refine wpList_snoc rfl _ _ 76 rfl w7.heap.size 3 i0 _ 1 8 Tryz.underlying76 Hi.out Hz0.out Hz1.out Hz2.out rfl (by decide) _ L (3 : Int) #[.int .i64 3] 3 rfl ojp rfl rfl rfl (hone _) hln (by decide) szp (by simp) ?_; intro v9 w9 ow9 hb9)
            exact ⟨⟨k + 1, by omega, by go_num, by rw [hst2.out]; exact ow9, q8.trans hb9⟩, by simp [intOf]; omega⟩
    · obtain rfl : k = H := by omega
      have hk3 : x.s.head.toNat = k := by omega
      rw [hk3] at hh hp0
      obtain ⟨ws, hws⟩ : ∃ ws, (l.take k).map wrdH = ws := ⟨_, rfl⟩
      rw [hws] at oj hh hp0
      obtain ⟨A5, c5, rfl, l5, m5, n5, ar5⟩ := oj.form encI_len
      have hx8 := hx7.on hbj
      have o8 := o7.trans (Out2.of b b hbj)
      have G : w.grownBy w8 (some b) := ⟨o8.os, o8.tape, o8.output, o8.size, fun i hi h1 => o8.block i hi (by simpa using h1) (by simpa using h1)⟩
      have pool8 := pool.kept G (by simpa using off.p) (by simpa using off.n) (by simpa using off.m) (fun A c h a ha => by simpa using off.a A c h a ha)
      have off8 : PoolOff w8 x.pool nb mb b bits := ⟨off.p, off.n, off.m, fun A c hc => by
        obtain ⟨A0, c0, h20, _⟩ := pool.c2
        have h3 := (World.cell?_of_block (o8.block x.pool (World.block_lt_of_cell? w _ pool.c0) off.p off.p)).trans h20
        rw [h3] at hc
        cases hc
        exact off.a A c h20⟩
      have sz7 : w.heap.size ≤ w7.heap.size := o7.size
      have hA5 : ∀ a, A5 = some a → a.block ≠ b ∧ a.block ≠ mb := fun a ha => by
        subst ha
        have h9 := (World.ownsRow.lt oj a.block rfl).1
        omega
      have hw5 : ws.all okW = true := by
        rw [← hws, List.all_eq_true]
        intro y hy
        obtain ⟨q, hq, rfl⟩ := List.mem_map.1 hy
        have okq := List.all_eq_true.1 hall.out _ (List.mem_of_mem_take hq)
        simp [Pls.ok, betwB] at okq
        have hbq : 0 ≤ wrdH q ∧ wrdH q ≤ 65535 := by unfold wrdH; split <;> split <;> omega
        simp [okW, betwB]; omega
      have hh5 : headLB (sndL (begS x ses (.slice A4 l.length c4) (.slice (some ⟨w4.heap.size, 0, none⟩) 1 1)) 1 W bits u A5 c5 ws 0) = true := by
        simp only [headLB] at hh
        simp only [headLB, sndL, begS]
        exact hh
      have cS := send_any b (begS x ses (.slice A4 l.length c4) (.slice (some ⟨w4.heap.size, 0, none⟩) 1 1)) 1 A5 c5 ws nb mb W bits u w8 hx8 pool8 off8 ar5 l5 m5 n5 hA5 hh5 hw5
      have hsn : sndE (begS x ses (.slice A4 l.length c4) (.slice (some ⟨w4.heap.size, 0, none⟩) 1 1)) 1 W bits u ws = 0 := by
        unfold sndE
        rw [if_pos (show nxE W bits u (begS x ses (.slice A4 l.length c4) (.slice (some ⟨w4.heap.size, 0, none⟩) 1 1)).side = 0 from hn0)]
        exact hp0
      have o8m : Out2 w w8 b mb := ⟨o8.os, o8.tape, o8.output, o8.size, fun i hi h1 _ => o8.block i hi h1 h1⟩
      clear hx7 o7 oj hn0 hp0 hh hA
      go_wp2_with fail
      refine cS.mono ?_
      rintro e w9 ⟨o9, h⟩
      rcases h with ⟨h, _⟩ | ⟨_, p, d, A', c', rfl, _, _, _, L9, _⟩
      · exact absurd hsn h
      go_wp2_with fail
      go_ret2
      exact ⟨o8m.trans o9, d, A', c', _, rfl, by rw [hk3, hws]; exact L9⟩

end Go.Proofs.YtfolgmcoggejbaaGreat
