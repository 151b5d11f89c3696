/- Contracts of optics.Count, sends, post. For at most 4611686018427387904 pulses. -/
import Derived.Test.YtfolgmcoggejbaaGreatSesG
import Derived.Test.YtfolgmcoggejbaaGreatSesC
namespace Go.Proofs.YtfolgmcoggejbaaGreat
open Go.RowKit
set_option linter.unusedVariables false
set_option linter.unusedSimpArgs false

set_option maxRecDepth 100000 in
set_option maxHeartbeats 4000000 in
theorem cntValid_any (A : Option Addr) (c : Nat) (l : List Pls) (w : World) (hA : Arr 5 Pls.enc w w.heap.size A l) (hl : l.length ≤ 9223372036854775807) :
    Calls Tryz.prog 170 #[.slice A l.length c] w fun e w' => e = .returned (.int .i64 (allE Pls.ok l)) ∧ Below w.heap.size w w' := by
  by_cases h : 4096 < l.length
  · have d1 : decide (4096 < (l.length : Int)) = true := by simp; omega
    have e1 := Lib.hid (allE_many (ok := Pls.ok) h)
    go_enter Tryz.func170, Tryz.ntmps170
    go_wp2
    go_ret
    exact ⟨ret_int e1.out.symm, Below.refl _ _⟩
  have d1 : decide (4096 < (l.length : Int)) = false := by simp; omega
  go_enter Tryz.func170, Tryz.ntmps170
  go_wp2_with fail
  go_loopw [10] (fun i wr => ∃ k : Nat, k ≤ l.length ∧ i = .int .i64 k ∧ Hid ((l.take k).all Pls.ok = true) ∧ Below w.heap.size w wr) (fun i _ => l.length + 1 - (intOf i).toNat)
  case atStart => exact ⟨0, Nat.zero_le _, rfl, Lib.hid rfl, Below.refl _ _⟩
  case round =>
    obtain ⟨k, hk, rfl, inv, hb⟩ := hrel
    obtain ⟨w6, rfl⟩ : ∃ w6, w6 = wr := ⟨_, rfl⟩
    rcases Nat.lt_or_ge k l.length with hlt | hge
    · obtain ⟨b, off, pb, pbit, pc, pph, ps, rfl, hbb, hx, c0, c1, c2, c3, c4⟩ := hA.pls hlt hb
      have q7 := below_alloc hb (.cells #[.int .i64 pb, .bool pbit, .int .i64 pc, .int .i64 pph, .bool ps] 156)
      have bad : Hid (Pls.ok ⟨pb, pbit, pc, pph, ps⟩ = false → allE Pls.ok l = 2) := Lib.hid (fun hf => allE_no h hx.out hf)
      have good : Hid (Pls.ok ⟨pb, pbit, pc, pph, ps⟩ = true → (l.take (k + 1)).all Pls.ok = true) := Lib.hid (fun hf => all_take hx.out inv.out hf)
      by_cases hok : (0 ≤ pb ∧ pb ≤ 1) ∧ (0 ≤ pc ∧ pc ≤ 2) ∧ (0 ≤ pph ∧ pph ≤ 3)
      · obtain ⟨⟨a1, a2⟩, ⟨a3, a4⟩, a5, a6⟩ := hok
        have e1 : decide (pb < 0) = false := by simp; omega
        have e2 : decide (1 < pb) = false := by simp; omega
        have e3 : decide (pc < 0) = false := by simp; omega
        have e4 : decide (2 < pc) = false := by simp; omega
        have e5 : decide (pph < 0) = false := by simp; omega
        have e6 : decide (3 < pph) = false := by simp; omega
        have hg := Lib.hid (good.out (by simp [Pls.ok, betwB]; omega))
        go_wp2_with fail
        exact ⟨⟨k + 1, by omega, by go_num, hg, q7⟩, by simp [intOf]; omega⟩
      · have hbd := Lib.hid (bad.out (by simp [Pls.ok, betwB]; omega))
        clear good bad inv hx
        go_wp2_with fail
        all_goals (first | (exfalso; omega) | (go_ret; exact ⟨ret_int hbd.out.symm, q7⟩))
    · have e1 := Lib.hid (allE_yes (ok := Pls.ok) h hge inv.out)
      go_wp2
      go_ret
      exact ⟨ret_int e1.out.symm, hb⟩
def rowI (l : List Int) : Array Value := (l.map fun x => Value.int .i64 x).toArray
theorem rowI_get {l : List Int} {k : Nat} {x : Int} (h : l[k]? = some x) : (rowI l)[k]? = some (.int .i64 x) := by simp [rowI, h]
theorem rowI_set (l : List Int) (k : Nat) (x : Int) : (rowI l).setIfInBounds k (.int .i64 x) = rowI (l.set k x) := by simp [rowI, List.map_set]
theorem arr12 {cs : List Int} (h : cs.length = 12) : ∃ a0 a1 a2 a3 a4 a5 a6 a7 a8 a9 a10 a11, cs = [a0, a1, a2, a3, a4, a5, a6, a7, a8, a9, a10, a11] := by
  match cs, h with
  | [a0, a1, a2, a3, a4, a5, a6, a7, a8, a9, a10, a11], _ => exact ⟨_, _, _, _, _, _, _, _, _, _, _, _, rfl⟩
def zer12 : List Int := [0, 0, 0, 0, 0, 0, 0, 0, 0, 0, 0, 0]
def RowAt (w : World) (b : Nat) (v : List Int) : Prop := w.heap[b]? = some (.cells (rowI v) 65 (0, 0))
theorem RowAt.on {w w' : World} {b : Nat} {v : List Int} (h : RowAt w b v) (hb : Below w.heap.size w w') : RowAt w' b v := (hb.block b (Array.getElem?_eq_some_iff.1 h).1).trans h
theorem RowAt.c {w : World} {b : Nat} {v : List Int} (h : RowAt w b v) {k : Nat} {x : Int} (hk : v[k]? = some x) : w.cell? ⟨b, k, none⟩ = some (.int .i64 x) := (cell_of_row w b k _ _ _ h).trans (rowI_get hk)
theorem RowAt.all {w : World} {b : Nat} {v : List Int} (h : RowAt w b v) : ∀ (j : Nat) (u : Value), (rowI v)[j]? = some u → w.cell? ⟨b, 0 + j, none⟩ = some u := fun j u hu => by rw [Nat.zero_add]; exact (cell_of_row w b j _ _ _ h).trans hu
set_option maxRecDepth 100000 in
set_option maxHeartbeats 8000000 in
theorem Count_any (A : Option Addr) (c : Nat) (l : List Pls) (w : World) (hA : Arr 5 Pls.enc w w.heap.size A l) (hl : l.length ≤ 4611686018427387904) :
    Calls Tryz.prog 122 #[.slice A l.length c] w fun e w' => ∃ v : List Int, v.length = 12 ∧ e = .returned (.tuple #[.agg (rowI v), .int .i64 (allE Pls.ok l)]) ∧ Below w.heap.size w w' := by
  have hsz : ∀ v : List Int, v.length = 12 → (Tryz.prog.info? 65).map (·.size) = some (rowI v).size := fun v hv => by
    rw [show (rowI v).size = 12 by simp [rowI, hv]]; kernel_rfl
  have cV := fun w' (hb : Below w.heap.size w w') => cntValid_any A c l w' (hA.on hb) (by omega)
  obtain ⟨E, hE⟩ : ∃ E, allE Pls.ok l = E := ⟨_, rfl⟩
  simp only [hE] at cV
  rw [hE]
  have hall : Hid (E = 0 → l.all Pls.ok = true) := Lib.hid (fun h0 => by
    rw [← hE] at h0
    unfold allE at h0
    split at h0
    · cases h0
    · split at h0
      · assumption
      · cases h0)
  clear hE
  go_enter Tryz.func122, Tryz.ntmps122
  go_upto_region 2 with fail
  change Code.wp _ _ _ _ ((w.alloc (.cells (rowI zer12) 65)).alloc (.cells (rowI zer12) 65))
  have q1 := below_alloc (below_alloc (Below.refl w.heap.size w) (.cells (rowI zer12) 65)) (.cells (rowI zer12) 65)
  have R1 : RowAt ((w.alloc (.cells (rowI zer12) 65)).alloc (.cells (rowI zer12) 65)) w.heap.size zer12 := RowAt.on (w := w.alloc (.cells (rowI zer12) 65)) (heap_alloc_new w _) (below_alloc (Below.refl _ _) _)
  have B1 : RowAt ((w.alloc (.cells (rowI zer12) 65)).alloc (.cells (rowI zer12) 65)) (w.heap.size + 1) zer12 := by
    have h := heap_alloc_new (w.alloc (.cells (rowI zer12) 65)) (.cells (rowI zer12) 65)
    rw [show (w.alloc (.cells (rowI zer12) 65)).heap.size = w.heap.size + 1 by simp] at h
    exact h
  have sz : w.heap.size + 2 ≤ ((w.alloc (.cells (rowI zer12) 65)).alloc (.cells (rowI zer12) 65)).heap.size := by simp
  obtain ⟨w1, hw1⟩ : ∃ w1, (w.alloc (.cells (rowI zer12) 65)).alloc (.cells (rowI zer12) 65) = w1 := ⟨_, rfl⟩
  rw [hw1] at q1 R1 B1 sz ⊢
  clear hw1
  go_wp2_with fail
  refine (cV _ q1).mono ?_
  rintro e w2 ⟨rfl, hb2⟩
  have R2 := R1.on hb2
  have B2 := B1.on hb2
  have q2 := below_trans q1 hb2
  have sz2 : w.heap.size + 2 ≤ w2.heap.size := Nat.le_trans sz hb2.size
  have fin : ∀ (wz : World) (v : List Int) (tm : Array Value) (x : Int), v.length = 12 → RowAt wz w.heap.size v → tm[2]?.getD undef = .pointer (some ⟨w.heap.size, 0, none⟩) → tm[3]?.getD undef = .int .i64 x → (results Tryz.f122 tm).run Tryz.prog wz = .ok (.tuple #[.agg (rowI v), .int .i64 x]) wz := fun wz v tm x hv h h2 h3 => by
    rw [results_cell_tmp rfl]
    simp [asAddr, h2, h3, run_loadVar_row wz w.heap.size 65 65 (rowI v) (0, 0) _ h Tryz.underlying65 rfl (hsz v hv), Result.andThen]
  have Fin := Lib.hid fin
  clear fin R1 B1 q1 sz
  by_cases e0 : E = 0
  case neg =>
    have g1 : (E != 0) = true := by simpa using e0
    clear e0
    go_wp2_with (first | (refine wpList_load_at 65 _ rfl (w.heap.size + 1) 0 rfl (rowI zer12) _ B2.all Tryz.underlying65 rfl (hsz zer12 rfl) (by rfl) ?_) | (refine wpList_store_row rfl 65 _ _ rfl w.heap.size (rowI zer12) (by kernel_rfl) (by kernel_rfl) 65 (rowI zer12) R2 (hsz zer12 rfl) rfl (by kernel_rfl) ?_))
    exact bodyPost_ret (v := .tuple #[.agg (rowI zer12), .int .i64 E]) (Fin.out _ zer12 _ E rfl (setRow_heap w2 w.heap.size _ (rowI zer12) _ (0, 0) R2) rfl rfl) rfl ⟨zer12, rfl, rfl, q2.grown (grown_setRow w2 w.heap.size (rowI zer12)) q2.size (fun k hk => by cases hk; omega)⟩
  subst e0
  have hal := hall.out rfl
  clear hall cV
  go_upto_region 6 with fail
  go_loopw [16] (fun i wr => ∃ (k : Nat) (v : List Int), k ≤ l.length ∧ i = .int .i64 k ∧ v.length = 12 ∧ RowAt wr (w.heap.size + 1) v ∧ RowAt wr w.heap.size zer12 ∧ Below w.heap.size w wr ∧ w.heap.size + 2 ≤ wr.heap.size) (fun i _ => l.length - (intOf i).toNat)
  case atStart => exact ⟨0, zer12, by omega, rfl, rfl, B2, R2, q2, sz2⟩
  case round =>
    obtain ⟨k, v, hk, rfl, hv, Bv, Rv, qv, szv⟩ := hrel
    obtain ⟨w6, rfl⟩ : ∃ w6, w6 = wr := ⟨_, rfl⟩
    by_cases hlt : k < l.length
    · obtain ⟨b, off, pb, pbit, pc, pph, ps, rfl, hbb, hx, c0, c1, c2, c3, c4⟩ := hA.pls hlt qv
      have hok : Pls.ok ⟨pb, pbit, pc, pph, ps⟩ = true := List.all_eq_true.1 hal _ (List.mem_of_getElem? hx.out)
      simp only [Pls.ok, betwB, Bool.and_eq_true, decide_eq_true_eq] at hok
      obtain ⟨⟨_, a3, a4⟩, a5, a6⟩ := hok
      obtain ⟨C, hC⟩ := Int.eq_ofNat_of_zero_le a3
      obtain ⟨D, hD⟩ := Int.eq_ofNat_of_zero_le a5
      subst hC hD
      obtain ⟨x, hxv⟩ : ∃ x, v[C * 4 + D]? = some x := ⟨_, List.getElem?_eq_getElem (by omega)⟩
      go_upto_region 8 with fail
      have d2 : (w6.alloc (.cells #[.int .i64 pb, .bool pbit, .int .i64 (C : Int), .int .i64 (D : Int), .bool ps] 156)).cell? ⟨w6.heap.size, 2, none⟩ = some (.int .i64 (C : Int)) := new_cell rfl
      have d3 : (w6.alloc (.cells #[.int .i64 pb, .bool pbit, .int .i64 (C : Int), .int .i64 (D : Int), .bool ps] 156)).cell? ⟨w6.heap.size, 3, none⟩ = some (.int .i64 (D : Int)) := new_cell rfl
      have bb := below_alloc (Below.refl w6.heap.size w6) (.cells #[.int .i64 pb, .bool pbit, .int .i64 (C : Int), .int .i64 (D : Int), .bool ps] 156)
      have B7 := Bv.on bb
      have R7 := Rv.on bb
      have q7 := below_alloc qv (.cells #[.int .i64 pb, .bool pbit, .int .i64 (C : Int), .int .i64 (D : Int), .bool ps] 156)
      have hx0 : Hid (x = x) := Lib.hid rfl
      obtain ⟨P, hP⟩ : ∃ P, w6.heap.size = P := ⟨_, rfl⟩
      have hPw : w.heap.size + 2 ≤ P := by omega
      obtain ⟨w7, hw7⟩ : ∃ w7, w6.alloc (.cells #[.int .i64 pb, .bool pbit, .int .i64 (C : Int), .int .i64 (D : Int), .bool ps] 156) = w7 := ⟨_, rfl⟩
      have sz7 : w.heap.size + 2 ≤ w7.heap.size := by rw [← hw7]; simp; omega
      rw [hw7] at d2 d3 B7 R7 q7 ⊢
      rw [hP] at d2 d3 ⊢
      clear hw7 hP bb Bv Rv qv szv c0 c1 c2 c3 c4
      have dx := B7.c hxv
      have dx2 : w7.cell? ⟨w.heap.size + 1, C * 4 + D, none⟩ = some (.int .i64 x) := dx
      have fx : w7.frozen? ⟨w.heap.size + 1, C * 4 + D, none⟩ = false := frozen_of_row w7 _ _ _ _ B7
      obtain ⟨Y, hY⟩ : ∃ Y, wrap64 (x + 1) = Y := ⟨_, rfl⟩
      have i1 : (C : Int) < 3 := by omega
      have i2 : (D : Int) < 4 := by omega
      go_region
      have B8 : RowAt (w7.setCell ⟨w.heap.size + 1, C * 4 + D, none⟩ (.int .i64 Y)).drew (w.heap.size + 1) (v.set (C * 4 + D) Y) := by
        have h := heap_setCell_same w7 (w.heap.size + 1) (C * 4 + D) (rowI v) _ (.int .i64 Y) B7
        rw [rowI_set] at h
        exact h
      have R8 : RowAt (w7.setCell ⟨w.heap.size + 1, C * 4 + D, none⟩ (.int .i64 Y)).drew w.heap.size zer12 := (heap_setCell_other w7 ⟨w.heap.size + 1, C * 4 + D, none⟩ w.heap.size (.int .i64 Y) (by simp)).trans R7
      have q8 := (q7.setCell (p := ⟨w.heap.size + 1, C * 4 + D, none⟩) (by simp) (.int .i64 Y)).drew
      have sz8 : w.heap.size + 2 ≤ (w7.setCell ⟨w.heap.size + 1, C * 4 + D, none⟩ (.int .i64 Y)).drew.heap.size := Nat.le_trans sz7 (grown_setP w7 (w.heap.size + 1) (C * 4 + D) (.int .i64 Y)).size
      clear B7 R7 q7 dx dx2 fx hY
      go_wp2_with fail
      exact ⟨⟨k + 1, v.set (C * 4 + D) Y, by omega, by go_num, by simp [hv], B8, R8, q8, sz8⟩, by simp [intOf]; omega⟩
    · go_upto_region 10 with fail
      go_wp2_with (first | (refine wpList_load_at 65 _ rfl (w.heap.size + 1) 0 rfl (rowI v) _ Bv.all Tryz.underlying65 rfl (hsz v hv) (by rfl) ?_) | (refine wpList_store_row rfl 65 _ _ rfl w.heap.size (rowI v) (by kernel_rfl) (by kernel_rfl) 65 (rowI zer12) Rv (hsz v hv) (by rw [show (rowI v).size = 12 by simp [rowI, hv]]; rfl) (by simp [rowI, Value.oneCell']) ?_))
      exact bodyPost_ret (v := .tuple #[.agg (rowI v), .int .i64 0]) (Fin.out _ v _ 0 hv (setRow_heap w6 w.heap.size _ (rowI v) _ (0, 0) Rv) rfl rfl) rfl ⟨v, hv, rfl, qv.grown (grown_setRow w6 w.heap.size (rowI v)) qv.size (fun k hk => by cases hk; omega)⟩

set_option maxHeartbeats 2000000 in
theorem sends_any (A : Option Addr) (c : Nat) (l : List Pls) (n : Int) (w : World) (hA : Arr 5 Pls.enc w w.heap.size A l) (hl : l.length ≤ 4611686018427387904) :
    Calls Tryz.prog 62 #[.slice A l.length c, .int .i64 n] w fun e w' => e = .returned (.bool (((l.length : Int) == n) && (allE Pls.ok l == 0))) ∧ Below w.heap.size w w' := by
  have cC := Count_any A c l w hA hl
  generalize allE Pls.ok l = E at *
  go_enter Tryz.func62, Tryz.ntmps62
  go_wp2_with fail
  refine cC.mono ?_
  rintro e w2 ⟨v, hv, rfl, hb2⟩
  obtain ⟨a0, a1, a2, a3, a4, a5, a6, a7, a8, a9, a10, a11, rfl⟩ := arr12 hv
  change Below w.heap.size w w2 at hb2
  simp only [rowI, List.map_cons, List.map_nil]
  have q3 := below_alloc hb2 (.cells #[.int .i64 a0, .int .i64 a1, .int .i64 a2, .int .i64 a3, .int .i64 a4, .int .i64 a5, .int .i64 a6, .int .i64 a7, .int .i64 a8, .int .i64 a9, .int .i64 a10, .int .i64 a11] 65)
  cases b1 : ((l.length : Int) == n) <;> cases b2 : (E == 0)
  all_goals (
    go_wp2_with fail
    go_ret
    exact ⟨ret_bool (by rw [b1, b2]; rfl), q3⟩)

end Go.Proofs.YtfolgmcoggejbaaGreat
