/- Contracts of the reference's pool: Seal, Open, Refill, Copy, NewPool; and of the comparison of two lists of numbers. -/
import Derived.Test.YtpejoghdmkpfcaaGreatDoorPlrB
namespace Go.Proofs.YtpejoghdmkpfcaaGreatDoor
open Go.RowKit Go.Maps
set_option linter.unusedVariables false
set_option linter.unusedSimpArgs false

theorem plE_nat {W : Nat} {bits : List Bool} {u : List Nat} {n : Int} {m : List Bool} (h : plE W bits u n m = 0) : ∃ k : Nat, n = k := by
  unfold plE at h
  by_cases hn : n < 0
  · rw [if_pos hn] at h; exact absurd h (by decide)
  · exact ⟨n.toNat, by omega⟩
/-- What Seal or Open leaves of the reference's pool. -/
def RpPut (w w' : World) (lo q W : Nat) (vb vd : Value) (bits : List Bool) (d : List Nat) (n : Int) : Prop :=
  ∃ vd' w1, RpAt w' lo q W vb vd' bits (d ++ [n.toNat]) ∧ w.grownBy w1 vd.ownBlock ∧ w1.grownBy w' (some q) ∧ At w vd vd'
section
variable {lo q W : Nat} {vb vd : Value} {bits : List Bool} {d : List Nat}
theorem RpAt.put {w w1 w2 : World} {vd' : Value} {k : Nat} (h : RpAt w lo q W vb vd bits d) (hb : Below w.heap.size w w1) (hg : w1.grownBy w2 vd.ownBlock) (hat : At w1 vd vd') (ho : Own w2 lo 3 1 encN vd' (d ++ [k])) (hl : d.length ≤ 5000) : RpPut w (w2.setCell ⟨q, 2, none⟩ vd') lo q W vb vd bits d (k : Int) :=
  ⟨vd', w2, (h.on hb).setD hg hat ho (by simp; omega), grown_trans (below_any hb _) hg, grown_setCell w2 q 2 vd', hat.imp id fun ⟨H, h1, h2⟩ => ⟨H, h1, Nat.le_trans hb.size h2⟩⟩

set_option maxRecDepth 100000 in
set_option maxHeartbeats 4000000 in
theorem rSeal_any (n : Int) (M : Option Addr) (mc : Nat) (m : List Bool) (w : World) (h : RpAt w lo q W vb vd bits d) (hM : Arr 1 encB w w.heap.size M m) (nM : M = none → mc = 0) (lm : m.length ≤ 60000) (hlo : lo ≤ w.heap.size) (hl : d.length ≤ 5000) :
    Calls Tryz.prog 48 #[.pointer (some ⟨q, 0, none⟩), .int .i64 n, .slice M m.length mc] w fun e w' => e = .returned (.tuple #[.int .u64 (plX W bits d n m), .int .i64 (plE W bits d n m)]) ∧
      ((plE W bits d n m ≠ 0 ∧ Below w.heap.size w w') ∨ (plE W bits d n m = 0 ∧ RpPut w w' lo q W vb vd bits d n)) := by
  have cT := rtag_any n M mc m w h hM nM lm
  by_cases hE : plE W bits d n m = 0
  · obtain ⟨k, rfl⟩ := plE_nat hE
    rw [hE] at cT ⊢
    generalize plX W bits d k m = X at *
    obtain ⟨n0, ni, nz0, nz1, nz2⟩ := info_parts onc_int
    have Ni := Lib.hid ni; have Nz0 := Lib.hid nz0; have Nz1 := Lib.hid nz1; have Nz2 := Lib.hid nz2
    have hP := Lib.hid h
    have by3 : (d.length + 1) * 8 ≤ 140737488355328 := by omega
    clear ni nz0 nz1 nz2 h hE
    go_enter Tryz.func48, Tryz.ntmps48
    go_wp2_with fail
    refine cT.mono ?_
    rintro e w1 ⟨rfl, hb1⟩
    have P1 := hP.out.on hb1
    have k2 := P1.c2
    have q1 := below_alloc hb1 (.cells #[.int .i64 k] 3)
    have P2 := hP.out.on q1
    have own2 := P2.od
    have hc2 := cellN w1 k 3
    have sz2 : lo ≤ (w1.alloc (.cells #[.int .i64 k] 3)).heap.size := by have := hb1.size; simp; omega
    clear cT
    go_wp2_with (at_builtin; refine wpList_snocG rfl _ _ 37 rfl lo 3 n0 _ 8 Tryz.underlying37 Ni.out Nz0.out Nz1.out Nz2.out rfl (enc := encN) _ d k rfl own2 rfl hc2 rfl (encN_one _) by3 (by decide) sz2 ?_; intro v3 w3 own3 hg3 hat3; have fin := hP.out.put q1 hg3 hat3 own3 hl; have r3 : w3.heap[q]? = _ := (hg3.block q P2.lt (fun e => P2.qd e.symm)).trans P2.row; have k3 := cell_of_row w3 q 2 _ _ _ r3; have f3 := frozen_of_row w3 q 2 _ _ r3; obtain ⟨A3, c3, hv3, _, _, _, _⟩ := own3.form encN_len; subst hv3; rw [show (d ++ [k]).length = d.length + 1 from by simp] at fin)
    go_ret2
    exact ⟨rfl, .inr ⟨trivial, fin⟩⟩
  · have hE' : (plE W bits d n m == 0) = false := by simpa using hE
    generalize plX W bits d n m = X at *
    generalize plE W bits d n m = E at *
    clear h
    go_enter Tryz.func48, Tryz.ntmps48
    go_wp2_with fail
    refine cT.mono ?_
    rintro e w1 ⟨rfl, hb1⟩
    go_wp2_with fail
    go_ret2
    exact ⟨rfl, .inl ⟨hE, hb1⟩⟩

set_option maxRecDepth 100000 in
set_option maxHeartbeats 4000000 in
theorem rOpen_any (n : Int) (M : Option Addr) (mc : Nat) (m : List Bool) (t : Nat) (w : World) (h : RpAt w lo q W vb vd bits d) (hM : Arr 1 encB w w.heap.size M m) (nM : M = none → mc = 0) (lm : m.length ≤ 60000) (hlo : lo ≤ w.heap.size) (hl : d.length ≤ 5000) :
    Calls Tryz.prog 49 #[.pointer (some ⟨q, 0, none⟩), .int .i64 n, .slice M m.length mc, .int .u64 t] w fun e w' => e = .returned (.int .i64 (opE W bits d n m t)) ∧
      ((opE W bits d n m t ≠ 0 ∧ Below w.heap.size w w') ∨ (opE W bits d n m t = 0 ∧ RpPut w w' lo q W vb vd bits d n)) := by
  have cT := rtag_any n M mc m w h hM nM lm
  by_cases hE : plE W bits d n m = 0
  · obtain ⟨k, rfl⟩ := plE_nat hE
    have eX : plX W bits d k m = plT W bits k m := by unfold plX; rw [if_pos hE]
    have eO : opE W bits d k m t = if t = plT W bits k m then 0 else 15 := by unfold opE; rw [if_pos hE]
    rw [hE, eX] at cT
    rw [eO]
    generalize plT W bits k m = X at *
    clear eX eO hE
    by_cases hX : t = X
    · subst hX
      rw [if_pos rfl]
      obtain ⟨n0, ni, nz0, nz1, nz2⟩ := info_parts onc_int
      have Ni := Lib.hid ni; have Nz0 := Lib.hid nz0; have Nz1 := Lib.hid nz1; have Nz2 := Lib.hid nz2
      have hP := Lib.hid h
      have by3 : (d.length + 1) * 8 ≤ 140737488355328 := by omega
      have e1 : ((t : Int) != (t : Int)) = false := by simp
      clear ni nz0 nz1 nz2 h
      go_enter Tryz.func49, Tryz.ntmps49
      go_wp2_with fail
      refine cT.mono ?_
      rintro e w1 ⟨rfl, hb1⟩
      have P1 := hP.out.on hb1
      have k2 := P1.c2
      have q1 := below_alloc hb1 (.cells #[.int .i64 k] 3)
      have P2 := hP.out.on q1
      have own2 := P2.od
      have hc2 := cellN w1 k 3
      have sz2 : lo ≤ (w1.alloc (.cells #[.int .i64 k] 3)).heap.size := by have := hb1.size; simp; omega
      clear cT e1
      go_wp2_with (at_builtin; refine wpList_snocG rfl _ _ 37 rfl lo 3 n0 _ 8 Tryz.underlying37 Ni.out Nz0.out Nz1.out Nz2.out rfl (enc := encN) _ d k rfl own2 rfl hc2 rfl (encN_one _) by3 (by decide) sz2 ?_; intro v3 w3 own3 hg3 hat3; have fin := hP.out.put q1 hg3 hat3 own3 hl; have r3 : w3.heap[q]? = _ := (hg3.block q P2.lt (fun e => P2.qd e.symm)).trans P2.row; have k3 := cell_of_row w3 q 2 _ _ _ r3; have f3 := frozen_of_row w3 q 2 _ _ r3; obtain ⟨A3, c3, hv3, _, _, _, _⟩ := own3.form encN_len; subst hv3; rw [show (d ++ [k]).length = d.length + 1 from by simp] at fin)
      go_ret
      exact ⟨rfl, .inr ⟨trivial, fin⟩⟩
    · rw [if_neg hX]
      have e1 : ((X : Int) != (t : Int)) = true := by simp; omega
      clear h hX
      go_enter Tryz.func49, Tryz.ntmps49
      go_wp2_with fail
      refine cT.mono ?_
      rintro e w1 ⟨rfl, hb1⟩
      go_wp2_with fail
      go_ret
      exact ⟨rfl, .inl ⟨by decide, hb1⟩⟩
  · have eO : opE W bits d n m t = plE W bits d n m := by unfold opE; rw [if_neg hE]
    rw [eO]
    have hE' : (plE W bits d n m != 0) = true := by simpa using hE
    generalize plX W bits d n m = X at *
    generalize plE W bits d n m = E at *
    clear h eO
    go_enter Tryz.func49, Tryz.ntmps49
    go_wp2_with fail
    refine cT.mono ?_
    rintro e w1 ⟨rfl, hb1⟩
    go_wp2_with fail
    go_ret
    exact ⟨rfl, .inl ⟨hE, hb1⟩⟩

set_option maxRecDepth 100000 in
set_option maxHeartbeats 4000000 in
theorem rRefill_any (M : Option Addr) (mc : Nat) (m : List Bool) (w : World) (h : RpAt w lo q W vb vd bits d) (hM : Arr 1 encB w w.heap.size M m) (nM : M = none → mc = 0) (lm : m.length ≤ 60000) (hlo : lo ≤ w.heap.size) :
    Calls Tryz.prog 51 #[.pointer (some ⟨q, 0, none⟩), .slice M m.length mc] w fun e w' => e = .returned (.int .i64 (reE bits m)) ∧
      ((reE bits m ≠ 0 ∧ Below w.heap.size w w') ∨ (reE bits m = 0 ∧ ∃ vb', RpAt w' lo q W vb' vd (bits ++ m) d ∧ w.grownBy w' (some q) ∧ ∀ g, vb'.ownBlock = some g → w.heap.size ≤ g)) := by
  have bl := h.bl
  obtain ⟨A, c, hv, l1, l2, l3, ar⟩ := h.ob.form encB_len
  have hP := Lib.hid h
  have c1 := h.c1
  rw [hv] at c1
  have lt := h.lt
  clear h
  by_cases hbig : 65536 < bits.length + m.length
  · have e1 : reE bits m = 4 := by unfold reE; rw [if_pos hbig]
    rw [e1]
    have d1 : decide (65536 < (bits.length : Int) + (m.length : Int)) = true := by simp; omega
    clear e1 hbig hv ar
    go_enter Tryz.func51, Tryz.ntmps51
    go_wp2
    go_ret
    exact ⟨rfl, .inl ⟨by decide, Below.refl _ _⟩⟩
  · have e1 : reE bits m = 0 := by unfold reE; rw [if_neg hbig]
    rw [e1]
    have d1 : decide (65536 < (bits.length : Int) + (m.length : Int)) = false := by simp; omega
    obtain ⟨i0, hi, hz0, hz1, hz2⟩ := info_parts bool_info3
    have Hi := Lib.hid hi; have Hz0 := Lib.hid hz0; have Hz1 := Lib.hid hz1; have Hz2 := Lib.hid hz2
    have lsum : (bits ++ m).length ≤ 65536 := by rw [List.length_append]; omega
    have LS := Lib.hid lsum
    have by1 : (([] : List Bool).length + bits.length) * 1 ≤ 140737488355328 := by simp; omega
    have by2 : (bits.length + m.length) * 1 ≤ 140737488355328 := by omega
    have oe := own_empty (α := Bool) (sz := 1) (enc := encB) w w.heap.size 4 (Nat.le_refl _)
    have qe := below_alloc (Below.refl w.heap.size w) (.cells #[] 4)
    have are := ar.on qe
    have sze := qe.size
    have c1e := bel_cell qe c1
    clear e1 hbig hv hi hz0 hz1 hz2 lsum
    go_enter Tryz.func51, Tryz.ntmps51
    go_wp2_with (first
      | (at_builtin; refine wpList_app rfl _ _ 22 rfl w.heap.size 4 i0 _ 1 1 Tryz.underlying22 Hi.out Hz0.out Hz1.out Hz2.out rfl (by decide) encB_len encB_one _ ([] : List Bool) bits A c _ rfl oe rfl are l3 by1 (by decide) sze ?_; intro v2 w2 own2 hb2; rw [List.nil_append] at own2; have q2 := qe.trans hb2; have ar2 := hM.on q2; have sz2 := q2.size)
      | (at_builtin; refine wpList_app rfl _ _ 22 rfl w.heap.size 4 i0 _ 1 1 Tryz.underlying22 Hi.out Hz0.out Hz1.out Hz2.out rfl (by decide) encB_len encB_one _ bits m M mc _ rfl own2 rfl ar2 nM by2 (by decide) sz2 ?_; intro v3 w3 own3 hb3; have q3 := q2.trans hb3; have fin := hP.out.setB q3 own3 hlo LS.out; have P3 := hP.out.on q3; have k3 := P3.c1; have f3 := P3.fr 1; have fg := grown_trans (below_any q3 (some q)) (grown_setCell w3 q 1 v3); have fb := fun g hg => (World.ownsRow.lt own3 g hg).1; obtain ⟨A3, c3, hv3, _, _, _, _⟩ := own3.form encB_len; subst hv3; rw [List.length_append] at fin fg fb))
    go_ret
    exact ⟨rfl, .inr ⟨trivial, _, fin, fg, fb⟩⟩
end

end Go.Proofs.YtpejoghdmkpfcaaGreatDoor
