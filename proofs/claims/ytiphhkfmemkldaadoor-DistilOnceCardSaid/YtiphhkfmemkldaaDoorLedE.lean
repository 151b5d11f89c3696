/- Contracts of distil's Enter and of the reference's. For lists whose length is an int's. -/
import Derived.Test.YtiphhkfmemkldaaDoorLedR
namespace Go.Proofs.YtiphhkfmemkldaaDoor
open Go.RowKit
set_option linter.unusedVariables false
set_option linter.unusedSimpArgs false

theorem item_info : (Tryd.prog.info? 71).map (fun i => (i.zero, i.size, i.bytes)) = some (some (.agg #[.int .i64 0, .int .i64 0]), 2, 16) := by kernel_rfl
theorem iparts {P : Program} {e : TypeId} {z : Value} {s b : Nat} (h : (P.info? e).map (fun i => (i.zero, i.size, i.bytes)) = some (some z, s, b)) : ∃ i, P.info? e = some i ∧ i.zero = some z ∧ i.size = s ∧ i.bytes = b := by
  obtain ⟨i, hi, hzz⟩ := Option.map_eq_some_iff.1 h
  simp only [Prod.mk.injEq] at hzz
  exact ⟨i, hi, hzz.1, hzz.2.1, hzz.2.2⟩
theorem below_of_grown {w w' : World} (h : w.grownBy w' none) : Below w.heap.size w w' := ⟨h.os, h.tape, h.output, h.size, fun k hk => h.block k hk (by simp)⟩
theorem own_ptr {α : Type} {w : World} {base e sz : Nat} {enc : α → List Value} {v : Value} {l : List α} (h : Own w base e sz enc v l) (hl : 0 < l.length) : ∃ g cap, v = .slice (some ⟨g, 0, none⟩) l.length cap ∧ base ≤ g ∧ g < w.heap.size := by
  rcases h.2 with ⟨_, h0⟩ | ⟨g, cap, cur, rfl, hb, hg, _⟩
  · omega
  · exact ⟨g, cap, rfl, hb, (Array.getElem?_eq_some_iff.1 hg).1⟩

theorem ent_led {l : List Itm} {k b : Int} (h : ledE l ≠ 0) : ent l k b = .no (ledE l) := by unfold ent; rw [if_pos h]
theorem ent_kind {l : List Itm} {k b : Int} (h : ledE l = 0) (hk : kindB k = false) : ent l k b = .no 2 := by unfold ent; rw [if_neg (by simp [h]), if_pos hk]
theorem ent_bits {l : List Itm} {k b : Int} (h : ledE l = 0) (hk : kindB k = true) (hb : betwB b 0 65536 = false) : ent l k b = .no 3 := by unfold ent; rw [if_neg (by simp [h]), if_neg (by simp [hk]), if_pos hb]
theorem ent_nil {k b : Int} (hk : kindB k = true) (hb : betwB b 0 65536 = true) : ent [] k b = .yes [⟨k, b⟩] := by
  unfold ent; rw [if_neg (by simp [ledE, firstE]), if_neg (by simp [hk]), if_neg (by simp [hb])]; rfl
theorem ent_last {l : List Itm} {k b : Int} {x : Itm} (h : ledE l = 0) (hk : kindB k = true) (hb : betwB b 0 65536 = true) (hx : l.getLast? = some x) : ent l k b =
    if x.kind = k then (if 65536 < x.bits + b then .no 8 else .yes (l.set (l.length - 1) ⟨k, x.bits + b⟩)) else if l.length = 1000 then .no 5 else .yes (l ++ [⟨k, b⟩]) := by
  unfold ent; rw [if_neg (by simp [h]), if_neg (by simp [hk]), if_neg (by simp [hb]), hx]
theorem last_at {l : List Itm} {j : Nat} {x : Itm} (hj : j + 1 = l.length) (hx : l[j]? = some x) : l.getLast? = some x := by
  rw [List.getLast?_eq_getElem?, show l.length - 1 = j from by omega]; exact hx
theorem below_set {a w : World} (h : Below a.heap.size a w) {g k : Nat} {u : Value} (hg : a.heap.size ≤ g) : Below a.heap.size a (w.setCell ⟨g, k, none⟩ u) := h.setCell hg _

set_option maxRecDepth 100000 in
set_option maxHeartbeats 4000000 in
theorem Enter_any (A : Option Addr) (c : Nat) (l : List Itm) (k b : Int) (w : World) (h : Arr 2 Itm.enc w w.heap.size A l) (hl : l.length ≤ 4611686018427387904) (hnil : A = none → c = 0) :
    Calls Tryd.prog 22 #[.slice A l.length c, .int .i64 k, .int .i64 b] w fun e w' => ∃ v, e = .returned (.tuple #[v, .int .i64 (ent l k b).e]) ∧ Own w' w.heap.size 71 2 Itm.enc v (ent l k b).l ∧ Below w.heap.size w w' := by
  by_cases h0 : ledE l = 0
  case neg =>
    rw [ent_led h0]
    have h0' : (ledE l != 0) = true := by simpa using h0
    go_enter Tryd.func22, Tryd.ntmps22
    go_wp2_with (go_at_call 21; refine (dCheck_any A c l w h hl).mono ?_; rintro e w1 ⟨rfl, hb1⟩)
    go_ret2
    exact ⟨_, rfl, Own.nil, hb1⟩
  have cC := dCheck_any A c l w h hl
  rw [h0] at cC
  cases hk : kindB k
  · rw [ent_kind h0 hk]
    have K1 := Lib.hid hk
    clear hk h0
    go_enter Tryd.func22, Tryd.ntmps22
    go_wp2_with (first | (go_at_call 21; refine cC.mono ?_; rintro e w1 ⟨rfl, hb1⟩) | (go_at_call 48; refine (kindOK_any _ _).mono ?_; rintro e w' ⟨rfl, rfl⟩; rw [K1.out]))
    go_ret2
    exact ⟨_, rfl, Own.nil, hb1⟩
  cases hbb : betwB b 0 65536
  · rw [ent_bits h0 hk hbb]
    have K1 := Lib.hid hk
    have K2 := Lib.hid hbb
    clear hk h0 hbb
    go_enter Tryd.func22, Tryd.ntmps22
    go_wp2_with (first | (go_at_call 21; refine cC.mono ?_; rintro e w1 ⟨rfl, hb1⟩) | (go_at_call 48; refine (kindOK_any _ _).mono ?_; rintro e w' ⟨rfl, rfl⟩; rw [K1.out]) | (go_at_call 49; refine (dbetween_any _ _ _ _).mono ?_; rintro e w' ⟨rfl, rfl⟩; rw [K2.out]))
    go_ret2
    exact ⟨_, rfl, Own.nil, hb1⟩
  obtain ⟨hl1, hf⟩ := ledE_zero.1 h0
  have K1 := Lib.hid hk
  have K2 := Lib.hid hbb
  have H0 := Lib.hid h0
  obtain ⟨b0, b1⟩ : 0 ≤ b ∧ b ≤ 65536 := by simpa [betwB] using hbb
  clear hk h0 hbb
  obtain ⟨i0, hi, hz0, hz1, hz2⟩ := iparts item_info
  have Hi := Lib.hid hi; have Hz0 := Lib.hid hz0; have Hz1 := Lib.hid hz1; have Hz2 := Lib.hid hz2
  clear hi hz0 hz1 hz2
  have Hf := Lib.hid hf
  clear hf
  rcases Nat.eq_zero_or_pos l.length with hl0 | hl0
  · obtain rfl : l = [] := List.eq_nil_of_length_eq_zero hl0
    rw [ent_nil K1.out K2.out]
    clear hl0
    go_enter Tryd.func22, Tryd.ntmps22
    go_wp2_with (first
      | (go_at_call 21; refine cC.mono ?_; rintro e w1 ⟨rfl, hb1⟩)
      | (go_at_call 48; refine (kindOK_any _ _).mono ?_; rintro e w' ⟨rfl, rfl⟩; rw [K1.out])
      | (go_at_call 49; refine (dbetween_any _ _ _ _).mono ?_; rintro e w' ⟨rfl, rfl⟩; rw [K2.out])
      | (at_make; refine wpList_make_own _ rfl _ _ 45 rfl w.heap.size 71 i0 _ 2 Tryd.underlying45 Hi.out Hz0.out Hz1.out _ _ _ 1 rfl rfl (by simp) (by rw [Hz2.out]; decide) (by unfold maxLen; omega) hb1.size ?_; intro w3 own3 gr3; have hb3 := below_of_grown gr3)
      | (at_builtin; refine wpList_app rfl _ _ 45 rfl w.heap.size 71 i0 _ 2 16 Tryd.underlying45 Hi.out Hz0.out Hz1.out Hz2.out rfl (by decide) Itm.enc_len Itm.one _ ([] : List Itm) [] A c w.heap.size rfl own3 rfl Arr.nil hnil (by simp) (by decide) (Nat.le_trans hb1.size hb3.size) ?_; intro v4 w4 own4 hb4)
      | (at_builtin; refine wpList_snoc rfl _ _ 45 rfl w.heap.size 71 i0 _ 2 16 Tryd.underlying45 Hi.out Hz0.out Hz1.out Hz2.out rfl (by decide) _ ([] : List Itm) ⟨k, b⟩ #[.int .i64 k, .int .i64 b] 71 rfl own4 rfl rfl rfl (Itm.one _) (by simp) (by decide) (Nat.le_trans (Nat.le_trans hb1.size hb3.size) hb4.size) rfl ?_; intro v5 w5 own5 hb5))
    go_ret2
    exact ⟨_, rfl, own5, hb1.trans ((hb3.mono hb1.size).trans (hb4.trans hb5))⟩
  · obtain ⟨j, hj⟩ : ∃ j, j + 1 = l.length := ⟨l.length - 1, by omega⟩
    obtain ⟨bk, off, qk, qb, rfl, hbk, hq, c0, c1⟩ := h.itm (k := j) (by omega) (Below.refl _ _)
    have hE := ent_last H0.out K1.out K2.out (last_at hj hq.out)
    simp only at hE
    obtain ⟨_, q1, q2⟩ := first_all Hf.out hq.out
    simp only at q1 q2
    have ej : (l.length : Int) - 1 = (j : Int) := by omega
    have jl : j < l.length := by omega
    have lm : l.length - 1 = j := by omega
    rw [lm] at hE
    obtain ⟨n, hn⟩ : ∃ n : Nat, l.length + 1 = n := ⟨_, rfl⟩
    have en : (l.length : Int) + 1 = (n : Int) := by omega
    have n1 : n ≤ 1001 := by omega
    have Hn := Lib.hid hn; have Hj := Lib.hid hj; have Lm := Lib.hid lm
    have HE := Lib.hid hE
    clear hn hj lm hE
    have n0 : decide (0 ≤ (j : Int)) = true := by simp
    by_cases hqk : qk = k
    · have d1 : (qk == k) = true := by simpa using hqk
      by_cases hov : 65536 < qb + b
      · have f1 : ent l k b = .no 8 := by rw [HE.out, if_pos hqk, if_pos hov]
        rw [f1]
        clear f1
        have Hq := Lib.hid hqk
        clear hqk
        go_enter Tryd.func22, Tryd.ntmps22
        go_wp2_with (first
          | (go_at_call 21; refine cC.mono ?_; rintro e w1 ⟨rfl, hb1⟩)
          | (go_at_call 48; refine (kindOK_any _ _).mono ?_; rintro e w' ⟨rfl, rfl⟩; rw [K1.out])
          | (go_at_call 49; refine (dbetween_any _ _ _ _).mono ?_; rintro e w' ⟨rfl, rfl⟩; rw [K2.out])
          | (at_make; refine wpList_make_own _ rfl _ _ 45 rfl w.heap.size 71 i0 _ 2 Tryd.underlying45 Hi.out Hz0.out Hz1.out _ _ _ n rfl rfl rfl (by rw [Hz2.out]; omega) (by unfold maxLen; omega) hb1.size ?_; intro w3 own3 gr3; have hb3 := below_of_grown gr3)
          | (at_builtin; refine wpList_app rfl _ _ 45 rfl w.heap.size 71 i0 _ 2 16 Tryd.underlying45 Hi.out Hz0.out Hz1.out Hz2.out rfl (by decide) Itm.enc_len Itm.one _ ([] : List Itm) l _ c w.heap.size rfl own3 rfl (h.keep (hb1.trans (hb3.mono hb1.size))) hnil (by simp; omega) (by decide) (Nat.le_trans hb1.size hb3.size) ?_; intro v4 w4 own4 hb4; have q4 := hb1.trans ((hb3.mono hb1.size).trans hb4); have e0 := bel_cell q4 c0; have e1 := bel_cell q4 c1))
        go_ret2
        exact ⟨_, rfl, Own.nil, q4⟩
      · have f1 : ent l k b = .yes (l.set j ⟨k, qb + b⟩) := by rw [HE.out, if_pos hqk, if_neg hov]
        rw [f1]
        clear f1
        have Hq := Lib.hid hqk
        have hov' : decide (65536 < qb + b) = false := by simp; omega
        clear hqk hov
        go_enter Tryd.func22, Tryd.ntmps22
        go_wp2_with (first
          | (go_at_call 21; refine cC.mono ?_; rintro e w1 ⟨rfl, hb1⟩)
          | (go_at_call 48; refine (kindOK_any _ _).mono ?_; rintro e w' ⟨rfl, rfl⟩; rw [K1.out])
          | (go_at_call 49; refine (dbetween_any _ _ _ _).mono ?_; rintro e w' ⟨rfl, rfl⟩; rw [K2.out])
          | (at_make; refine wpList_make_own _ rfl _ _ 45 rfl w.heap.size 71 i0 _ 2 Tryd.underlying45 Hi.out Hz0.out Hz1.out _ _ _ n rfl rfl rfl (by rw [Hz2.out]; omega) (by unfold maxLen; omega) hb1.size ?_; intro w3 own3 gr3; have hb3 := below_of_grown gr3)
          | (at_builtin; refine wpList_app rfl _ _ 45 rfl w.heap.size 71 i0 _ 2 16 Tryd.underlying45 Hi.out Hz0.out Hz1.out Hz2.out rfl (by decide) Itm.enc_len Itm.one _ ([] : List Itm) l _ c w.heap.size rfl own3 rfl (h.keep (hb1.trans (hb3.mono hb1.size))) hnil (by simp; omega) (by decide) (Nat.le_trans hb1.size hb3.size) ?_; intro v4 w4 own4 hb4; have q4 := hb1.trans ((hb3.mono hb1.size).trans hb4); have e0 := bel_cell q4 c0; have e1 := bel_cell q4 c1; rw [List.nil_append] at own4; obtain ⟨g, cap, hv4, hg1, hg2⟩ := own_ptr own4 hl0; subst hv4; have x1 : w4.cell? ⟨g, j * 2 + 1, none⟩ = some (.int .i64 qb) := own4.atK rfl Itm.enc_len hq.out (j := 1) rfl; have x2 := own4.frK rfl (j * 2 + 1); have x3 := own4.setK (x' := ⟨k, qb + b⟩) rfl Itm.enc_len hq.out (j := 1) (u := .int .i64 (qb + b)) (by decide) (by simp [Itm.enc, Hq.out])))
        go_ret2
        exact ⟨_, rfl, x3, q4.setCell hg1 _⟩
    · have d1 : (qk == k) = false := by simpa using hqk
      by_cases hfu : l.length = 1000
      · have f1 : ent l k b = .no 5 := by rw [HE.out, if_neg hqk, if_pos hfu]
        rw [f1]
        clear f1
        have hfu' : ((l.length : Int) == 1000) = true := by simp; omega
        have Hfu := Lib.hid hfu
        clear hqk hfu
        go_enter Tryd.func22, Tryd.ntmps22
        go_wp2_with (first
          | (go_at_call 21; refine cC.mono ?_; rintro e w1 ⟨rfl, hb1⟩)
          | (go_at_call 48; refine (kindOK_any _ _).mono ?_; rintro e w' ⟨rfl, rfl⟩; rw [K1.out])
          | (go_at_call 49; refine (dbetween_any _ _ _ _).mono ?_; rintro e w' ⟨rfl, rfl⟩; rw [K2.out])
          | (at_make; refine wpList_make_own _ rfl _ _ 45 rfl w.heap.size 71 i0 _ 2 Tryd.underlying45 Hi.out Hz0.out Hz1.out _ _ _ n rfl rfl rfl (by rw [Hz2.out]; omega) (by unfold maxLen; omega) hb1.size ?_; intro w3 own3 gr3; have hb3 := below_of_grown gr3)
          | (at_builtin; refine wpList_app rfl _ _ 45 rfl w.heap.size 71 i0 _ 2 16 Tryd.underlying45 Hi.out Hz0.out Hz1.out Hz2.out rfl (by decide) Itm.enc_len Itm.one _ ([] : List Itm) l _ c w.heap.size rfl own3 rfl (h.keep (hb1.trans (hb3.mono hb1.size))) hnil (by simp; omega) (by decide) (Nat.le_trans hb1.size hb3.size) ?_; intro v4 w4 own4 hb4; have q4 := hb1.trans ((hb3.mono hb1.size).trans hb4); have e0 := bel_cell q4 c0; have e1 := bel_cell q4 c1))
        go_ret2
        exact ⟨_, rfl, Own.nil, q4⟩
      · have f1 : ent l k b = .yes (l ++ [⟨k, b⟩]) := by rw [HE.out, if_neg hqk, if_neg hfu]
        rw [f1]
        clear f1
        have hfu' : ((l.length : Int) == 1000) = false := by simp; omega
        have Hfu := Lib.hid hfu
        clear hqk hfu
        go_enter Tryd.func22, Tryd.ntmps22
        go_wp2_with (first
          | (go_at_call 21; refine cC.mono ?_; rintro e w1 ⟨rfl, hb1⟩)
          | (go_at_call 48; refine (kindOK_any _ _).mono ?_; rintro e w' ⟨rfl, rfl⟩; rw [K1.out])
          | (go_at_call 49; refine (dbetween_any _ _ _ _).mono ?_; rintro e w' ⟨rfl, rfl⟩; rw [K2.out])
          | (at_make; refine wpList_make_own _ rfl _ _ 45 rfl w.heap.size 71 i0 _ 2 Tryd.underlying45 Hi.out Hz0.out Hz1.out _ _ _ n rfl rfl rfl (by rw [Hz2.out]; omega) (by unfold maxLen; omega) hb1.size ?_; intro w3 own3 gr3; have hb3 := below_of_grown gr3)
          | (at_builtin; refine wpList_app rfl _ _ 45 rfl w.heap.size 71 i0 _ 2 16 Tryd.underlying45 Hi.out Hz0.out Hz1.out Hz2.out rfl (by decide) Itm.enc_len Itm.one _ ([] : List Itm) l _ c w.heap.size rfl own3 rfl (h.keep (hb1.trans (hb3.mono hb1.size))) hnil (by simp; omega) (by decide) (Nat.le_trans hb1.size hb3.size) ?_; intro v4 w4 own4 hb4; have q4 := hb1.trans ((hb3.mono hb1.size).trans hb4); have e0 := bel_cell q4 c0; have e1 := bel_cell q4 c1; rw [List.nil_append] at own4)
          | (at_builtin; refine wpList_snoc rfl _ _ 45 rfl w.heap.size 71 i0 _ 2 16 Tryd.underlying45 Hi.out Hz0.out Hz1.out Hz2.out rfl (by decide) _ l ⟨k, b⟩ #[.int .i64 k, .int .i64 b] 71 rfl own4 rfl rfl rfl (Itm.one _) (by omega) (by decide) q4.size rfl ?_; intro v5 w5 own5 hb5))
        go_ret2
        exact ⟨_, rfl, own5, q4.trans hb5⟩

end Go.Proofs.YtiphhkfmemkldaaDoor
