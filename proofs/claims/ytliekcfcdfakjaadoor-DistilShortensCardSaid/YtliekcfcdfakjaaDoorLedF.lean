/- Contract of the reference's Enter. For lists whose length is an int's. -/
import Derived.Test.YtliekcfcdfakjaaDoorLedE
namespace Go.Proofs.YtliekcfcdfakjaaDoor
open Go.RowKit
set_option linter.unusedVariables false
set_option linter.unusedSimpArgs false

set_option maxRecDepth 100000 in
set_option maxHeartbeats 4000000 in
theorem rEnter_any (A : Option Addr) (c : Nat) (l : List Itm) (k b : Int) (w : World) (h : Arr 2 Itm.enc w w.heap.size A l) (hl : l.length ≤ 4611686018427387904) (hnil : A = none → c = 0) :
    Calls Tryd.prog 20 #[.slice A l.length c, .int .i64 k, .int .i64 b] w fun e w' => ∃ v, e = .returned (.tuple #[v, .int .i64 (ent l k b).e]) ∧ Own w' w.heap.size 39 2 Itm.enc v (ent l k b).l ∧ Below w.heap.size w w' := by
  by_cases h0 : ledE l = 0
  case neg =>
    rw [ent_led h0]
    have h0' : (ledE l != 0) = true := by simpa using h0
    go_enter Tryd.func20, Tryd.ntmps20
    go_wp2_with (go_at_call 25; refine (rLed_any A c l w h hl).mono ?_; rintro e w' ⟨rfl, rfl⟩)
    go_ret2
    exact ⟨_, rfl, Own.nil, Below.refl _ _⟩
  have cC : ∀ w' : World, Below w.heap.size w w' → Calls Tryd.prog 25 #[.slice A l.length c] w' fun e w'' => e = .returned (.int .i64 0) ∧ w' = w'' := fun w' hb => by
    have := rLed_any A c l w' (h.on hb) hl
    rw [h0] at this; exact this
  have kno : kindB k = false → (k < 1 ∨ 4 < k) → Calls Tryd.prog 20 #[.slice A l.length c, .int .i64 k, .int .i64 b] w fun e w' => ∃ v, e = .returned (.tuple #[v, .int .i64 (ent l k b).e]) ∧ Own w' w.heap.size 39 2 Itm.enc v (ent l k b).l ∧ Below w.heap.size w w' := by
    intro hk hor
    rw [ent_kind h0 hk]
    clear hk h0
    rcases hor with k1 | k1
    · go_enter Tryd.func20, Tryd.ntmps20
      go_wp2_with (go_at_call 25; refine (cC _ (Below.refl _ _)).mono ?_; rintro e w' ⟨rfl, rfl⟩)
      go_ret2
      exact ⟨_, rfl, Own.nil, Below.refl _ _⟩
    · have k2 : ¬ k < 1 := by omega
      go_enter Tryd.func20, Tryd.ntmps20
      go_wp2_with (go_at_call 25; refine (cC _ (Below.refl _ _)).mono ?_; rintro e w' ⟨rfl, rfl⟩)
      go_ret2
      exact ⟨_, rfl, Own.nil, Below.refl _ _⟩
  rcases kind_cases k with ⟨hk, k1, k2⟩ | ⟨hk, k1⟩ | ⟨hk, k1⟩
  rotate_left
  · exact kno hk (.inl k1)
  · exact kno hk (.inr k1)
  clear kno
  cases hbb : betwB b 0 65536
  · rw [ent_bits h0 hk hbb]
    have K1 := Lib.hid hk
    have K2 := Lib.hid hbb
    clear hk h0 hbb
    go_enter Tryd.func20, Tryd.ntmps20
    go_wp2_with (first | (go_at_call 25; refine (cC _ (Below.refl _ _)).mono ?_; rintro e w' ⟨rfl, rfl⟩) | (go_at_call 60; refine (within6_any _ _ _).mono ?_; rintro e w' ⟨rfl, rfl⟩; rw [K2.out]))
    go_ret2
    exact ⟨_, rfl, Own.nil, Below.refl _ _⟩
  obtain ⟨hl1, hf⟩ := ledE_zero.1 h0
  have K1 := Lib.hid hk
  have K2 := Lib.hid hbb
  have H0 := Lib.hid h0
  obtain ⟨b0, b1⟩ : 0 ≤ b ∧ b ≤ 65536 := by simpa [betwB] using hbb
  clear hk h0 hbb
  obtain ⟨i0, hi, hz0, hz1, hz2⟩ := iparts item_info
  have Hi := Lib.hid hi; have Hz0 := Lib.hid hz0; have Hz1 := Lib.hid hz1; have Hz2 := Lib.hid hz2
  clear hi hz0 hz1 hz2
  have Hf := Lib.hid hf
  clear hf
  rcases Nat.eq_zero_or_pos l.length with hl0 | hl0
  · obtain rfl : l = [] := List.eq_nil_of_length_eq_zero hl0
    rw [ent_nil K1.out K2.out]
    clear hl0
    go_enter Tryd.func20, Tryd.ntmps20
    go_wp2_with (first
      | (go_at_call 25; refine (cC _ (Below.refl _ _)).mono ?_; rintro e w' ⟨rfl, rfl⟩)
      | (go_at_call 60; refine (within6_any _ _ _).mono ?_; rintro e w' ⟨rfl, rfl⟩; rw [K2.out])
      | (at_builtin; refine wpList_app rfl _ _ 22 rfl w.heap.size 39 i0 _ 2 16 Tryd.underlying22 Hi.out Hz0.out Hz1.out Hz2.out rfl (by decide) Itm.enc_len Itm.one _ ([] : List Itm) [] A c w.heap.size rfl (own_empty w _ _ (Nat.le_refl _)) rfl Arr.nil hnil (by simp) (by decide) (by simp) ?_; intro v4 w4 own4 hb4)
      | (at_builtin; refine wpList_snoc rfl _ _ 22 rfl w.heap.size 39 i0 _ 2 16 Tryd.underlying22 Hi.out Hz0.out Hz1.out Hz2.out rfl (by decide) _ ([] : List Itm) ⟨k, b⟩ #[.int .i64 k, .int .i64 b] 39 rfl own4 rfl rfl rfl (Itm.one _) (by simp) (by decide) ((below_alloc (Below.refl w.heap.size w) _).trans hb4).size rfl ?_; intro v5 w5 own5 hb5))
    go_ret2
    exact ⟨_, rfl, own5, (below_alloc (Below.refl w.heap.size w) _).trans (hb4.trans hb5)⟩
  · obtain ⟨j, hj⟩ : ∃ j, j + 1 = l.length := ⟨l.length - 1, by omega⟩
    obtain ⟨bk, off, qk, qb, rfl, hbk, hq, c0, c1⟩ := h.itm (k := j) (by omega) (Below.refl _ _)
    have hE := ent_last H0.out K1.out K2.out (last_at hj hq.out)
    simp only at hE
    obtain ⟨_, q1, q2⟩ := first_all Hf.out hq.out
    simp only at q1 q2
    have ej : (l.length : Int) - 1 = (j : Int) := by omega
    have jl : j < l.length := by omega
    have lm : l.length - 1 = j := by omega
    rw [lm] at hE
    obtain ⟨n, hn⟩ : ∃ n : Nat, l.length + 1 = n := ⟨_, rfl⟩
    have en : (l.length : Int) + 1 = (n : Int) := by omega
    have n1 : n ≤ 1001 := by omega
    have Hn := Lib.hid hn; have Hj := Lib.hid hj; have Lm := Lib.hid lm
    have HE := Lib.hid hE
    clear hn hj lm hE
    have n0 : decide (0 ≤ (j : Int)) = true := by simp
    by_cases hqk : qk = k
    · have d1 : (qk == k) = true := by simpa using hqk
      by_cases hov : 65536 < qb + b
      · have f1 : ent l k b = .no 8 := by rw [HE.out, if_pos hqk, if_pos hov]
        rw [f1]
        clear f1
        have Hq := Lib.hid hqk
        clear hqk
        go_enter Tryd.func20, Tryd.ntmps20
        go_wp2_with (first
          | (go_at_call 25; refine (cC _ (Below.refl _ _)).mono ?_; rintro e w' ⟨rfl, rfl⟩)
          | (go_at_call 60; refine (within6_any _ _ _).mono ?_; rintro e w' ⟨rfl, rfl⟩; rw [K2.out])
          | (at_builtin; refine wpList_app rfl _ _ 22 rfl w.heap.size 39 i0 _ 2 16 Tryd.underlying22 Hi.out Hz0.out Hz1.out Hz2.out rfl (by decide) Itm.enc_len Itm.one _ ([] : List Itm) l _ c w.heap.size rfl (own_empty w _ _ (Nat.le_refl _)) rfl (h.keep (below_alloc (Below.refl _ _) _)) hnil (by simp; omega) (by decide) (by simp) ?_; intro v4 w4 own4 hb4; have q4 := (below_alloc (Below.refl w.heap.size w) _).trans hb4; have e0 := bel_cell q4 c0; have e1 := bel_cell q4 c1))
        go_ret2
        exact ⟨_, rfl, Own.nil, q4⟩
      · have f1 : ent l k b = .yes (l.set j ⟨k, qb + b⟩) := by rw [HE.out, if_pos hqk, if_neg hov]
        rw [f1]
        clear f1
        have Hq := Lib.hid hqk
        have hov' : decide (65536 < qb + b) = false := by simp; omega
        clear hqk hov
        go_enter Tryd.func20, Tryd.ntmps20
        go_wp2_with (first
          | (go_at_call 25; refine (cC _ (Below.refl _ _)).mono ?_; rintro e w' ⟨rfl, rfl⟩)
          | (go_at_call 60; refine (within6_any _ _ _).mono ?_; rintro e w' ⟨rfl, rfl⟩; rw [K2.out])
          | (at_builtin; refine wpList_app rfl _ _ 22 rfl w.heap.size 39 i0 _ 2 16 Tryd.underlying22 Hi.out Hz0.out Hz1.out Hz2.out rfl (by decide) Itm.enc_len Itm.one _ ([] : List Itm) l _ c w.heap.size rfl (own_empty w _ _ (Nat.le_refl _)) rfl (h.keep (below_alloc (Below.refl _ _) _)) hnil (by simp; omega) (by decide) (by simp) ?_; intro v4 w4 own4 hb4; have q4 := (below_alloc (Below.refl w.heap.size w) _).trans hb4; have e0 := bel_cell q4 c0; have e1 := bel_cell q4 c1; rw [List.nil_append] at own4; obtain ⟨g, cap, hv4, hg1, hg2⟩ := own_ptr own4 hl0; subst hv4; have x1 : w4.cell? ⟨g, j * 2 + 1, none⟩ = some (.int .i64 qb) := own4.atK rfl Itm.enc_len hq.out (j := 1) rfl; have x2 := own4.frK rfl (j * 2 + 1); have x3 := own4.setK (x' := ⟨k, qb + b⟩) rfl Itm.enc_len hq.out (j := 1) (u := .int .i64 (qb + b)) (by decide) (by simp [Itm.enc, Hq.out])))
        go_ret2
        exact ⟨_, rfl, x3, q4.setCell hg1 _⟩
    · have d1 : (qk == k) = false := by simpa using hqk
      by_cases hfu : l.length = 1000
      · have f1 : ent l k b = .no 5 := by rw [HE.out, if_neg hqk, if_pos hfu]
        rw [f1]
        clear f1
        have hfu' : ((l.length : Int) == 1000) = true := by simp; omega
        have Hfu := Lib.hid hfu
        clear hqk hfu
        go_enter Tryd.func20, Tryd.ntmps20
        go_wp2_with (first
          | (go_at_call 25; refine (cC _ (Below.refl _ _)).mono ?_; rintro e w' ⟨rfl, rfl⟩)
          | (go_at_call 60; refine (within6_any _ _ _).mono ?_; rintro e w' ⟨rfl, rfl⟩; rw [K2.out])
          | (at_builtin; refine wpList_app rfl _ _ 22 rfl w.heap.size 39 i0 _ 2 16 Tryd.underlying22 Hi.out Hz0.out Hz1.out Hz2.out rfl (by decide) Itm.enc_len Itm.one _ ([] : List Itm) l _ c w.heap.size rfl (own_empty w _ _ (Nat.le_refl _)) rfl (h.keep (below_alloc (Below.refl _ _) _)) hnil (by simp; omega) (by decide) (by simp) ?_; intro v4 w4 own4 hb4; have q4 := (below_alloc (Below.refl w.heap.size w) _).trans hb4; have e0 := bel_cell q4 c0; have e1 := bel_cell q4 c1))
        go_ret2
        exact ⟨_, rfl, Own.nil, q4⟩
      · have f1 : ent l k b = .yes (l ++ [⟨k, b⟩]) := by rw [HE.out, if_neg hqk, if_neg hfu]
        rw [f1]
        clear f1
        have hfu' : ((l.length : Int) == 1000) = false := by simp; omega
        have Hfu := Lib.hid hfu
        clear hqk hfu
        go_enter Tryd.func20, Tryd.ntmps20
        go_wp2_with (first
          | (go_at_call 25; refine (cC _ (Below.refl _ _)).mono ?_; rintro e w' ⟨rfl, rfl⟩)
          | (go_at_call 60; refine (within6_any _ _ _).mono ?_; rintro e w' ⟨rfl, rfl⟩; rw [K2.out])
          | (at_builtin; refine wpList_app rfl _ _ 22 rfl w.heap.size 39 i0 _ 2 16 Tryd.underlying22 Hi.out Hz0.out Hz1.out Hz2.out rfl (by decide) Itm.enc_len Itm.one _ ([] : List Itm) l _ c w.heap.size rfl (own_empty w _ _ (Nat.le_refl _)) rfl (h.keep (below_alloc (Below.refl _ _) _)) hnil (by simp; omega) (by decide) (by simp) ?_; intro v4 w4 own4 hb4; have q4 := (below_alloc (Below.refl w.heap.size w) _).trans hb4; have e0 := bel_cell q4 c0; have e1 := bel_cell q4 c1; rw [List.nil_append] at own4)
          | (at_builtin; refine wpList_snoc rfl _ _ 22 rfl w.heap.size 39 i0 _ 2 16 Tryd.underlying22 Hi.out Hz0.out Hz1.out Hz2.out rfl (by decide) _ l ⟨k, b⟩ #[.int .i64 k, .int .i64 b] 39 rfl own4 rfl rfl rfl (Itm.one _) (by omega) (by decide) q4.size rfl ?_; intro v5 w5 own5 hb5))
        go_ret2
        exact ⟨_, rfl, own5, q4.trans hb5⟩

end Go.Proofs.YtliekcfcdfakjaaDoor
