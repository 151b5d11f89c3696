/- Contract of exact's Bound. For any three numbers, a fraction of at most a million limbs. -/
import Derived.Test.YtbobbcfjjdmdgaaNatJ
import Derived.Deep.DeepCutAuto
namespace Go.Proofs.Ytbobbcfjjdmdgaa
open Go.RowKit
set_option linter.unusedVariables false
set_option linter.unusedSimpArgs false

/-- The greatest number up to hi, from lo on, that a search by halves finds. -/
def bs (p : Nat → Bool) (lo hi : Nat) : Nat :=
  if h : lo < hi then (if p ((lo + hi + 1) / 2) = true then bs p ((lo + hi + 1) / 2) hi else bs p lo ((lo + hi + 1) / 2 - 1)) else lo
termination_by hi - lo
theorem bs_yes {p : Nat → Bool} {lo hi : Nat} (h : lo < hi) (hp : p ((lo + hi + 1) / 2) = true) : bs p lo hi = bs p ((lo + hi + 1) / 2) hi := by rw [bs, dif_pos h, if_pos hp]
theorem bs_no {p : Nat → Bool} {lo hi : Nat} (h : lo < hi) (hp : p ((lo + hi + 1) / 2) = false) : bs p lo hi = bs p lo ((lo + hi + 1) / 2 - 1) := by rw [bs, dif_pos h, if_neg (by simp [hp])]
theorem bs_end {p : Nat → Bool} {lo hi : Nat} (h : hi ≤ lo) : bs p lo hi = lo := by rw [bs, dif_neg (by omega)]
theorem bs_between {p : Nat → Bool} {lo hi : Nat} (h : lo ≤ hi) : lo ≤ bs p lo hi ∧ bs p lo hi ≤ hi := by
  obtain ⟨n, hn⟩ : ∃ n, hi - lo = n := ⟨_, rfl⟩
  induction n using Nat.strongRecOn generalizing lo hi with
  | ind n ih =>
    rcases Nat.lt_or_ge lo hi with hlt | hge
    · cases hp : p ((lo + hi + 1) / 2)
      · rw [bs_no hlt hp]
        have := ih (((lo + hi + 1) / 2 - 1) - lo) (by omega) (by omega) rfl
        omega
      · rw [bs_yes hlt hp]
        have := ih (hi - (lo + hi + 1) / 2) (by omega) (by omega) rfl
        omega
    · rw [bs_end hge]; omega

def possB (total sample seen num den : Nat) (bad : Nat) : Bool := decide (num * ch total sample < waysN total bad sample seen * den)
/-- The error of a bound. -/
def boundE (t s n : Int) (f : Frc) : Int := if validE [f] ≠ 0 then validE [f] else if ¬ (0 ≤ t ∧ t ≤ 512 ∧ 0 ≤ s ∧ s ≤ t ∧ 0 ≤ n ∧ n ≤ s) then 3 else if V f.m ≤ V f.l then 2 else 0
def boundI (t s n : Int) (f : Frc) : Int := if boundE t s n f = 0 then (bs (possB t.toNat s.toNat n.toNat (V f.l) (V f.m)) n.toNat t.toNat : Nat) else 0

theorem box_new {w y : World} {v : Value} {T : TypeId} (h : Below (w.alloc (.cells #[v] T)).heap.size (w.alloc (.cells #[v] T)) y) : y.cell? ⟨w.heap.size, 0, none⟩ = some v ∧ y.frozen? ⟨w.heap.size, 0, none⟩ = false :=
  ⟨bel_cell h (new_cell rfl), (h.frozen (p := ⟨w.heap.size, 0, none⟩) (by simp)).trans (World.frozen?_alloc_at _ _ _ _ rfl)⟩
theorem box_newd {w y : World} {v : Value} {T : TypeId} (h : Below (w.alloc (.cells #[v] T)).drew.heap.size (w.alloc (.cells #[v] T)).drew y) : y.cell? ⟨w.heap.size, 0, none⟩ = some v ∧ y.frozen? ⟨w.heap.size, 0, none⟩ = false :=
  ⟨bel_cell h (new_cell (w := w) rfl), (h.frozen (p := ⟨w.heap.size, 0, none⟩) (by simp)).trans (World.frozen?_alloc_at (w := w) _ _ _ _ rfl)⟩
theorem box_on {w y : World} {v : Value} {a : Addr} (h : Below w.heap.size w y) (hc : w.cell? a = some v ∧ w.frozen? a = false) : y.cell? a = some v ∧ y.frozen? a = false :=
  ⟨bel_cell h hc.1, (h.frozen (World.block_lt_of_cell? w a hc.1)).trans hc.2⟩
theorem cell_set {w : World} {g : Nat} {v : Value} (h : w.cell? ⟨g, 0, none⟩ = some v) (u : Value) : (w.setCell ⟨g, 0, none⟩ u).cell? ⟨g, 0, none⟩ = some u := by
  go_simp
theorem nt_set {w : World} {base : Nat} {v : Value} {A : Option Addr} {k c n g : Nat} (hv : v = .slice A k c) (b : Big w base v n) (hlt : g < base) (u : Value) : Nt (w.setCell ⟨g, 0, none⟩ u) A c (limbs n) := by
  subst hv
  exact own_nt2 (Own.keep_lt b (grown_set _ _ _ _) hlt) (limbs_dig _)
theorem cell_al {w : World} {a : Addr} {v : Value} (h : w.cell? a = some v) (o : Obj) : (w.alloc o).cell? a = some v := by
  rw [World.cell?_alloc_lt w o a (World.block_lt_of_cell? w a h)]; exact h

set_option maxRecDepth 100000 in
set_option maxHeartbeats 4000000 in
theorem Bound1_any (total sample seen bad L : Nat) (p0 p1 p2 p3 p4 : Nat) (f : Frc) (A : Option Addr) (c : Nat) (w : World) (hf : f.In w) (ht : total ≤ 512) (hs : sample ≤ total) (hn : seen ≤ sample) (hb : bad ≤ total)
    (k0 : w.cell? ⟨p0, 0, none⟩ = some (.int .i64 (total : Int))) (k1 : w.cell? ⟨p1, 0, none⟩ = some (.int .i64 (sample : Int))) (k2 : w.cell? ⟨p2, 0, none⟩ = some (.int .i64 (seen : Int))) (k3 : w.cell? ⟨p3, 1, none⟩ = some (.slice f.C f.m.length f.d))
    (k4 : w.cell? ⟨p4, 0, none⟩ = some (.slice A (limbs L).length c)) (hL : Nt w A c (limbs L)) (a2 : f.m.length ≤ 900000) :
    Calls Try.prog 204 #[.int .i64 bad, .pointer (some ⟨p0, 0, none⟩), .pointer (some ⟨p1, 0, none⟩), .pointer (some ⟨p2, 0, none⟩), .pointer (some ⟨p3, 0, none⟩), .pointer (some ⟨p4, 0, none⟩)] w
      fun e w' => e = .returned (.bool (decide (L < waysN total bad sample seen * V f.m))) ∧ Below w.heap.size w w' := by
  have lw : (limbs (waysN total bad sample seen)).length ≤ 17 := ways_len (seen := 0) hb ht (by omega)
  have c1 := fun w' => ways_any total bad sample seen w' ht hb hs hn
  have c2 := fun w' (hb : Below w.heap.size w w') A c (hn : Nt w' A c (limbs (waysN total bad sample seen))) => times_any A c _ f.C f.d f.m w' hn (hf.on hb).d (by omega) (by omega)
  have c3 := fun w' (hb : Below w.heap.size w w') A' c' (n1 : Nt w' A' c' (limbs (waysN total bad sample seen * V f.m))) => order_any A' c' _ A c _ w' n1.arr (hL.on hb).arr n1.len n1.cap (hL.on hb).len (hL.on hb).cap n1.dig (hL.on hb).dig
  simp only [V_limbs] at c2 c3
  have L0 := fun w' (hb : Below w.heap.size w w') => bel_cell hb k0
  have L1 := fun w' (hb : Below w.heap.size w w') => bel_cell hb k1
  have L2 := fun w' (hb : Below w.heap.size w w') => bel_cell hb k2
  have L3 := fun w' (hb : Below w.heap.size w w') => bel_cell hb k3
  have L4 := fun w' (hb : Below w.heap.size w w') => bel_cell hb k4
  go_enter Try.func204, Try.ntmps204
  go_wp2_with fail
  go_region_held3 (fun w' => Below w.heap.size w w')
    (first | (exact (Below.refl _ _).drew) | (refine below_trans ?_ hx1; assumption) | (refine below_trans ?_ hx2; assumption) | (refine below_trans ?_ hx3; assumption))
    (first | (go_at_call 205; refine (c1 _).mono ?_; rintro e y1 ⟨v1, rfl, b1, hx1⟩; obtain ⟨A1, cc1, hv1, n1⟩ := b1.nt; rw [hv1]) | (go_at_call 118; refine (c2 _ ?hB _ _ n1).mono ?_; (case hB => assumption); rintro e y2 ⟨v2, rfl, b2, hx2⟩; obtain ⟨A2, cc2, hv2, n2⟩ := b2.nt; rw [hv2]) | (go_at_call 55; refine (c3 _ ?hB _ _ n2).mono ?_; (case hB => assumption); rintro e y3 ⟨rfl, hx3⟩))
  have e1 : decide (0 < cmpI (waysN total bad sample seen * V f.m) L) = decide (L < waysN total bad sample seen * V f.m) := by
    unfold cmpI
    rw [Bool.eq_iff_iff]
    simp only [decide_eq_true_eq]
    split
    · omega
    · split <;> omega
  go_wp2_with fail
  go_ret
  exact ⟨ret_bool e1, below_trans (below_trans (below_trans (Below.refl _ _).drew hx1) hx2) hx3⟩

set_option maxRecDepth 100000 in
set_option maxHeartbeats 4000000 in
theorem Bound_main (total sample seen : Nat) (f : Frc) (w : World) (hf : f.In w) (ht : total ≤ 512) (hs : sample ≤ total) (hn : seen ≤ sample) (hv : validE [f] = 0) (hlt : V f.l < V f.m) :
    Calls Try.prog 165 #[.int .i64 total, .int .i64 sample, .int .i64 seen, f.val] w fun e w' => e = .returned (.tuple #[.int .i64 (bs (possB total sample seen (V f.l) (V f.m)) seen total : Nat), .int .i64 0]) ∧ Below w.heap.size w w' := by
  obtain ⟨a1, a2⟩ := short1 hv
  unfold Frc.val
  have hb1 := below_alloc (below_alloc (below_alloc (below_alloc (Below.refl w.heap.size w) (.cells #[.int .i64 (total : Int)] 3)) (.cells #[.int .i64 (sample : Int)] 3)) (.cells #[.int .i64 (seen : Int)] 3)) (.cells #[.slice f.A f.l.length f.c, .slice f.C f.m.length f.d] 39)
  have hb0 := below_alloc hb1 (.cells #[.slice f.A f.l.length f.c, .slice f.C f.m.length f.d] 39)
  go_enter Try.func165, Try.ntmps165
  go_wp2_with fail
  have cV := valid_any (some ⟨w.heap.size + 1 + 1 + 1 + 1, 0, none⟩) 1 [f] _ (frc_lit ((((w.alloc (.cells #[.int .i64 (total : Int)] 3)).alloc (.cells #[.int .i64 (sample : Int)] 3)).alloc (.cells #[.int .i64 (seen : Int)] 3)).alloc (.cells #[.slice f.A f.l.length f.c, .slice f.C f.m.length f.d] 39)) f (by simp)) (in_one hf hb0) (by simp)
  rw [List.length_singleton, hv] at cV
  refine cV.mono ?_
  rintro e w3 ⟨rfl, hb3⟩
  have q3 := below_trans hb0 hb3
  have k0 : w3.cell? ⟨w.heap.size, 0, none⟩ = some (.int .i64 (total : Int)) := bel_cell hb3 (by go_simp)
  have k1 : w3.cell? ⟨w.heap.size + 1, 0, none⟩ = some (.int .i64 (sample : Int)) := bel_cell hb3 (by go_simp)
  have k2 : w3.cell? ⟨w.heap.size + 1 + 1, 0, none⟩ = some (.int .i64 (seen : Int)) := bel_cell hb3 (by go_simp)
  have k3 : w3.cell? ⟨w.heap.size + 1 + 1 + 1, 0, none⟩ = some (.slice f.A f.l.length f.c) := bel_cell hb3 (by go_simp)
  have k4 : w3.cell? ⟨w.heap.size + 1 + 1 + 1, 1, none⟩ = some (.slice f.C f.m.length f.d) := bel_cell hb3 (by go_simp)
  have sz3 : w.heap.size + 1 + 1 + 1 + 1 < w3.heap.size := by have := hb3.size; simp at this; omega
  have sn : decide (0 ≤ (total : Int) ∧ (total : Int) ≤ 512 ∧ 0 ≤ (sample : Int) ∧ (sample : Int) ≤ (total : Int)) = true := by simp; omega
  have fin := hf.on q3
  have cO := order_any f.A f.c f.l f.C f.d f.m w3 fin.n.arr fin.d.arr fin.n.len fin.n.cap fin.d.len fin.d.cap fin.n.dig fin.d.dig
  rw [cmpI_lt hlt] at cO
  clear cV hv
  go_wp2_with (first | (go_at_call 202; refine (sane_any _ _ _).mono ?_; rintro e w' ⟨rfl, rfl⟩; rw [sn]) | (go_at_call 55; refine (cO).mono ?_; rintro e w4 ⟨rfl, hb4⟩))
  have q4 := below_trans q3 hb4
  have sz4 : w.heap.size + 1 + 1 + 1 + 1 < w4.heap.size := by have := hb4.size; omega
  have m0 := bel_cell hb4 k0
  have m1 := bel_cell hb4 k1
  have m2 := bel_cell hb4 k2
  have m3 := bel_cell hb4 k3
  have m4 := bel_cell hb4 k4
  clear k0 k1 k2 k3 k4 cO sn fin
  have l1 := ch_len (n := total) (k := sample) ht
  have c1 := fun w' => choose_any total sample w' ht (by omega)
  have c2 := fun w' (hb : Below w4.heap.size w4 w') A c (hn : Nt w' A c (limbs (ch total sample))) => times_any f.A f.c f.l A c _ w' (hf.on (below_trans q4 hb)).n hn (by omega) (by omega)
  simp only [V_limbs] at c2
  have L0 := fun w' (hb : Below w4.heap.size w4 w') => bel_cell hb m0
  have L1 := fun w' (hb : Below w4.heap.size w4 w') => bel_cell hb m1
  have L3 := fun w' (hb : Below w4.heap.size w4 w') => bel_cell hb m3
  go_cut [11] (fun s11 wx => ∃ g A c, s11 = .pointer (some ⟨g, 0, none⟩) ∧ Below w4.heap.size w4 wx ∧ wx.cell? ⟨g, 0, none⟩ = some (.slice A (limbs (V f.l * ch total sample)).length c) ∧ Nt wx A c (limbs (V f.l * ch total sample)))
  case first =>
    go_region_held3 (fun w' => Below w4.heap.size w4 w')
      (first | (exact (Below.refl _ _).drew) | (exact (below_alloc (Below.refl _ _) _).drew) | (refine below_trans ?_ hx1; assumption) | (refine below_trans ?_ hx2; assumption) | (refine below_alloc ?_ _; assumption) | (exact Below.setCell (below_trans (below_trans (below_alloc (Below.refl _ _) _).drew hx1) hx2) (Nat.le_refl _) _) | (exact Below.setCell (p := ⟨y1.heap.size, 0, none⟩) (below_trans (below_alloc (below_trans (Below.refl _ _).drew hx1) _) hx2) hx1.size _) | (exact below_alloc (below_trans (below_trans (Below.refl _ _).drew hx1) hx2) _))
      (first | (go_at_call 203; refine (c1 _).mono ?_; rintro e y1 ⟨v1, rfl, b1, hx1⟩; (try have bz1 := box_newd hx1); obtain ⟨A1, cc1, hv1, n1⟩ := b1.nt; rw [hv1]) | (go_at_call 118; refine (c2 _ ?hB _ _ n1).mono ?_; (case hB => assumption); rintro e y2 ⟨v2, rfl, b2, hx2⟩; (try have bz2 := box_on hx2 bz1); obtain ⟨A2, cc2, hv2, n2⟩ := b2.nt; rw [hv2]) | (go_at_call 118; refine (c2 _ ?hB _ _ (n1.on (below_alloc (Below.refl _ _) _))).mono ?_; (case hB => assumption); rintro e y2 ⟨v2, rfl, b2, hx2⟩; (have bz2 := box_new hx2); obtain ⟨A2, cc2, hv2, n2⟩ := b2.nt; rw [hv2]))
    all_goals (
      go_wp2_with fail
      go_meet
      case rel => first
        | exact ⟨_, _, _, rfl, below_alloc (below_trans (below_trans (Below.refl _ _).drew hx1) hx2) _, new_cell rfl, n2.on (below_alloc (Below.refl _ _) _)⟩
        | exact ⟨_, _, _, rfl, Below.setCell (below_trans (below_trans (below_alloc (Below.refl _ _) _).drew hx1) hx2) (Nat.le_refl _) _, cell_set bz2.1 _, nt_set hv2 b2 (by have := hx1.size; simp at this; omega) _⟩
        | exact ⟨_, _, _, rfl, Below.setCell (p := ⟨y1.heap.size, 0, none⟩) (below_trans (below_alloc (below_trans (Below.refl _ _).drew hx1) _) hx2) hx1.size _, cell_set bz2.1 _, nt_set hv2 b2 (by simp) _⟩)
  obtain ⟨g5, A2, cc2, rfl, hb5, n5', nt7⟩ := hcut
  have q7 := below_trans q4 hb5
  have n0 := bel_cell hb5 m0
  have n1' := bel_cell hb5 m1
  have n2' := bel_cell hb5 m2
  have n3' := bel_cell hb5 m3
  have n4' := bel_cell hb5 m4
  have e2 := later_cell n2'
  have e0 := later_cell n0
  clear c1 c2 m0 m1 m2 m3 m4 L0 L1 L3
  go_wp2_with fail
  (refine wp_region_later (by kernel_rfl) (by kernel_rfl) ?_; (repeat (go_big_quiet_step (fail))); refine wpQuiet_nil ?_; rintro w8 ⟨⟨_, hb8⟩, rfl⟩)
  clear e2 e0
  have r0 := bel_cell hb8 n0
  have r1 := bel_cell hb8 n1'
  have r2 := bel_cell hb8 n2'
  have r3 := bel_cell hb8 n3'
  have r4 := bel_cell hb8 n4'
  have r5 := bel_cell hb8 n5'
  have q8 := below_trans q7 hb8
  have nt8 := nt7.on hb8
  clear n0 n1' n2' n3' n4' n5' nt7
  go_wp2_with fail
  go_loopw [13, 14] (fun a b wr => ∃ lo hi : Nat, lo ≤ hi ∧ hi ≤ total ∧ a = .int .i64 lo ∧ b = .int .i64 hi ∧ bs (possB total sample seen (V f.l) (V f.m)) lo hi = bs (possB total sample seen (V f.l) (V f.m)) seen total ∧ Below w8.heap.size w8 wr) (fun a b _ => (intOf b).toNat - (intOf a).toNat)
  case atStart => exact ⟨seen, total, by omega, Nat.le_refl _, rfl, rfl, rfl, Below.refl _ _⟩
  case round =>
    obtain ⟨lo, hi, h1, h2, rfl, rfl, hv, hb⟩ := hrel
    have Hv := Lib.hid hv
    clear hv
    by_cases hlh : lo < hi
    · obtain ⟨s, hs1⟩ : ∃ s : Nat, (lo : Int) + (hi : Int) + 1 = (s : Int) := ⟨lo + hi + 1, by omega⟩
      obtain ⟨mid, hm1⟩ : ∃ mid : Nat, (s : Int) / 2 = (mid : Int) := ⟨s / 2, by omega⟩
      have hme : Hid ((lo + hi + 1) / 2 = mid) := Lib.hid (by omega)
      have hm2 : mid ≤ total := by omega
      have qr := below_trans q8 hb
      have cB := Bound1_any total sample seen mid (V f.l * ch total sample) _ _ _ _ _ f A2 cc2 wr (hf.on qr) ht hs hn hm2 (bel_cell hb r0) (bel_cell hb r1) (bel_cell hb r2) (bel_cell hb r4) (bel_cell hb r5) (nt8.on hb) (by omega)
      change Calls _ _ _ _ fun e w' => e = .returned (.bool (possB total sample seen (V f.l) (V f.m) mid)) ∧ _ at cB
      cases hp : possB total sample seen (V f.l) (V f.m) mid
      · rw [hp] at cB
        have hst := bs_no (p := possB total sample seen (V f.l) (V f.m)) hlh (by rw [hme.out]; exact hp)
        rw [hme.out] at hst
        have Hst := Lib.hid hst
        clear hst hp
        go_wp2_with (go_at_call 204; refine (cB).mono ?_; rintro e w9 ⟨rfl, hb9⟩)
        go_roundw
        case rel => first | exact ⟨lo, mid - 1, by have := hme.out; omega, by omega, rfl, by go_num, by rw [← Hst.out]; exact Hv.out, below_trans hb hb9⟩ | ((repeat apply Exists.intro); exact ⟨⟨lo, mid - 1, by have := hme.out; omega, by omega, rfl, by go_num, by rw [← Hst.out]; exact Hv.out, below_trans hb hb9⟩, rfl⟩)
        case measure => (simp [intOf] <;> omega)
      · rw [hp] at cB
        have hst := bs_yes (p := possB total sample seen (V f.l) (V f.m)) hlh (by rw [hme.out]; exact hp)
        rw [hme.out] at hst
        have Hst := Lib.hid hst
        clear hst hp
        go_wp2_with (go_at_call 204; refine (cB).mono ?_; rintro e w9 ⟨rfl, hb9⟩)
        go_roundw
        case rel => first | exact ⟨mid, hi, by have := hme.out; omega, h2, rfl, rfl, by rw [← Hst.out]; exact Hv.out, below_trans hb hb9⟩ | ((repeat apply Exists.intro); exact ⟨⟨mid, hi, by have := hme.out; omega, h2, rfl, rfl, by rw [← Hst.out]; exact Hv.out, below_trans hb hb9⟩, rfl⟩)
        case measure => (simp [intOf] <;> omega)
    · obtain rfl : lo = hi := by omega
      go_wp2_with fail
      go_ret2
      have := Hv.out
      rw [bs_end (Nat.le_refl _)] at this
      exact ⟨by rw [← this]; rfl, below_trans q8 hb⟩

end Go.Proofs.Ytbobbcfjjdmdgaa
