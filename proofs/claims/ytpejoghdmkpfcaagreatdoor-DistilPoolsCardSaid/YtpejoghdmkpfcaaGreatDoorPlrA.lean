/- The reference's pool in memory. -/
import Derived.Test.YtpejoghdmkpfcaaGreatDoorOncAll
import Derived.Test.YtpejoghdmkpfcaaGreatDoorPlrP
namespace Go.Proofs.YtpejoghdmkpfcaaGreatDoor
open Go.RowKit Go.Maps
set_option linter.unusedVariables false
set_option linter.unusedSimpArgs false

theorem own_down {α : Type} {w : World} {b b' e z : Nat} {enc : α → List Value} {v : Value} {l : List α} (h : b' ≤ b) (ho : Own w b e z enc v l) : Own w b' e z enc v l :=
  ⟨ho.1, ho.2.imp id fun ⟨g, cap, cur, h0, h1, h2⟩ => ⟨g, cap, cur, h0, Nat.le_trans h h1, h2⟩⟩
/-- The reference's pool: its struct is block q, its bits and its used numbers are the call's own from lo on. -/
structure RpAt (w : World) (lo q W : Nat) (vb vd : Value) (bits : List Bool) (d : List Nat) : Prop where
  wd : W = 8 ∨ W = 16 ∨ W = 32
  row : w.heap[q]? = some (.cells #[.int .i64 W, vb, vd] 86 (0, 0))
  ob : Own w lo 4 1 encB vb bits
  od : Own w lo 3 1 encN vd d
  qb : vb.ownBlock ≠ some q
  qd : vd.ownBlock ≠ some q
  bd : Ap vb vd
  ql : lo ≤ q
  bl : bits.length ≤ 65536
  dl : d.length ≤ 65536
section
variable {w w' : World} {lo q W : Nat} {vb vd : Value} {bits : List Bool} {d : List Nat}
theorem RpAt.lt (h : RpAt w lo q W vb vd bits d) : q < w.heap.size := (Array.getElem?_eq_some_iff.1 h.row).1
theorem RpAt.c0 (h : RpAt w lo q W vb vd bits d) : w.cell? ⟨q, 0, none⟩ = some (.int .i64 W) := cell_of_row _ _ _ _ _ _ h.row
theorem RpAt.c1 (h : RpAt w lo q W vb vd bits d) : w.cell? ⟨q, 1, none⟩ = some vb := cell_of_row _ _ _ _ _ _ h.row
theorem RpAt.c2 (h : RpAt w lo q W vb vd bits d) : w.cell? ⟨q, 2, none⟩ = some vd := cell_of_row _ _ _ _ _ _ h.row
theorem RpAt.fr (h : RpAt w lo q W vb vd bits d) (j : Nat) : w.frozen? ⟨q, j, none⟩ = false := frozen_of_row _ _ _ _ _ h.row
theorem RpAt.keep (h : RpAt w lo q W vb vd bits d) {row : Option Nat} (hg : w.grownBy w' row) (h1 : row ≠ some q) (h2 : vb.ownBlock = none ∨ vb.ownBlock ≠ row) (h3 : vd.ownBlock = none ∨ vd.ownBlock ≠ row) : RpAt w' lo q W vb vd bits d :=
  ⟨h.wd, (hg.block q h.lt (fun e => h1 e.symm)).trans h.row, h.ob.keep hg h2, h.od.keep hg h3, h.qb, h.qd, h.bd, h.ql, h.bl, h.dl⟩
theorem none_or {v : Value} : v.ownBlock = none ∨ v.ownBlock ≠ none := by cases v.ownBlock <;> simp
theorem RpAt.on (h : RpAt w lo q W vb vd bits d) (hb : Below w.heap.size w w') : RpAt w' lo q W vb vd bits d := h.keep (grown_of_below hb) (by simp) none_or none_or
/-- Another slice of used numbers is laid into it. -/
theorem RpAt.setD (h : RpAt w lo q W vb vd bits d) {vd' : Value} {d' : List Nat} (hg : w.grownBy w' vd.ownBlock) (hat : At w vd vd') (ho : Own w' lo 3 1 encN vd' d') (hl : d'.length ≤ 65536) : RpAt (w'.setCell ⟨q, 2, none⟩ vd') lo q W vb vd' bits d' := by
  have r2 : w'.heap[q]? = some (.cells #[.int .i64 W, vb, vd] 86 (0, 0)) := (hg.block q h.lt (fun e => h.qd e.symm)).trans h.row
  have nq : vd'.ownBlock ≠ some q := by
    rcases hat with hat | ⟨H, hat, hH⟩
    · rw [hat]; exact h.qd
    · rw [hat]; have := h.lt; simp; omega
  refine ⟨h.wd, heap_setCell_same w' q 2 _ _ _ r2, (own_new h.ob h.bd hg).keep (grown_setCell w' q 2 vd') (.inr h.qb), ho.keep (grown_setCell w' q 2 vd') (.inr nq), h.qb, nq, ap_new h.ob h.bd hat, h.ql, h.bl, hl⟩
/-- Other bits are laid into it. -/
theorem RpAt.setB {w0 : World} (h : RpAt w0 lo q W vb vd bits d) (hb : Below w0.heap.size w0 w) {vb' : Value} {bits' : List Bool} (ho : Own w w0.heap.size 4 1 encB vb' bits') (hlo : lo ≤ w0.heap.size) (hl : bits'.length ≤ 65536) : RpAt (w.setCell ⟨q, 1, none⟩ vb') lo q W vb' vd bits' d := by
  have h2 := h.on hb
  have nq : vb'.ownBlock ≠ some q := fun e => by
    have := (World.ownsRow.lt ho q e).1
    have := h.lt
    omega
  refine ⟨h.wd, heap_setCell_same w q 1 _ _ _ h2.row, own_down hlo (ho.keep (grown_setCell w q 1 vb') (.inr nq)), h2.od.keep (grown_setCell w q 1 vb') (.inr h.qd), nq, h.qd, ap_low h.od ho, h.ql, hl, h.dl⟩
end

theorem Arr.nat {w w' : World} {B : Nat} {A : Option Addr} {k : Nat} {l : List Nat} (h : Arr 1 encN w B A l) (hk : k < l.length) (hb : Below B w w') :
    ∃ b off x, A = some ⟨b, off, none⟩ ∧ b < B ∧ Hid (l[k]? = some x) ∧ w'.cell? ⟨b, off + k, none⟩ = some (.int .i64 (x : Int)) := by
  obtain ⟨b, off, rfl, hbb, hc⟩ := h.get hk hb
  exact ⟨b, off, _, rfl, hbb, Lib.hid (List.getElem?_eq_getElem hk), by simpa using hc 0 _ rfl⟩

section
variable {lo q W : Nat} {vb vd : Value} {bits : List Bool} {d : List Nat}
set_option maxRecDepth 100000 in
set_option maxHeartbeats 2000000 in
theorem rused_any (n : Int) (w : World) (h : RpAt w lo q W vb vd bits d) : Calls Tryz.prog 53 #[.pointer (some ⟨q, 0, none⟩), .int .i64 n] w fun e w' => e = .returned (.bool (hitL d n)) ∧ w = w' := by
  obtain ⟨A, c, hv, l1, l2, l3, ar⟩ := h.od.form encN_len
  have c2 := h.c2
  rw [hv] at c2
  have dl := h.dl
  have lt := h.lt
  clear h hv
  go_enter Tryz.func53, Tryz.ntmps53
  go_wp2_with fail
  go_loop [5] (fun i => ∃ k : Nat, k ≤ d.length ∧ i = .int .i64 k ∧ Hid (hitL (d.take k) n = false)) (fun i => d.length + 1 - (intOf i).toNat)
  case atStart => exact ⟨0, Nat.zero_le _, rfl, Lib.hid (by simp [hitL])⟩
  case round =>
    obtain ⟨k, hk, rfl, hp⟩ := hrel
    rcases Nat.lt_or_ge k d.length with hlt | hge
    · obtain ⟨b, off, x, rfl, hbb, hx, cx⟩ := ar.nat hlt (Below.refl _ _)
      obtain ⟨hc, hce⟩ : ∃ hc, ((x : Int) == n) = hc := ⟨_, rfl⟩
      cases hc
      · have hp2 := Lib.hid (hit_no hx.out hp.out hce)
        go_wp2
        exact ⟨⟨k + 1, by omega, by go_num, hp2⟩, by simp [intOf]; omega⟩
      · have hy := Lib.hid (hit_yes hx.out hce)
        go_wp2
        go_ret
        exact ⟨by rw [hy.out]; rfl, rfl⟩
    · have hkl : k = d.length := by omega
      subst hkl
      have hy : Hid (hitL d n = false) := Lib.hid (by have := hp.out; rwa [List.take_length] at this)
      go_wp2
      go_ret
      exact ⟨by rw [hy.out]; rfl, rfl⟩

set_option maxRecDepth 100000 in
set_option maxHeartbeats 2000000 in
theorem rRoom_any (w : World) (h : RpAt w lo q W vb vd bits d) : Calls Tryz.prog 21 #[.pointer (some ⟨q, 0, none⟩)] w fun e w' => e = .returned (.int .i64 ((bits.length / (2 * W) : Nat) : Int)) ∧ Below w.heap.size w w' := by
  obtain ⟨A, c, hv, l1, l2, l3, ar⟩ := h.ob.form encB_len
  have c1 := h.c1
  have c0 := h.c0
  rw [hv] at c1
  have wd := h.wd
  have bl := h.bl
  clear h hv
  obtain ⟨R, hR⟩ : ∃ R : Nat, bits.length / (2 * W) = R := ⟨_, rfl⟩
  rw [hR]
  rcases wd with rfl | rfl | rfl
  all_goals (
    go_enter Tryz.func21, Tryz.ntmps21
    go_wp2_with fail
    go_quiet (fail)
    go_wp2
    go_ret
    exact ⟨ret_int (by rw [← hR]; simp), below_dn1 _ _⟩)

theorem cellI1 (w : World) (T : Int) (ty : TypeId) : ∀ u, encI T = [u] → (w.alloc (.cells #[.int .i64 T] ty)).cell? ⟨w.heap.size, 0, none⟩ = some u := fun u hu => by
  obtain rfl : Value.int .i64 T = u := by simpa [encI] using hu
  exact new_cell rfl

set_option maxRecDepth 100000 in
set_option maxHeartbeats 4000000 in
theorem rUsed_any (w : World) (h : RpAt w lo q W vb vd bits d) : Calls Tryz.prog 23 #[.pointer (some ⟨q, 0, none⟩)] w fun e w' => ∃ v, e = .returned v ∧ Own w' w.heap.size 3 1 encI v (usedR (bits.length / (2 * W)) d) ∧ Below w.heap.size w w' := by
  obtain ⟨n0, ni, nz0, nz1, nz2⟩ := info_parts onc_int
  have Ni := Lib.hid ni; have Nz0 := Lib.hid nz0; have Nz1 := Lib.hid nz1; have Nz2 := Lib.hid nz2
  clear ni nz0 nz1 nz2
  have cR := fun w' (hb : Below w.heap.size w w') => rRoom_any w' (h.on hb)
  have cU := fun (k : Nat) w' (hb : Below w.heap.size w w') => rused_any (k : Int) w' (h.on hb)
  simp only [hitL_nat] at cU
  have hR : bits.length / (2 * W) ≤ 65536 := Nat.le_trans (Nat.div_le_self _ _) h.bl
  generalize bits.length / (2 * W) = R at *
  clear h
  go_enter Tryz.func23, Tryz.ntmps23
  go_wp2_with fail
  go_loopw [3, 4] (fun v i wr => ∃ k : Nat, k ≤ R ∧ i = .int .i64 k ∧ Own wr w.heap.size 3 1 encI v (usedR k d) ∧ Below w.heap.size w wr) (fun _ i _ => R + 1 - (intOf i).toNat)
  case atStart => exact ⟨0, Nat.zero_le _, rfl, Own.nil, Below.refl _ _⟩
  case round =>
    obtain ⟨k, hk, rfl, own, hb⟩ := hrel
    obtain ⟨w6, rfl⟩ : ∃ w6, w6 = wr := ⟨_, rfl⟩
    have ul := usedR_len k d
    rcases Nat.lt_or_ge k R with hlt | hge
    · have hs := usedR_succ k d
      go_wp2_with fail
      refine (cR _ hb).mono ?_
      rintro e w7 ⟨rfl, hb7⟩
      have q7 := below_trans hb hb7
      have own7 := own.below hb7
      go_wp2_with fail
      refine (cU k _ q7).mono ?_
      rintro e w8 ⟨rfl, rfl⟩
      by_cases hm : k ∈ d
      · rw [decide_eq_true hm]
        rw [if_pos hm] at hs
        have own8 := own7.below (below_alloc (Below.refl _ _) (.cells #[.int .i64 k] 3))
        have by3 : ((usedR k d).length + 1) * 8 ≤ 140737488355328 := by omega
        have sz : w.heap.size ≤ (w7.alloc (.cells #[.int .i64 k] 3)).heap.size := by simp; have := q7.size; omega
        have hc8 := cellI1 w7 k 3
        clear hm own
        go_wp2_with (at_builtin; refine wpList_snocG rfl _ _ 37 rfl w.heap.size 3 n0 _ 8 Tryz.underlying37 Ni.out Nz0.out Nz1.out Nz2.out rfl (enc := encI) _ (usedR k d) (k : Int) rfl own8 rfl hc8 rfl (encI_one _) by3 (by decide) sz ?_; intro v13 w13 own13 hg13 hat13)
        have q13 : Below w.heap.size w w13 := (below_alloc q7 (.cells #[.int .i64 k] 3)).grown hg13 sz (fun g hg => (World.ownsRow.lt own8 g hg).1)
        exact ⟨⟨k + 1, by omega, by go_num, by rw [hs]; exact own13, q13⟩, by simp [intOf]; omega⟩
      · rw [decide_eq_false hm]
        rw [if_neg hm, List.append_nil] at hs
        clear hm own
        go_wp2_with fail
        exact ⟨⟨k + 1, by omega, by go_num, by rw [hs]; exact own7, q7⟩, by simp [intOf]; omega⟩
    · have hkl : k = R := by omega
      subst hkl
      go_wp2_with fail
      refine (cR _ hb).mono ?_
      rintro e w7 ⟨rfl, hb7⟩
      have q7 := below_trans hb hb7
      have own7 := own.below hb7
      go_wp2_with fail
      go_ret
      exact ⟨_, rfl, own7, q7⟩

set_option maxRecDepth 100000 in
set_option maxHeartbeats 2000000 in
theorem rpNext_any (s : Int) (w : World) (h : RpAt w lo q W vb vd bits d) (db : ∀ x ∈ d, x < 70000) : Calls Tryz.prog 50 #[.pointer (some ⟨q, 0, none⟩), .int .i64 s] w fun e w' => e = .returned (.tuple #[.int .i64 (nxI W bits d.reverse s : Nat), .int .i64 (nxE W bits d.reverse s)]) ∧ Below w.heap.size w w' := by
  by_cases hs : s = 0 ∨ s = 1
  · obtain ⟨σ, rfl, hk⟩ : ∃ k : Nat, s = (k : Int) ∧ k ≤ 1 := by
      rcases hs with rfl | rfl
      · exact ⟨0, rfl, by decide⟩
      · exact ⟨1, rfl, by decide⟩
    have cR := fun w' (hb : Below w.heap.size w w') => rRoom_any w' (h.on hb)
    have eE : nxE W bits d.reverse (σ : Int) = if bits.length / (2 * W) ≤ nxtK d.reverse σ then 14 else 0 := by unfold nxE; rw [if_pos hs]; rfl
    have eI : nxI W bits d.reverse (σ : Int) = if nxE W bits d.reverse (σ : Int) = 0 then nxtK d.reverse σ else 0 := rfl
    obtain ⟨E, hE⟩ : ∃ E, nxE W bits d.reverse (σ : Int) = E := ⟨_, rfl⟩
    obtain ⟨I, hI⟩ : ∃ I, nxI W bits d.reverse (σ : Int) = I := ⟨_, rfl⟩
    rw [hI, hE] at eI
    rw [hE] at eE
    rw [hI, hE]
    generalize bits.length / (2 * W) = R at *
    have HE := Lib.hid eE
    have HI := Lib.hid eI
    have ways : (((σ : Int) != 0) = false) ∨ (((σ : Int) != 0) = true ∧ ((σ : Int) != 1) = false) := by
      rcases hs with h | h
      · left; simp; omega
      · right; simp; omega
    obtain ⟨A, c, hv, l1, l2, l3, ar⟩ := h.od.form encN_len
    have c2 := h.c2
    rw [hv] at c2
    have dl := h.dl
    clear hs eE eI hE hI h hv
    rcases ways with hw | ⟨hw, hw2⟩
    all_goals (
      go_enter Tryz.func50, Tryz.ntmps50
      go_wp2_with fail
      go_loop [6, 7] (fun K i => ∃ k κ : Nat, k ≤ d.length ∧ i = .int .i64 k ∧ K = .int .i64 κ ∧ κ ≤ 80000 ∧ Hid (nxtK (d.take k).reverse σ = κ)) (fun _ i => d.length + 1 - (intOf i).toNat)
      case atStart => exact ⟨0, σ, Nat.zero_le _, rfl, rfl, by omega, Lib.hid rfl⟩
      case round =>
        obtain ⟨k, κ, hk, rfl, rfl, hκ, hp⟩ := hrel
        rcases Nat.lt_or_ge k d.length with hlt | hge
        · obtain ⟨b, off, x, rfl, hbb, hx, cx⟩ := ar.nat hlt (Below.refl _ _)
          have hx7 := db x (List.mem_of_getElem? hx.out)
          have hst := nxt_step hx.out σ
          rw [hp.out] at hst
          by_cases hpar : x % 2 = σ
          · have e1 : ((x : Int) % 2 == (σ : Int)) = true := by simp; omega
            rw [if_pos hpar] at hst
            have HST := Lib.hid hst
            clear hst
            go_wp2
            exact ⟨⟨k + 1, max κ (x + 2), by omega, by go_num, congrArg (Value.int .i64) (by omega), by omega, HST⟩, by simp [intOf]; omega⟩
          · have e1 : ((x : Int) % 2 == (σ : Int)) = false := by simp; omega
            rw [if_neg hpar] at hst
            have HST := Lib.hid hst
            clear hst
            go_wp2
            exact ⟨⟨k + 1, κ, by omega, by go_num, rfl, hκ, HST⟩, by simp [intOf]; omega⟩
        · have hkl : k = d.length := by omega
          subst hkl
          have hfin : Hid (nxtK d.reverse σ = κ) := Lib.hid (by have := hp.out; rwa [List.take_length] at this)
          by_cases hr : R ≤ κ
          · have d1 : decide (R ≤ κ) = true := by simpa using hr
            go_wp2_with (go_at_call 21; refine (cR _ (Below.refl _ _)).mono ?_; rintro e w2 ⟨rfl, hb2⟩)
            go_ret2
            have e1 : E = 14 := by rw [HE.out, hfin.out, if_pos hr]
            have e2 : I = 0 := by rw [HI.out, e1]; rfl
            exact ⟨by rw [e1, e2]; rfl, hb2⟩
          · have d1 : decide (R ≤ κ) = false := by simpa using hr
            go_wp2_with (go_at_call 21; refine (cR _ (Below.refl _ _)).mono ?_; rintro e w2 ⟨rfl, hb2⟩)
            go_ret2
            have e1 : E = 0 := by rw [HE.out, hfin.out, if_neg hr]
            have e2 : I = κ := by rw [HI.out, e1, hfin.out]; rfl
            exact ⟨by rw [e1, e2]; rfl, hb2⟩)
  · have e1 : nxE W bits d.reverse s = 2 := by unfold nxE; rw [if_neg hs]
    have e2 : nxI W bits d.reverse s = 0 := by unfold nxI; rw [e1]; rfl
    have d1 : (s != 0) = true := by simp; omega
    have d2 : (s != 1) = true := by simp; omega
    rw [e1, e2]
    clear h e1 e2 hs
    go_enter Tryz.func50, Tryz.ntmps50
    go_wp2
    go_ret2
    exact ⟨rfl, Below.refl _ _⟩
end

end Go.Proofs.YtpejoghdmkpfcaaGreatDoor
