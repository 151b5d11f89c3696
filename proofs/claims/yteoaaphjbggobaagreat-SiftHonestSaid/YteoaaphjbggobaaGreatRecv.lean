/- Contracts of Received, the program's and the reference's. For at most 4096 slots. -/
import Derived.Test.YteoaaphjbggobaaGreatSent
namespace Go.Proofs.YteoaaphjbggobaaGreat
open Go.RowKit
set_option linter.unusedVariables false
set_option linter.unusedSimpArgs false

def kindAt (c : List Clk) (j : Int) : Int := (c[j.toNat]?.map Clk.kind).getD 0
def rcvB (c : List Clk) (s : Int) (i : Int) : Bool := decide (kindAt c (i + s) = 2)
def rcvS (c : List Clk) (s : Int) (i : Int) : Bool := singleB (kindAt c (i + s))
def rcvE (c : List Clk) (s : Int) (l : List Int) : Int := if allE Clk.ok c ≠ 0 then allE Clk.ok c else if betwB s (-16) 16 = false then 3 else if slotsE l (max 0 (-s)) (c.length - 1 - s) ≠ 0 then slotsE l (max 0 (-s)) (c.length - 1 - s) else if l.all (rcvS c s) = true then 0 else 9
def rcvL (c : List Clk) (s : Int) (l : List Int) : List Bool := if rcvE c s l = 0 then l.map (rcvB c s) else []
theorem rcvL_le (c : List Clk) (s : Int) (l : List Int) : (rcvL c s l).length ≤ l.length := by unfold rcvL; split <;> simp
theorem kindAt_of {c : List Clk} {x : Int} {j : Nat} {qb qk : Int} (h : c[j]? = some ⟨qb, qk⟩) (e : x = (j : Int)) : kindAt c x = qk := by subst e; simp [kindAt, h]

def rcv9 (c : List Clk) (s : Int) (l : List Int) : Int := if l.all (rcvS c s) = true then 0 else 9
def rcvM (c : List Clk) (s : Int) (l : List Int) : List Bool := if l.all (rcvS c s) = true then l.map (rcvB c s) else []
theorem rcv_no {c : List Clk} {s : Int} {l : List Int} {k : Nat} {x : Int} (hx : l[k]? = some x) (h : rcvS c s x = false) : rcv9 c s l = 9 ∧ rcvM c s l = [] := by
  simp only [rcv9, rcvM, all_no hx h]; simp
theorem rcv_yes {c : List Clk} {s : Int} {l : List Int} {k : Nat} (hk : l.length ≤ k) (h : (l.take k).all (rcvS c s) = true) : rcv9 c s l = 0 ∧ rcvM c s l = l.map (rcvB c s) := by
  rw [List.take_of_length_le hk] at h; simp only [rcv9, rcvM, h]; simp
theorem rcvE1 {c : List Clk} {s : Int} {l : List Int} (h : allE Clk.ok c ≠ 0) : rcvE c s l = allE Clk.ok c ∧ rcvL c s l = [] := by simp [rcvL, rcvE, h]
theorem rcvE2 {c : List Clk} {s : Int} {l : List Int} (h : allE Clk.ok c = 0) (h1 : betwB s (-16) 16 = false) : rcvE c s l = 3 ∧ rcvL c s l = [] := by simp [rcvL, rcvE, h, h1]
theorem rcvE3 {c : List Clk} {s : Int} {l : List Int} (h : allE Clk.ok c = 0) (h1 : betwB s (-16) 16 = true) (h2 : slotsE l (max 0 (-s)) (c.length - 1 - s) ≠ 0) : rcvE c s l = slotsE l (max 0 (-s)) (c.length - 1 - s) ∧ rcvL c s l = [] := by simp [rcvL, rcvE, h, h1, h2]
theorem rcvE4 {c : List Clk} {s : Int} {l : List Int} (h : allE Clk.ok c = 0) (h1 : betwB s (-16) 16 = true) (h2 : slotsE l (max 0 (-s)) (c.length - 1 - s) = 0) : rcvE c s l = rcv9 c s l ∧ rcvL c s l = rcvM c s l := by
  have e : rcvE c s l = rcv9 c s l := by simp [rcvE, rcv9, h, h1, h2]
  refine ⟨e, ?_⟩
  unfold rcvL rcvM
  rw [e]; unfold rcv9
  by_cases ha : l.all (rcvS c s) = true
  · simp only [ha]; simp
  · simp only [ha]; simp
theorem max_cases (s : Int) : (0 ≤ s ∧ max 0 (-s) = 0) ∨ (s < 0 ∧ max 0 (-s) = -s) := by omega

set_option maxRecDepth 100000 in
set_option maxHeartbeats 4000000 in
theorem Received_main (A : Option Addr) (n : Nat) (c : List Clk) (s : Int) (C : Option Addr) (m : Nat) (l : List Int) (w : World) (hA : Arr 2 Clk.enc w w.heap.size A c) (hC : Arr 1 encI w w.heap.size C l) (hl : l.length ≤ 4096)
    (h0 : allE Clk.ok c = 0) (h1 : betwB s (-16) 16 = true) (h2 : slotsE l (max 0 (-s)) (c.length - 1 - s) = 0) :
    Calls Tryz.prog 25 #[.slice A c.length n, .int .i64 s, .slice C l.length m] w fun e w' => ∃ v, e = .returned (.tuple #[v, .int .i64 (rcv9 c s l)]) ∧ Own w' w.heap.size 4 1 encB v (rcvM c s l) ∧ Below w.heap.size w w' := by
  have hlen := (allE_zero.1 h0).1
  obtain ⟨i0, hi, hz0, hz1, hz2⟩ := info_parts bool_info
  have H0 := Lib.hid h0; have H1 := Lib.hid h1; have H3 := Lib.hid h2
  simp only [betwB, decide_eq_true_eq] at h1
  obtain ⟨s1, s2⟩ := h1
  obtain ⟨L, hL⟩ : ∃ L, l.map (rcvB c s) = L := ⟨_, rfl⟩
  have hLl : Hid (L.length = l.length) := Lib.hid (by rw [← hL]; simp)
  have HL := Lib.hid hL
  clear h0 hL
  rcases max_cases s with ⟨hs, e⟩ | ⟨hs, e⟩
  all_goals
    rw [e] at h2
    have H2 := Lib.hid h2
    clear h2 e
    go_enter Tryz.func25, Tryz.ntmps25
    go_wp2_with (first
      | (go_at_call 61; refine (checkClicks_any A n c _ hA (by omega)).mono ?_; rintro e w2 ⟨rfl, hb2⟩; rw [H0.out])
      | (go_at_call 60; refine (shiftable_any _ _).mono ?_; rintro e w' ⟨rfl, rfl⟩; rw [H1.out])
      | (go_at_call 65; refine (checkSlots_any C m l _ _ _ (hC.on hb2) (by omega)).mono ?_; rintro e w' ⟨rfl, rfl⟩; rw [H2.out])
      | (at_make; refine wpList_mk rfl _ _ 22 rfl 4 i0 _ 1 Tryz.underlying22 hi hz0 hz1 hz2 rfl Value.bool false rfl _ _ _ _ l.length rfl rfl rfl rfl (by omega) (by unfold maxLen; omega) ?_; intro w3 hown3 hb3))
    have hsz2 := hb2.size
    go_loopw [39] (fun i wr => ∃ k : Nat, k ≤ l.length ∧ i = .int .i64 k ∧ (l.take k).all (rcvS c s) = true ∧ Own wr w.heap.size 4 1 encB (.slice (some ⟨w2.heap.size, 0, none⟩) l.length l.length) (fill L false k) ∧ Below w.heap.size w wr) (fun i _ => l.length - (intOf i).toNat)
    case atStart => exact ⟨0, Nat.zero_le _, rfl, by simp, by rw [fill_zero, hLl.out]; exact hown3.down hsz2, below_trans hb2 hb3⟩
    case round =>
      obtain ⟨k, hk, rfl, hall, hown, hb⟩ := hrel
      have Hall := Lib.hid hall; clear hall
      have hfl : Hid ((fill L false k).length = l.length) := Lib.hid (by rw [fill_len _ _ (by rw [hLl.out]; exact hk), hLl.out])
      by_cases hlt : k < l.length
      · obtain ⟨bk, off, x, rfl, hbb, hq, c0⟩ := hC.int hlt hb
        have hr := rise_range H3.out hq.out
        obtain ⟨j, hj⟩ : ∃ j : Nat, x + s = (j : Int) := ⟨(x + s).toNat, by simp [idI] at hr; omega⟩
        have hjl : j < c.length := by simp [idI] at hr; omega
        have x1 : 0 ≤ x := by simp [idI] at hr; omega
        have x2 : x ≤ 8192 := by simp [idI] at hr; omega
        clear hr
        obtain ⟨bk2, off2, qb, qk, rfl, hbb2, hp, p0, p1⟩ := hA.clk hjl hb
        have Hk := Lib.hid (kindAt_of hp.out hj)
        cases hsg : singleB qk
        · have Hs := Lib.hid hsg; clear hsg
          have Hn : Hid (rcvS c s x = false) := Lib.hid (by unfold rcvS; rw [Hk.out]; exact Hs.out)
          go_wp2_with (go_at_call 62; refine (single_any _ _ _).mono ?_; rintro e w4 ⟨rfl, hb4⟩; rw [Hs.out])
          go_ret2
          exact ⟨_, by rw [(rcv_no hq.out Hn.out).1]; rfl, by rw [(rcv_no hq.out Hn.out).2]; exact Own.nil, below_trans hb hb4⟩
        · have Hs := Lib.hid hsg; clear hsg
          have Hn : Hid (rcvS c s x = true) := Lib.hid (by unfold rcvS; rw [Hk.out]; exact Hs.out)
          go_wp2_with (go_at_call 62; refine (single_any _ _ _).mono ?_; rintro e w4 ⟨rfl, hb4⟩; rw [Hs.out]; have p1' := bel_cell hb4 p1; have d0 := Own.at1 (f := Value.bool) (hown.below hb4) hfl.out (fill_at false (by rw [hLl.out]; exact hlt)); have d1 := Own.fr1 (f := Value.bool) (hown.below hb4) hfl.out k)
          have hx : L[k]? = some (decide (qk = 2)) := by rw [← HL.out, map_at _ hq.out]; unfold rcvB; rw [Hk.out]
          have Hf := Lib.hid (Own.set1 (f := Value.bool) (hown.below hb4) hfl.out k (decide (qk = 2)))
          go_roundw
          case rel => exact ⟨k + 1, by omega, by go_num, all_take hq.out Hall.out Hn.out, by rw [← fill_set false hx]; exact Hf.out, (below_trans hb hb4).setCell hsz2 _⟩
          case measure => simp [intOf]; omega
      · go_wp2
        go_ret2
        exact ⟨_, by rw [(rcv_yes (by omega) Hall.out).1]; rfl, by rw [(rcv_yes (by omega) Hall.out).2, HL.out]; rw [fill_all L false (by rw [hLl.out]; omega)] at hown; exact hown, hb⟩

set_option maxRecDepth 100000 in
set_option maxHeartbeats 4000000 in
theorem Received_any (A : Option Addr) (n : Nat) (c : List Clk) (s : Int) (C : Option Addr) (m : Nat) (l : List Int) (w : World) (hA : Arr 2 Clk.enc w w.heap.size A c) (hC : Arr 1 encI w w.heap.size C l) (hcl : c.length ≤ 4611686018427387904) (hl : l.length ≤ 4096) :
    Calls Tryz.prog 25 #[.slice A c.length n, .int .i64 s, .slice C l.length m] w fun e w' => ∃ v, e = .returned (.tuple #[v, .int .i64 (rcvE c s l)]) ∧ Own w' w.heap.size 4 1 encB v (rcvL c s l) ∧ Below w.heap.size w w' := by
  by_cases h0 : allE Clk.ok c = 0
  · cases h1 : betwB s (-16) 16
    · obtain ⟨e1, e2⟩ := rcvE2 (l := l) h0 h1
      rw [e1, e2]
      have H0 := Lib.hid h0; have H1 := Lib.hid h1
      clear h0 h1 e1 e2
      go_enter Tryz.func25, Tryz.ntmps25
      go_wp2_with (first
        | (go_at_call 61; refine (checkClicks_any A n c _ hA hcl).mono ?_; rintro e w2 ⟨rfl, hb2⟩; rw [H0.out])
        | (go_at_call 60; refine (shiftable_any _ _).mono ?_; rintro e w' ⟨rfl, rfl⟩; rw [H1.out]))
      go_ret2
      exact ⟨_, rfl, Own.nil, hb2⟩
    · by_cases h2 : slotsE l (max 0 (-s)) (c.length - 1 - s) = 0
      · obtain ⟨e1, e2⟩ := rcvE4 h0 h1 h2
        rw [e1, e2]
        exact Received_main A n c s C m l w hA hC hl h0 h1 h2
      · obtain ⟨e1, e2⟩ := rcvE3 h0 h1 h2
        rw [e1, e2]
        have hlen := (allE_zero.1 h0).1
        have H0 := Lib.hid h0; have H1 := Lib.hid h1
        simp only [betwB, decide_eq_true_eq] at h1
        obtain ⟨s1, s2⟩ := h1
        clear h0 e1 e2
        rcases max_cases s with ⟨hs, e⟩ | ⟨hs, e⟩
        · rw [e] at h2 ⊢
          have h2' : (slotsE l 0 (c.length - 1 - s) != 0) = true := by simpa using h2
          clear h2 e
          go_enter Tryz.func25, Tryz.ntmps25
          go_wp2_with (first
            | (go_at_call 61; refine (checkClicks_any A n c _ hA (by omega)).mono ?_; rintro e w2 ⟨rfl, hb2⟩; rw [H0.out])
            | (go_at_call 60; refine (shiftable_any _ _).mono ?_; rintro e w' ⟨rfl, rfl⟩; rw [H1.out])
            | (go_at_call 65; refine (checkSlots_any C m l _ _ _ (hC.on hb2) (by omega)).mono ?_; rintro e w' ⟨rfl, rfl⟩))
          go_ret2
          exact ⟨_, rfl, Own.nil, hb2⟩
        · rw [e] at h2 ⊢
          have h2' : (slotsE l (-s) (c.length - 1 - s) != 0) = true := by simpa using h2
          clear h2 e
          go_enter Tryz.func25, Tryz.ntmps25
          go_wp2_with (first
            | (go_at_call 61; refine (checkClicks_any A n c _ hA (by omega)).mono ?_; rintro e w2 ⟨rfl, hb2⟩; rw [H0.out])
            | (go_at_call 60; refine (shiftable_any _ _).mono ?_; rintro e w' ⟨rfl, rfl⟩; rw [H1.out])
            | (go_at_call 65; refine (checkSlots_any C m l _ _ _ (hC.on hb2) (by omega)).mono ?_; rintro e w' ⟨rfl, rfl⟩))
          go_ret2
          exact ⟨_, rfl, Own.nil, hb2⟩
  · obtain ⟨e1, e2⟩ := rcvE1 (s := s) (l := l) h0
    rw [e1, e2]
    have h0' : (allE Clk.ok c != 0) = true := by simpa using h0
    clear e1 e2
    go_enter Tryz.func25, Tryz.ntmps25
    go_wp2_with (go_at_call 61; refine (checkClicks_any A n c _ hA hcl).mono ?_; rintro e w2 ⟨rfl, hb2⟩)
    go_ret2
    exact ⟨_, rfl, Own.nil, hb2⟩

end Go.Proofs.YteoaaphjbggobaaGreat
