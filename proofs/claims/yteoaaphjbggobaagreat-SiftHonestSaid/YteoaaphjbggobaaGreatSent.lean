/- Contracts of Sent, the program's and the reference's, and of the test of two bit strings that read alike. For at most 4096 slots. -/
import Derived.Test.YteoaaphjbggobaaGreatSlots
namespace Go.Proofs.YteoaaphjbggobaaGreat
open Go.RowKit
set_option linter.unusedVariables false
set_option linter.unusedSimpArgs false

theorem sntE1 {p : List Pls} {l : List Int} (h : allE Pls.ok p ≠ 0) : sntE p l = allE Pls.ok p ∧ sntL p l = [] := by simp [sntL, sntE, h]
theorem sntE3 {p : List Pls} {l : List Int} (h : allE Pls.ok p = 0) (h2 : slotsE l 0 (p.length - 1) ≠ 0) : sntE p l = slotsE l 0 (p.length - 1) ∧ sntL p l = [] := by simp [sntL, sntE, h, h2]
theorem sntE4 {p : List Pls} {l : List Int} (h : allE Pls.ok p = 0) (h2 : slotsE l 0 (p.length - 1) = 0) : sntE p l = 0 ∧ sntL p l = l.map (bitAt p) := by simp [sntL, sntE, h, h2]
theorem map_at {α β : Type} {l : List α} {k : Nat} {x : α} (f : α → β) (h : l[k]? = some x) : (l.map f)[k]? = some (f x) := by simp [h]

set_option maxRecDepth 100000 in
set_option maxHeartbeats 2000000 in
theorem Sent_main (A : Option Addr) (n : Nat) (p : List Pls) (C : Option Addr) (m : Nat) (l : List Int) (w : World) (hA : Arr 5 Pls.enc w w.heap.size A p) (hC : Arr 1 encI w w.heap.size C l) (hl : l.length ≤ 4096)
    (h0 : allE Pls.ok p = 0) (h2 : slotsE l 0 (p.length - 1) = 0) :
    Calls Tryz.prog 24 #[.slice A p.length n, .slice C l.length m] w fun e w' => ∃ v, e = .returned (.tuple #[v, .int .i64 0]) ∧ Own w' w.heap.size 4 1 encB v (l.map (bitAt p)) ∧ Below w.heap.size w w' := by
  have hlen := (allE_zero.1 h0).1
  obtain ⟨i0, hi, hz0, hz1, hz2⟩ := info_parts bool_info
  have H0 := Lib.hid h0; have H2 := Lib.hid h2
  clear h0 h2
  obtain ⟨L, hL⟩ : ∃ L, l.map (bitAt p) = L := ⟨_, rfl⟩
  have hLl : Hid (L.length = l.length) := Lib.hid (by rw [← hL]; simp)
  have HL := Lib.hid hL
  rw [hL]
  clear hL
  go_enter Tryz.func24, Tryz.ntmps24
  go_wp2_with (first
    | (go_at_call 63; refine (checkPulses_any A n p _ hA (by omega)).mono ?_; rintro e w2 ⟨rfl, hb2⟩; rw [H0.out])
    | (go_at_call 65; refine (checkSlots_any C m l 0 _ _ (hC.on hb2) (by omega)).mono ?_; rintro e w' ⟨rfl, rfl⟩; rw [H2.out])
    | (at_make; refine wpList_mk rfl _ _ 22 rfl 4 i0 _ 1 Tryz.underlying22 hi hz0 hz1 hz2 rfl Value.bool false rfl _ _ _ _ l.length rfl rfl rfl rfl (by omega) (by unfold maxLen; omega) ?_; intro w3 hown3 hb3))
  have hsz2 := hb2.size
  go_loopw [29] (fun i wr => ∃ k : Nat, k ≤ l.length ∧ i = .int .i64 k ∧ Own wr w.heap.size 4 1 encB (.slice (some ⟨w2.heap.size, 0, none⟩) l.length l.length) (fill L false k) ∧ Below w.heap.size w wr) (fun i _ => l.length - (intOf i).toNat)
  case atStart => exact ⟨0, Nat.zero_le _, rfl, by rw [fill_zero, hLl.out]; exact hown3.down hsz2, below_trans hb2 hb3⟩
  case round =>
    obtain ⟨k, hk, rfl, hown, hb⟩ := hrel
    have hfl : Hid ((fill L false k).length = l.length) := Lib.hid (by rw [fill_len _ _ (by rw [hLl.out]; exact hk), hLl.out])
    by_cases hlt : k < l.length
    · obtain ⟨bk, off, x, rfl, hbb, hq, c0⟩ := hC.int hlt hb
      have hr := rise_range H2.out hq.out
      obtain ⟨j, rfl⟩ : ∃ j : Nat, x = (j : Int) := ⟨x.toNat, by simp [idI] at hr; omega⟩
      have hjl : j < p.length := by simp [idI] at hr; omega
      clear hr
      obtain ⟨bk2, off2, pb, pbit, pc, pph, ps, rfl, hbb2, hp, p0, p1, p2, p3, p4⟩ := hA.pls hjl hb
      have d0 := Own.at1 (f := Value.bool) hown hfl.out (fill_at false (by rw [hLl.out]; exact hlt))
      have d1 := Own.fr1 (f := Value.bool) hown hfl.out k
      have Hs : Hid (Own (wr.setCell ⟨w2.heap.size, k, none⟩ (.bool pbit)) w.heap.size 4 1 encB (.slice (some ⟨w2.heap.size, 0, none⟩) l.length l.length) (fill L false (k + 1))) := Lib.hid (by
        have hx : L[k]? = some pbit := by rw [← HL.out, map_at _ hq.out, bitAt_of hp.out]
        rw [← fill_set false hx]
        exact Own.set1 (f := Value.bool) hown hfl.out k pbit)
      go_wp2
      go_roundw
      case rel => exact ⟨k + 1, by omega, by go_num, Hs.out, hb.setCell hsz2 _⟩
      case measure => simp [intOf]; omega
    · go_wp2
      go_ret2
      exact ⟨_, rfl, by rw [fill_all L false (by rw [hLl.out]; omega)] at hown; exact hown, hb⟩

set_option maxRecDepth 100000 in
set_option maxHeartbeats 2000000 in
theorem Sent_any (A : Option Addr) (n : Nat) (p : List Pls) (C : Option Addr) (m : Nat) (l : List Int) (w : World) (hA : Arr 5 Pls.enc w w.heap.size A p) (hC : Arr 1 encI w w.heap.size C l) (hp : p.length ≤ 4611686018427387904) (hl : l.length ≤ 4096) :
    Calls Tryz.prog 24 #[.slice A p.length n, .slice C l.length m] w fun e w' => ∃ v, e = .returned (.tuple #[v, .int .i64 (sntE p l)]) ∧ Own w' w.heap.size 4 1 encB v (sntL p l) ∧ Below w.heap.size w w' := by
  by_cases h0 : allE Pls.ok p = 0
  · by_cases h2 : slotsE l 0 (p.length - 1) = 0
    · obtain ⟨e1, e2⟩ := sntE4 h0 h2
      rw [e1, e2]
      exact Sent_main A n p C m l w hA hC hl h0 h2
    · obtain ⟨e1, e2⟩ := sntE3 h0 h2
      rw [e1, e2]
      have H0 := Lib.hid h0
      have h2' : (slotsE l 0 (p.length - 1) != 0) = true := by simpa using h2
      clear h0 h2 e1 e2
      go_enter Tryz.func24, Tryz.ntmps24
      go_wp2_with (first
        | (go_at_call 63; refine (checkPulses_any A n p _ hA hp).mono ?_; rintro e w2 ⟨rfl, hb2⟩; rw [H0.out])
        | (go_at_call 65; refine (checkSlots_any C m l 0 _ _ (hC.on hb2) (by omega)).mono ?_; rintro e w' ⟨rfl, rfl⟩))
      go_ret2
      exact ⟨_, rfl, Own.nil, hb2⟩
  · obtain ⟨e1, e2⟩ := sntE1 (l := l) h0
    rw [e1, e2]
    have h0' : (allE Pls.ok p != 0) = true := by simpa using h0
    clear e1 e2
    go_enter Tryz.func24, Tryz.ntmps24
    go_wp2_with (go_at_call 63; refine (checkPulses_any A n p _ hA hp).mono ?_; rintro e w2 ⟨rfl, hb2⟩)
    go_ret2
    exact ⟨_, rfl, Own.nil, hb2⟩

end Go.Proofs.YteoaaphjbggobaaGreat
