/- Contracts of Class and Sent, the program's and the reference's. For at most 4096 slots. -/
import Derived.Test.YtfodlpiidlajeaaMatch
import Derived.Test.YtfodlpiidlajeaaMade
namespace Go.Proofs.Ytfodlpiidlajeaa
open Go.RowKit
set_option linter.unusedVariables false
set_option linter.unusedSimpArgs false

theorem bool_info : (Try.prog.info? 4).map (fun i => (i.zero, i.size, i.bytes)) = some (some (.bool false), 1, 1) := by kernel_rfl

def clsAt (p : List Pls) (s : Int) : Int := (p[s.toNat]?.map Pls.cls).getD 0
def bitAt (p : List Pls) (s : Int) : Bool := (p[s.toNat]?.map Pls.bit).getD false
def clsTo (p : List Pls) (l : List Int) (c : Int) (k : Nat) : List Int := (l.take k).filter fun s => decide (clsAt p s = c)
def clsE (p : List Pls) (l : List Int) (c : Int) : Int := if allE Pls.ok p ≠ 0 then allE Pls.ok p else if betwB c 0 2 = false then 2 else slotsE l 0 (p.length - 1)
def clsL (p : List Pls) (l : List Int) (c : Int) : List Int := if clsE p l c = 0 then clsTo p l c l.length else []
def sntE (p : List Pls) (l : List Int) : Int := if allE Pls.ok p ≠ 0 then allE Pls.ok p else slotsE l 0 (p.length - 1)
def sntL (p : List Pls) (l : List Int) : List Bool := if sntE p l = 0 then l.map (bitAt p) else []
theorem clsTo_hit {p : List Pls} {l : List Int} {c : Int} {k : Nat} {x : Int} (hx : l[k]? = some x) (h : clsAt p x = c) : clsTo p l c (k + 1) = clsTo p l c k ++ [x] := by
  simp [clsTo, take_snoc hx, List.filter_append, h]
theorem clsTo_miss {p : List Pls} {l : List Int} {c : Int} {k : Nat} {x : Int} (hx : l[k]? = some x) (h : ¬ clsAt p x = c) : clsTo p l c (k + 1) = clsTo p l c k := by
  simp [clsTo, take_snoc hx, List.filter_append, h]
theorem clsTo_le (p : List Pls) (l : List Int) (c : Int) (k : Nat) : (clsTo p l c k).length ≤ k := by
  have := List.length_filter_le (fun s => decide (clsAt p s = c)) (l.take k)
  simp only [List.length_take] at this; unfold clsTo; omega
theorem clsL_le (p : List Pls) (l : List Int) (c : Int) : (clsL p l c).length ≤ l.length := by
  unfold clsL; split
  · exact clsTo_le _ _ _ _
  · simp
theorem sntL_le (p : List Pls) (l : List Int) : (sntL p l).length ≤ l.length := by unfold sntL; split <;> simp
theorem clsAt_of {p : List Pls} {j : Nat} {pb : Int} {pbit : Bool} {pc pph : Int} {ps : Bool} (h : p[j]? = some ⟨pb, pbit, pc, pph, ps⟩) : clsAt p (j : Int) = pc := by simp [clsAt, h]
theorem bitAt_of {p : List Pls} {j : Nat} {pb : Int} {pbit : Bool} {pc pph : Int} {ps : Bool} (h : p[j]? = some ⟨pb, pbit, pc, pph, ps⟩) : bitAt p (j : Int) = pbit := by simp [bitAt, h]

set_option maxRecDepth 100000 in
set_option maxHeartbeats 2000000 in
theorem Class_main (A : Option Addr) (n : Nat) (p : List Pls) (C : Option Addr) (m : Nat) (l : List Int) (f : Int) (w : World) (hA : Arr 5 Pls.enc w w.heap.size A p) (hC : Arr 1 encI w w.heap.size C l) (hl : l.length ≤ 4096)
    (h0 : allE Pls.ok p = 0) (h1 : betwB f 0 2 = true) (h2 : slotsE l 0 (p.length - 1) = 0) :
    Calls Try.prog 32 #[.slice A p.length n, .slice C l.length m, .int .i64 f] w fun e w' => ∃ v, e = .returned (.tuple #[v, .int .i64 0]) ∧ Own w' w.heap.size 3 1 encI v (clsTo p l f l.length) ∧ Below w.heap.size w w' := by
  have hlen := (allE_zero.1 h0).1
  obtain ⟨i0, hi, hz0, hz1, hz2⟩ := info_parts int_info
  have H0 := Lib.hid h0; have H1 := Lib.hid h1; have H2 := Lib.hid h2
  clear h0 h1 h2
  go_enter Try.func32, Try.ntmps32
  go_wp2_with (first
    | (go_at_call 73; refine (checkPulses_any A n p _ hA (by omega)).mono ?_; rintro e w2 ⟨rfl, hb2⟩; rw [H0.out])
    | (go_at_call 64; refine (between_any _ _ _ _).mono ?_; rintro e w' ⟨rfl, rfl⟩; rw [H1.out])
    | (go_at_call 76; refine (checkSlots_any C m l 0 _ _ (hC.on hb2) (by omega)).mono ?_; rintro e w' ⟨rfl, rfl⟩; rw [H2.out]))
  go_loopw [10, 31] (fun v i wr => ∃ k : Nat, k ≤ l.length ∧ i = .int .i64 k ∧ Own wr w.heap.size 3 1 encI v (clsTo p l f k) ∧ Below w.heap.size w wr) (fun _ i _ => l.length - (intOf i).toNat)
  case atStart => exact ⟨0, Nat.zero_le _, rfl, Own.nil, hb2⟩
  case round =>
    obtain ⟨k, hk, rfl, hown, hb⟩ := hrel
    have hle := clsTo_le p l f k
    by_cases hlt : k < l.length
    · obtain ⟨bk, off, x, rfl, hbb, hq, c0⟩ := hC.int hlt hb
      have hr := rise_range H2.out hq.out
      obtain ⟨j, rfl⟩ : ∃ j : Nat, x = (j : Int) := ⟨x.toNat, by simp [idI] at hr; omega⟩
      have hjl : j < p.length := by simp [idI] at hr; omega
      clear hr
      obtain ⟨bk2, off2, pb, pbit, pc, pph, ps, rfl, hbb2, hp, p0, p1, p2, p3, p4⟩ := hA.pls hjl hb
      by_cases hcl : pc = f
      · have g : (pc == f) = true := by simpa using hcl
        have Hc : Hid (clsAt p (j : Int) = f) := Lib.hid ((clsAt_of hp.out).trans hcl)
        clear hcl
        go_wp2_with (at_builtin; refine wpList_snoc rfl _ _ 41 rfl w.heap.size 3 i0 _ 1 8 Try.underlying41 hi hz0 hz1 hz2 rfl (by decide) _ (clsTo p l f k) (j : Int) #[.int .i64 (j : Int)] 3 rfl hown rfl rfl rfl (encI_one _) (by omega) (by decide) hb.size rfl ?_; intro v' w5 hown5 hb5)
        go_roundw
        case rel => exact ⟨k + 1, by omega, by go_num, by rw [clsTo_hit hq.out Hc.out]; exact hown5, hb.trans hb5⟩
        case measure => simp [intOf]; omega
      · have g : (pc == f) = false := by simpa using hcl
        have Hc : Hid (¬ clsAt p (j : Int) = f) := Lib.hid (by rw [clsAt_of hp.out]; exact hcl)
        clear hcl
        go_wp2
        go_roundw
        case rel => exact ⟨k + 1, by omega, by go_num, by rw [clsTo_miss hq.out Hc.out]; exact hown, hb⟩
        case measure => simp [intOf]; omega
    · go_wp2
      go_ret2
      obtain rfl : k = l.length := by omega
      exact ⟨_, rfl, hown, hb⟩

set_option maxRecDepth 100000 in
set_option maxHeartbeats 2000000 in
theorem refClass_main (A : Option Addr) (n : Nat) (p : List Pls) (C : Option Addr) (m : Nat) (l : List Int) (f : Int) (w : World) (hA : Arr 5 Pls.enc w w.heap.size A p) (hC : Arr 1 encI w w.heap.size C l) (hl : l.length ≤ 4096)
    (h0 : allE Pls.ok p = 0) (h1 : betwB f 0 2 = true) (h2 : slotsE l 0 (p.length - 1) = 0) :
    Calls Try.prog 33 #[.slice A p.length n, .slice C l.length m, .int .i64 f] w fun e w' => ∃ v, e = .returned (.tuple #[v, .int .i64 0]) ∧ Own w' w.heap.size 3 1 encI v (clsTo p l f l.length) ∧ Below w.heap.size w w' := by
  have hlen := (allE_zero.1 h0).1
  obtain ⟨i0, hi, hz0, hz1, hz2⟩ := info_parts int_info
  have H0 := Lib.hid h0; have H1 := Lib.hid h1; have H2 := Lib.hid h2
  clear h0 h1 h2
  go_enter Try.func33, Try.ntmps33
  go_wp2_with (first
    | (go_at_call 25; refine (refPulses_any A n p _ hA (by omega)).mono ?_; rintro e w' ⟨rfl, rfl⟩; rw [H0.out])
    | (go_at_call 67; refine (within_any _ _ _).mono ?_; rintro e w' ⟨rfl, rfl⟩; rw [H1.out])
    | (go_at_call 77; refine (refSlots_any C m l 0 _ _ hC (by omega)).mono ?_; rintro e w2 ⟨rfl, hb2⟩; rw [H2.out]))
  go_loopw [8, 9] (fun v i wr => ∃ k : Nat, k ≤ l.length ∧ i = .int .i64 k ∧ Own wr w.heap.size 3 1 encI v (clsTo p l f k) ∧ Below w.heap.size w wr) (fun _ i _ => l.length - (intOf i).toNat)
  case atStart => exact ⟨0, Nat.zero_le _, rfl, Own.nil, hb2⟩
  case round =>
    obtain ⟨k, hk, rfl, hown, hb⟩ := hrel
    have hle := clsTo_le p l f k
    by_cases hlt : k < l.length
    · obtain ⟨bk, off, x, rfl, hbb, hq, c0⟩ := hC.int hlt hb
      have hr := rise_range H2.out hq.out
      obtain ⟨j, rfl⟩ : ∃ j : Nat, x = (j : Int) := ⟨x.toNat, by simp [idI] at hr; omega⟩
      have hjl : j < p.length := by simp [idI] at hr; omega
      clear hr
      obtain ⟨bk2, off2, pb, pbit, pc, pph, ps, rfl, hbb2, hp, p0, p1, p2, p3, p4⟩ := hA.pls hjl hb
      by_cases hcl : pc = f
      · have g : (pc == f) = true := by simpa using hcl
        have Hc : Hid (clsAt p (j : Int) = f) := Lib.hid ((clsAt_of hp.out).trans hcl)
        clear hcl
        go_wp2_with (at_builtin; refine wpList_snoc rfl _ _ 41 rfl w.heap.size 3 i0 _ 1 8 Try.underlying41 hi hz0 hz1 hz2 rfl (by decide) _ (clsTo p l f k) (j : Int) #[.int .i64 (j : Int)] 3 rfl hown rfl rfl rfl (encI_one _) (by omega) (by decide) hb.size rfl ?_; intro v' w5 hown5 hb5)
        go_roundw
        case rel => exact ⟨k + 1, by omega, by go_num, by rw [clsTo_hit hq.out Hc.out]; exact hown5, hb.trans hb5⟩
        case measure => simp [intOf]; omega
      · have g : (pc == f) = false := by simpa using hcl
        have Hc : Hid (¬ clsAt p (j : Int) = f) := Lib.hid (by rw [clsAt_of hp.out]; exact hcl)
        clear hcl
        go_wp2
        go_roundw
        case rel => exact ⟨k + 1, by omega, by go_num, by rw [clsTo_miss hq.out Hc.out]; exact hown, hb⟩
        case measure => simp [intOf]; omega
    · go_wp2
      go_ret2
      obtain rfl : k = l.length := by omega
      exact ⟨_, rfl, hown, hb⟩

theorem clsE1 {p : List Pls} {l : List Int} {f : Int} (h : allE Pls.ok p ≠ 0) : clsE p l f = allE Pls.ok p ∧ clsL p l f = [] := by simp [clsL, clsE, h]
theorem clsE2 {p : List Pls} {l : List Int} {f : Int} (h : allE Pls.ok p = 0) (h1 : betwB f 0 2 = false) : clsE p l f = 2 ∧ clsL p l f = [] := by simp [clsL, clsE, h, h1]
theorem clsE3 {p : List Pls} {l : List Int} {f : Int} (h : allE Pls.ok p = 0) (h1 : betwB f 0 2 = true) (h2 : slotsE l 0 (p.length - 1) ≠ 0) : clsE p l f = slotsE l 0 (p.length - 1) ∧ clsL p l f = [] := by simp [clsL, clsE, h, h1, h2]
theorem clsE4 {p : List Pls} {l : List Int} {f : Int} (h : allE Pls.ok p = 0) (h1 : betwB f 0 2 = true) (h2 : slotsE l 0 (p.length - 1) = 0) : clsE p l f = 0 ∧ clsL p l f = clsTo p l f l.length := by simp [clsL, clsE, h, h1, h2]

set_option maxRecDepth 100000 in
set_option maxHeartbeats 2000000 in
theorem Class_any (A : Option Addr) (n : Nat) (p : List Pls) (C : Option Addr) (m : Nat) (l : List Int) (f : Int) (w : World) (hA : Arr 5 Pls.enc w w.heap.size A p) (hC : Arr 1 encI w w.heap.size C l) (hp : p.length ≤ 4611686018427387904) (hl : l.length ≤ 4096) :
    Calls Try.prog 32 #[.slice A p.length n, .slice C l.length m, .int .i64 f] w fun e w' => ∃ v, e = .returned (.tuple #[v, .int .i64 (clsE p l f)]) ∧ Own w' w.heap.size 3 1 encI v (clsL p l f) ∧ Below w.heap.size w w' := by
  by_cases h0 : allE Pls.ok p = 0
  · cases h1 : betwB f 0 2
    · obtain ⟨e1, e2⟩ := clsE2 (l := l) h0 h1
      rw [e1, e2]
      have H0 := Lib.hid h0; have H1 := Lib.hid h1
      clear h0 h1 e1 e2
      go_enter Try.func32, Try.ntmps32
      go_wp2_with (first
        | (go_at_call 73; refine (checkPulses_any A n p _ hA hp).mono ?_; rintro e w2 ⟨rfl, hb2⟩; rw [H0.out])
        | (go_at_call 64; refine (between_any _ _ _ _).mono ?_; rintro e w' ⟨rfl, rfl⟩; rw [H1.out]))
      go_ret2
      exact ⟨_, rfl, Own.nil, hb2⟩
    · by_cases h2 : slotsE l 0 (p.length - 1) = 0
      · obtain ⟨e1, e2⟩ := clsE4 h0 h1 h2
        rw [e1, e2]
        exact Class_main A n p C m l f w hA hC hl h0 h1 h2
      · obtain ⟨e1, e2⟩ := clsE3 h0 h1 h2
        rw [e1, e2]
        have H0 := Lib.hid h0; have H1 := Lib.hid h1
        have h2' : (slotsE l 0 (p.length - 1) != 0) = true := by simpa using h2
        clear h0 h1 h2 e1 e2
        go_enter Try.func32, Try.ntmps32
        go_wp2_with (first
          | (go_at_call 73; refine (checkPulses_any A n p _ hA hp).mono ?_; rintro e w2 ⟨rfl, hb2⟩; rw [H0.out])
          | (go_at_call 64; refine (between_any _ _ _ _).mono ?_; rintro e w' ⟨rfl, rfl⟩; rw [H1.out])
          | (go_at_call 76; refine (checkSlots_any C m l 0 _ _ (hC.on hb2) (by omega)).mono ?_; rintro e w' ⟨rfl, rfl⟩))
        go_ret2
        exact ⟨_, rfl, Own.nil, hb2⟩
  · obtain ⟨e1, e2⟩ := clsE1 (l := l) (f := f) h0
    rw [e1, e2]
    have h0' : (allE Pls.ok p != 0) = true := by simpa using h0
    clear e1 e2
    go_enter Try.func32, Try.ntmps32
    go_wp2_with (go_at_call 73; refine (checkPulses_any A n p _ hA hp).mono ?_; rintro e w2 ⟨rfl, hb2⟩)
    go_ret2
    exact ⟨_, rfl, Own.nil, hb2⟩

set_option maxRecDepth 100000 in
set_option maxHeartbeats 2000000 in
theorem refClass_any (A : Option Addr) (n : Nat) (p : List Pls) (C : Option Addr) (m : Nat) (l : List Int) (f : Int) (w : World) (hA : Arr 5 Pls.enc w w.heap.size A p) (hC : Arr 1 encI w w.heap.size C l) (hp : p.length ≤ 4611686018427387904) (hl : l.length ≤ 4096) :
    Calls Try.prog 33 #[.slice A p.length n, .slice C l.length m, .int .i64 f] w fun e w' => ∃ v, e = .returned (.tuple #[v, .int .i64 (clsE p l f)]) ∧ Own w' w.heap.size 3 1 encI v (clsL p l f) ∧ Below w.heap.size w w' := by
  by_cases h0 : allE Pls.ok p = 0
  · cases h1 : betwB f 0 2
    · obtain ⟨e1, e2⟩ := clsE2 (l := l) h0 h1
      rw [e1, e2]
      have H0 := Lib.hid h0; have H1 := Lib.hid h1
      clear h0 h1 e1 e2
      go_enter Try.func33, Try.ntmps33
      go_wp2_with (first
        | (go_at_call 25; refine (refPulses_any A n p _ hA hp).mono ?_; rintro e w' ⟨rfl, rfl⟩; rw [H0.out])
        | (go_at_call 67; refine (within_any _ _ _).mono ?_; rintro e w' ⟨rfl, rfl⟩; rw [H1.out]))
      go_ret2
      exact ⟨_, rfl, Own.nil, Below.refl _ _⟩
    · by_cases h2 : slotsE l 0 (p.length - 1) = 0
      · obtain ⟨e1, e2⟩ := clsE4 h0 h1 h2
        rw [e1, e2]
        exact refClass_main A n p C m l f w hA hC hl h0 h1 h2
      · obtain ⟨e1, e2⟩ := clsE3 h0 h1 h2
        rw [e1, e2]
        have H0 := Lib.hid h0; have H1 := Lib.hid h1
        have h2' : (slotsE l 0 (p.length - 1) != 0) = true := by simpa using h2
        clear h0 h1 h2 e1 e2
        go_enter Try.func33, Try.ntmps33
        go_wp2_with (first
          | (go_at_call 25; refine (refPulses_any A n p _ hA hp).mono ?_; rintro e w' ⟨rfl, rfl⟩; rw [H0.out])
          | (go_at_call 67; refine (within_any _ _ _).mono ?_; rintro e w' ⟨rfl, rfl⟩; rw [H1.out]))
        refine (refSlots_any C m l 0 _ _ hC (by omega)).mono ?_
        rintro e w3 ⟨rfl, hb3⟩
        go_wp2_with fail
        refine (refSlots_any C m l 0 _ _ (hC.on hb3) (by omega)).mono ?_
        rintro e w4 ⟨rfl, hb4⟩
        go_wp2_with fail
        go_ret2
        exact ⟨_, rfl, Own.nil, below_trans hb3 hb4⟩
  · obtain ⟨e1, e2⟩ := clsE1 (l := l) (f := f) h0
    rw [e1, e2]
    have h0' : (allE Pls.ok p != 0) = true := by simpa using h0
    clear e1 e2
    go_enter Try.func33, Try.ntmps33
    go_wp2_with (go_at_call 25; refine (refPulses_any A n p _ hA hp).mono ?_; rintro e w' ⟨rfl, rfl⟩)
    go_ret2
    exact ⟨_, rfl, Own.nil, Below.refl _ _⟩

end Go.Proofs.Ytfodlpiidlajeaa
