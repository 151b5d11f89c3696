/- Contract of sift.Known. For at most 4096 notes and slots. -/
import Derived.Test.YtfodlpiidlajeaaSpy2
import Derived.Test.YtfodlpiidlajeaaSent
namespace Go.Proofs.Ytfodlpiidlajeaa
open Go.RowKit
set_option linter.unusedVariables false
set_option linter.unusedSimpArgs false

def knwE (p : List Pls) (l : List Nte) (s : List Int) : Int := if sntE p s ≠ 0 then sntE p s else ndE p l
def knwN (p : List Pls) (l : List Nte) (s : List Int) : Nat := if knwE p l s = 0 then cntTo (ndL p l) s s.length else 0
theorem knw1 {p : List Pls} {l : List Nte} {s : List Int} (h : allE Pls.ok p ≠ 0) : knwE p l s = allE Pls.ok p ∧ knwN p l s = 0 := by
  have := sntE1 (l := s) h; simp [knwN, knwE, this.1, h]
theorem knw2 {p : List Pls} {l : List Nte} {s : List Int} (h : allE Pls.ok p = 0) (h2 : slotsE s 0 (p.length - 1) ≠ 0) : knwE p l s = slotsE s 0 (p.length - 1) ∧ knwN p l s = 0 := by
  have := sntE3 h h2; simp [knwN, knwE, this.1, h2]
theorem knw3 {p : List Pls} {l : List Nte} {s : List Int} (h : allE Pls.ok p = 0) (h2 : slotsE s 0 (p.length - 1) = 0) (h3 : ndE p l ≠ 0) : knwE p l s = ndE p l ∧ knwN p l s = 0 := by
  have := sntE4 h h2; simp [knwN, knwE, this.1, h3]
theorem knw4 {p : List Pls} {l : List Nte} {s : List Int} (h : allE Pls.ok p = 0) (h2 : slotsE s 0 (p.length - 1) = 0) (h3 : ndE p l = 0) : knwE p l s = 0 ∧ knwN p l s = cntTo (ndL p l) s s.length := by
  have := sntE4 h h2; simp [knwN, knwE, this.1, h3]

/-- All before place k are less than slot j. -/
def Ahead (L s : List Int) (k j : Nat) : Prop := ∀ x, s[j]? = some x → ∀ z ∈ L.take k, z < x
theorem ahead_zero (L s : List Int) (j : Nat) : Ahead L s 0 j := by intro x _ z hz; simp at hz
theorem ahead_next {L s : List Int} {k j : Nat} {x b : Int} (h : ∀ z ∈ L.take k, z < x) (hx : s[j]? = some x) (hr : slotsE s 0 b = 0) : Ahead L s k (j + 1) := by
  intro y hy
  have := rise_lt hr hy hx
  exact take_lt_mono h this

set_option maxRecDepth 100000 in
set_option maxHeartbeats 4000000 in
theorem Known_main (A : Option Addr) (n : Nat) (p : List Pls) (C : Option Addr) (m : Nat) (l : List Nte) (D : Option Addr) (o : Nat) (s : List Int) (w : World) (hA : Arr 5 Pls.enc w w.heap.size A p) (hC : Arr 4 Nte.enc w w.heap.size C l) (hD : Arr 1 encI w w.heap.size D s)
    (hl : l.length ≤ 4096) (hs : s.length ≤ 4096) (h0 : allE Pls.ok p = 0) (h2 : slotsE s 0 (p.length - 1) = 0) (h3 : ndE p l = 0) :
    Calls Try.prog 39 #[.slice A p.length n, .slice C l.length m, .slice D s.length o] w fun e w' => e = .returned (.tuple #[.int .i64 (cntTo (ndL p l) s s.length), .int .i64 0]) ∧ Below w.heap.size w w' := by
  have hlen := (allE_zero.1 h0).1
  have H0 := Lib.hid h0; have H2 := Lib.hid h2; have H3 := Lib.hid h3
  have hso := Lib.hid (ndL_sorted p l)
  have hLl := ndL_le p l
  go_enter Try.func39, Try.ntmps39
  go_wp2_with (first
    | (go_at_call 73; refine (checkPulses_any A n p _ hA (by omega)).mono ?_; rintro e w2 ⟨rfl, hb2⟩; rw [H0.out])
    | (go_at_call 76; refine (checkSlots_any D o s 0 _ _ (hD.on hb2) (by omega)).mono ?_; rintro e w' ⟨rfl, rfl⟩; rw [H2.out])
    | (go_at_call 80; refine (Knows_any A n p C m l _ (hA.on hb2) (hC.on hb2) hl h0).mono ?_; rintro e w3 ⟨v3, rfl, hown3, hb3⟩; rw [H3.out]; obtain ⟨E, c3, rfl, _, _, _, hE⟩ := Own.form hown3 encI_len))
  clear hown3 h0 h2 h3
  obtain ⟨L, hL⟩ : ∃ L, ndL p l = L := ⟨_, rfl⟩
  have HL := Lib.hid hL
  rw [hL] at hE hso hLl ⊢
  clear hL
  have hb23 := below_trans hb2 hb3
  have HD := hD.on hb23
  go_loop [12, 13, 40] (fun v u i => ∃ j k : Nat, j ≤ s.length ∧ k ≤ L.length ∧ i = .int .i64 j ∧ u = .int .i64 k ∧ v = .int .i64 (cntTo L s j : Nat) ∧ Ahead L s k j) (fun _ _ i => s.length - (intOf i).toNat)
  case atStart => exact ⟨0, 0, Nat.zero_le _, Nat.zero_le _, rfl, rfl, by rw [cntTo_zero]; rfl, ahead_zero _ _ _⟩
  case round =>
    obtain ⟨j, k, hj, hk, rfl, rfl, rfl, hah⟩ := hrel
    have Hah := Lib.hid hah; clear hah
    have hcl : cntTo L s j ≤ 4096 * 4096 := Nat.le_trans (cntTo_le L s j) (Nat.mul_le_mul (by omega) (by omega))
    by_cases hlt : j < s.length
    · obtain ⟨bk, off, x, rfl, hbb, hq, c0⟩ := hD.int hlt hb23
      have Hq := Lib.hid hq.out; clear hq
      go_wp2
      go_loop [13] (fun u => ∃ k : Nat, k ≤ L.length ∧ u = .int .i64 k ∧ ∀ z ∈ L.take k, z < x) (fun u => L.length - (intOf u).toNat)
      case atStart => exact ⟨k, hk, rfl, Hah.out x Hq.out⟩
      case round =>
        clear hk Hah
        obtain ⟨k, hk, rfl, hah⟩ := hrel
        have Hah := Lib.hid hah; clear hah
        by_cases hkl : k < L.length
        · obtain ⟨bk2, off2, y, rfl, hbb2, hq2, d0⟩ := hE.int hkl (Below.refl _ _)
          have Hq2 := Lib.hid hq2.out; clear hq2
          by_cases hyx : y < x
          · go_wp2
            go_round
            case rel => exact ⟨k + 1, by omega, by go_num, take_lt_snoc Hah.out Hq2.out hyx⟩
            case measure => simp [intOf]; omega
          · have hge : ∀ z, L[k]? = some z → x ≤ z := by intro z hz; rw [Hq2.out] at hz; cases hz; omega
            have Hc := Lib.hid (count_at hso.out Hah.out hge)
            by_cases hxy : y = x
            · subst hxy
              clear hge hyx
              go_wp2
              go_round
              case rel => exact ⟨j + 1, k, by omega, by omega, by go_num, rfl, by rw [cntTo_succ Hq.out, Hc.out, if_pos Hq2.out]; go_num, ahead_next Hah.out Hq.out H2.out⟩
              case measure => simp [intOf]; omega
            · have g : (y == x) = false := by simpa using hxy
              clear hge
              go_wp2
              go_round
              case rel => exact ⟨j + 1, k, by omega, by omega, by go_num, rfl, by rw [cntTo_succ Hq.out, Hc.out, if_neg (by rw [Hq2.out]; simpa using hxy)]; rfl, ahead_next Hah.out Hq.out H2.out⟩
              case measure => simp [intOf]; omega
        · have hge : ∀ z, L[k]? = some z → x ≤ z := by intro z hz; rw [List.getElem?_eq_none (by omega)] at hz; cases hz
          have Hc := Lib.hid (count_at hso.out Hah.out hge)
          clear hge
          go_wp2
          go_round
          case rel => exact ⟨j + 1, k, by omega, by omega, by go_num, rfl, by rw [cntTo_succ Hq.out, Hc.out, if_neg (by rw [List.getElem?_eq_none (by omega)]; simp)]; rfl, ahead_next Hah.out Hq.out H2.out⟩
          case measure => simp [intOf]; omega
    · obtain rfl : j = s.length := by omega
      go_wp2
      go_ret2
      exact ⟨by rw [HL.out]; rfl, hb23⟩

set_option maxRecDepth 100000 in
set_option maxHeartbeats 4000000 in
theorem Known_any (A : Option Addr) (n : Nat) (p : List Pls) (C : Option Addr) (m : Nat) (l : List Nte) (D : Option Addr) (o : Nat) (s : List Int) (w : World) (hA : Arr 5 Pls.enc w w.heap.size A p) (hC : Arr 4 Nte.enc w w.heap.size C l) (hD : Arr 1 encI w w.heap.size D s)
    (hp : p.length ≤ 4611686018427387904) (hl : l.length ≤ 4096) (hs : s.length ≤ 4096) :
    Calls Try.prog 39 #[.slice A p.length n, .slice C l.length m, .slice D s.length o] w fun e w' => e = .returned (.tuple #[.int .i64 (knwN p l s), .int .i64 (knwE p l s)]) ∧ Below w.heap.size w w' := by
  by_cases h0 : allE Pls.ok p = 0
  · by_cases h2 : slotsE s 0 (p.length - 1) = 0
    · by_cases h3 : ndE p l = 0
      · obtain ⟨e1, e2⟩ := knw4 h0 h2 h3
        rw [e1, e2]
        exact Known_main A n p C m l D o s w hA hC hD hl hs h0 h2 h3
      · obtain ⟨e1, e2⟩ := knw3 h0 h2 h3
        rw [e1, e2]
        have H0 := Lib.hid h0; have H2 := Lib.hid h2
        have h3' : (ndE p l != 0) = true := by simpa using h3
        clear h2 h3 e1 e2
        go_enter Try.func39, Try.ntmps39
        go_wp2_with (first
          | (go_at_call 73; refine (checkPulses_any A n p _ hA hp).mono ?_; rintro e w2 ⟨rfl, hb2⟩; rw [H0.out])
          | (go_at_call 76; refine (checkSlots_any D o s 0 _ _ (hD.on hb2) (by omega)).mono ?_; rintro e w' ⟨rfl, rfl⟩; rw [H2.out])
          | (go_at_call 80; refine (Knows_any A n p C m l _ (hA.on hb2) (hC.on hb2) hl h0).mono ?_; rintro e w3 ⟨v3, rfl, hown3, hb3⟩))
        go_ret2
        exact ⟨rfl, below_trans hb2 hb3⟩
    · obtain ⟨e1, e2⟩ := knw2 (l := l) h0 h2
      rw [e1, e2]
      have H0 := Lib.hid h0
      have h2' : (slotsE s 0 (p.length - 1) != 0) = true := by simpa using h2
      clear h0 h2 e1 e2
      go_enter Try.func39, Try.ntmps39
      go_wp2_with (first
        | (go_at_call 73; refine (checkPulses_any A n p _ hA hp).mono ?_; rintro e w2 ⟨rfl, hb2⟩; rw [H0.out])
        | (go_at_call 76; refine (checkSlots_any D o s 0 _ _ (hD.on hb2) (by omega)).mono ?_; rintro e w' ⟨rfl, rfl⟩))
      go_ret2
      exact ⟨rfl, hb2⟩
  · obtain ⟨e1, e2⟩ := knw1 (l := l) (s := s) h0
    rw [e1, e2]
    have h0' : (allE Pls.ok p != 0) = true := by simpa using h0
    clear e1 e2
    go_enter Try.func39, Try.ntmps39
    go_wp2_with (go_at_call 73; refine (checkPulses_any A n p _ hA hp).mono ?_; rintro e w2 ⟨rfl, hb2⟩)
    go_ret2
    exact ⟨rfl, hb2⟩

end Go.Proofs.Ytfodlpiidlajeaa
