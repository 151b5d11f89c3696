/- Contracts of the program's Match and of the reference's: both return the list 'matL' and the error 'matE'; and of the test of two lists of numbers that read alike. For at most 4611686018427387904 elements. -/
import Derived.Test.YteoaaphjbggobaaGreatRise2
import Derived.Test.YteoaaphjbggobaaGreatRefChk
namespace Go.Proofs.YteoaaphjbggobaaGreat
open Go.RowKit
set_option linter.unusedVariables false
set_option linter.unusedSimpArgs false

def matC (p : List Pls) (l : List Hrd) (k : Nat) : List Int := match l[k]? with
  | none => []
  | some h => match p[h.slot.toNat]? with
    | none => []
    | some x => if x.seen = true ∧ x.basis = h.basis then [h.slot] else []
def matTo (p : List Pls) (l : List Hrd) : Nat → List Int
  | 0 => []
  | k + 1 => matTo p l k ++ matC p l k
theorem matTo_le (p : List Pls) (l : List Hrd) : ∀ n, (matTo p l n).length ≤ n
  | 0 => Nat.le_refl _
  | n + 1 => by
    have := matTo_le p l n
    have h1 : (matC p l n).length ≤ 1 := by
      unfold matC; split
      · simp
      · split
        · simp
        · split <;> simp
    rw [matTo, List.length_append]; omega
theorem matTo_hit {p : List Pls} {l : List Hrd} {k j : Nat} {b : Int} {pbit : Bool} {pc pph : Int} (hq : l[k]? = some ⟨(j : Int), b⟩) (hp : p[j]? = some ⟨b, pbit, pc, pph, true⟩) : matTo p l (k + 1) = matTo p l k ++ [(j : Int)] := by
  simp [matTo, matC, hq, hp]
theorem matTo_miss {p : List Pls} {l : List Hrd} {k j : Nat} {b pb : Int} {pbit : Bool} {pc pph : Int} {ps : Bool} (hq : l[k]? = some ⟨(j : Int), b⟩) (hp : p[j]? = some ⟨pb, pbit, pc, pph, ps⟩) (h : ps = false ∨ pb ≠ b) : matTo p l (k + 1) = matTo p l k := by
  have : ¬ (ps = true ∧ pb = b) := by rcases h with h | h <;> simp [h]
  simp [matTo, matC, hq, hp, this]
def matE (p : List Pls) (l : List Hrd) (f : Int) : Int := if allE Pls.ok p ≠ 0 then allE Pls.ok p else if betwB f 0 4096 = false then 3 else heardE l f (p.length - 1)
def matL (p : List Pls) (l : List Hrd) (f : Int) : List Int := if allE Pls.ok p = 0 ∧ betwB f 0 4096 = true ∧ heardE l f (p.length - 1) = 0 then matTo p l l.length else []
theorem matL_le (p : List Pls) (l : List Hrd) (f : Int) : (matL p l f).length ≤ l.length := by
  unfold matL; split
  · exact matTo_le _ _ _
  · simp
theorem int_info : (Tryz.prog.info? 3).map (fun i => (i.zero, i.size, i.bytes)) = some (some (.int .i64 0), 1, 8) := by kernel_rfl

set_option maxRecDepth 100000 in
set_option maxHeartbeats 2000000 in
theorem Match_main (A : Option Addr) (n : Nat) (p : List Pls) (C : Option Addr) (m : Nat) (l : List Hrd) (f : Int) (w : World) (hA : Arr 5 Pls.enc w w.heap.size A p) (hC : Arr 2 Hrd.enc w w.heap.size C l) (hl : l.length ≤ 4096)
    (h0 : allE Pls.ok p = 0) (h1 : betwB f 0 4096 = true) (h2 : heardE l f (p.length - 1) = 0) :
    Calls Tryz.prog 23 #[.slice A p.length n, .slice C l.length m, .int .i64 f] w fun e w' => ∃ v, e = .returned (.tuple #[v, .int .i64 0]) ∧ Own w' w.heap.size 3 1 encI v (matTo p l l.length) ∧ Below w.heap.size w w' := by
  have hlen := (allE_zero.1 h0).1
  obtain ⟨i0, hi, hz0, hz1, hz2⟩ := info_parts int_info
  have H0 := Lib.hid h0; have H1 := Lib.hid h1; have H2 := Lib.hid h2
  simp only [betwB, decide_eq_true_eq] at h1
  obtain ⟨f1, f2⟩ := h1
  clear h0 h2
  go_enter Tryz.func23, Tryz.ntmps23
  go_wp2_with (first
    | (go_at_call 63; refine (checkPulses_any A n p _ hA (by omega)).mono ?_; rintro e w2 ⟨rfl, hb2⟩; rw [H0.out])
    | (go_at_call 57; refine (between_any _ _ _ _).mono ?_; rintro e w' ⟨rfl, rfl⟩; rw [H1.out])
    | (go_at_call 64; refine (checkHeard_any C m l f _ _ (hC.on hb2) (by omega)).mono ?_; rintro e w3 ⟨rfl, hb3⟩; rw [H2.out]))
  go_loopw [10, 33] (fun v i wr => ∃ k : Nat, k ≤ l.length ∧ i = .int .i64 k ∧ Own wr w.heap.size 3 1 encI v (matTo p l k) ∧ Below w.heap.size w wr) (fun _ i _ => l.length - (intOf i).toNat)
  case atStart => exact ⟨0, Nat.zero_le _, rfl, Own.nil, below_trans hb2 hb3⟩
  case round =>
    obtain ⟨k, hk, rfl, hown, hb⟩ := hrel
    have hle := matTo_le p l k
    by_cases hlt : k < l.length
    · obtain ⟨bk, off, qs, qb, rfl, hbb, hq, c0, c1⟩ := hC.hrd hlt hb
      have hr := rise_range H2.out hq.out
      obtain ⟨j, rfl⟩ : ∃ j : Nat, qs = (j : Int) := ⟨qs.toNat, by simp at hr; omega⟩
      have hjl : j < p.length := by simp at hr; omega
      clear hr
      obtain ⟨bk2, off2, pb, pbit, pc, pph, ps, rfl, hbb2, hp, p0, p1, p2, p3, p4⟩ := hA.pls hjl hb
      have hs := hb.size
      have hlt2 : bk2 < wr.heap.size := by omega
      cases ps
      · go_wp2
        go_roundw
        case rel => exact ⟨k + 1, by omega, by go_num, by rw [matTo_miss hq.out hp.out (.inl rfl)]; exact (hown.alloc _).alloc _, below_alloc (below_alloc hb _) _⟩
        case measure => simp [intOf]; omega
      · by_cases hbs : pb = qb
        · subst hbs
          go_wp2_with (at_builtin; refine wpList_snoc rfl _ _ 83 rfl w.heap.size 3 i0 _ 1 8 Tryz.underlying83 hi hz0 hz1 hz2 rfl (by decide) _ (matTo p l k) (j : Int) #[.int .i64 (j : Int)] 3 rfl ((hown.alloc _).alloc _) rfl rfl rfl (encI_one _) (by omega) (by decide) (by simp; omega) (by simp) ?_; intro v' w5 hown5 hb5)
          go_roundw
          case rel => exact ⟨k + 1, by omega, by go_num, by rw [matTo_hit hq.out hp.out]; exact hown5, (below_alloc (below_alloc hb _) _).trans hb5⟩
          case measure => simp [intOf]; omega
        · have g : (pb == qb) = false := by simpa using hbs
          go_wp2
          go_roundw
          case rel => exact ⟨k + 1, by omega, by go_num, by rw [matTo_miss hq.out hp.out (.inr hbs)]; exact (hown.alloc _).alloc _, below_alloc (below_alloc hb _) _⟩
          case measure => simp [intOf]; omega
    · go_wp2
      go_ret2
      obtain rfl : k = l.length := by omega
      exact ⟨_, rfl, hown, hb⟩

theorem matE1 {p : List Pls} {l : List Hrd} {f : Int} (h : allE Pls.ok p ≠ 0) : matE p l f = allE Pls.ok p ∧ matL p l f = [] := by simp [matE, matL, h]
theorem matE2 {p : List Pls} {l : List Hrd} {f : Int} (h : allE Pls.ok p = 0) (h1 : betwB f 0 4096 = false) : matE p l f = 3 ∧ matL p l f = [] := by simp [matE, matL, h, h1]
theorem matE3 {p : List Pls} {l : List Hrd} {f : Int} (h : allE Pls.ok p = 0) (h1 : betwB f 0 4096 = true) (h2 : heardE l f (p.length - 1) ≠ 0) : matE p l f = heardE l f (p.length - 1) ∧ matL p l f = [] := by simp [matE, matL, h, h1, h2]
theorem matE4 {p : List Pls} {l : List Hrd} {f : Int} (h : allE Pls.ok p = 0) (h1 : betwB f 0 4096 = true) (h2 : heardE l f (p.length - 1) = 0) : matE p l f = 0 ∧ matL p l f = matTo p l l.length := by simp [matE, matL, h, h1, h2]

set_option maxRecDepth 100000 in
set_option maxHeartbeats 2000000 in
theorem Match_any (A : Option Addr) (n : Nat) (p : List Pls) (C : Option Addr) (m : Nat) (l : List Hrd) (f : Int) (w : World) (hA : Arr 5 Pls.enc w w.heap.size A p) (hC : Arr 2 Hrd.enc w w.heap.size C l) (hp : p.length ≤ 4611686018427387904) (hl : l.length ≤ 4096) :
    Calls Tryz.prog 23 #[.slice A p.length n, .slice C l.length m, .int .i64 f] w fun e w' => ∃ v, e = .returned (.tuple #[v, .int .i64 (matE p l f)]) ∧ Own w' w.heap.size 3 1 encI v (matL p l f) ∧ Below w.heap.size w w' := by
  by_cases h0 : allE Pls.ok p = 0
  · cases h1 : betwB f 0 4096
    · obtain ⟨e1, e2⟩ := matE2 (l := l) h0 h1
      rw [e1, e2]
      have H0 := Lib.hid h0; have H1 := Lib.hid h1
      clear h0 h1 e1 e2
      go_enter Tryz.func23, Tryz.ntmps23
      go_wp2_with (first
        | (go_at_call 63; refine (checkPulses_any A n p _ hA hp).mono ?_; rintro e w2 ⟨rfl, hb2⟩; rw [H0.out])
        | (go_at_call 57; refine (between_any _ _ _ _).mono ?_; rintro e w' ⟨rfl, rfl⟩; rw [H1.out]))
      go_ret2
      exact ⟨_, rfl, Own.nil, hb2⟩
    · by_cases h2 : heardE l f (p.length - 1) = 0
      · obtain ⟨e1, e2⟩ := matE4 h0 h1 h2
        rw [e1, e2]
        exact Match_main A n p C m l f w hA hC hl h0 h1 h2
      · obtain ⟨e1, e2⟩ := matE3 h0 h1 h2
        rw [e1, e2]
        have H0 := Lib.hid h0; have H1 := Lib.hid h1
        have h2' : (heardE l f (p.length - 1) != 0) = true := by simpa using h2
        clear h0 h1 h2 e1 e2
        go_enter Tryz.func23, Tryz.ntmps23
        go_wp2_with (first
          | (go_at_call 63; refine (checkPulses_any A n p _ hA hp).mono ?_; rintro e w2 ⟨rfl, hb2⟩; rw [H0.out])
          | (go_at_call 57; refine (between_any _ _ _ _).mono ?_; rintro e w' ⟨rfl, rfl⟩; rw [H1.out])
          | (go_at_call 64; refine (checkHeard_any C m l f _ _ (hC.on hb2) (by omega)).mono ?_; rintro e w3 ⟨rfl, hb3⟩))
        go_ret2
        exact ⟨_, rfl, Own.nil, below_trans hb2 hb3⟩
  · obtain ⟨e1, e2⟩ := matE1 (l := l) (f := f) h0
    rw [e1, e2]
    have h0' : (allE Pls.ok p != 0) = true := by simpa using h0
    clear e1 e2
    go_enter Tryz.func23, Tryz.ntmps23
    go_wp2_with (go_at_call 63; refine (checkPulses_any A n p _ hA hp).mono ?_; rintro e w2 ⟨rfl, hb2⟩)
    go_ret2
    exact ⟨_, rfl, Own.nil, hb2⟩

end Go.Proofs.YteoaaphjbggobaaGreat
