/- Contracts of the reference's pool: the tag, Seal, Open, Refill, Copy, NewPool; and of the comparison of two lists of numbers. -/
import Derived.Test.YtpejoghdmkpfcaaGreatDoorPlrA
import Derived.Test.YtpejoghdmkpfcaaGreatDoorFrgAll
import Derived.Test.YtpejoghdmkpfcaaGreatDoorPolF
namespace Go.Proofs.YtpejoghdmkpfcaaGreatDoor
open Go.RowKit Go.Maps
set_option linter.unusedVariables false
set_option linter.unusedSimpArgs false

theorem slices_at {w : World} {A : Option Addr} {bits : List Bool} {W k R : Nat} (wd : W = 8 ∨ W = 16 ∨ W = 32) (hR : bits.length / (2 * W) = R) (kR : k < R) (ar : Arr 1 encB w w.heap.size A bits) : ∃ ab ao, A = some ⟨ab, ao, none⟩ ∧ 2 * W * k + 2 * W ≤ bits.length ∧
    Arr 1 encB w w.heap.size (some ⟨ab, ao + 2 * W * k, none⟩) ((bits.drop (2 * W * k)).take W) ∧ ((bits.drop (2 * W * k)).take W).length = W ∧
    Arr 1 encB w w.heap.size (some ⟨ab, ao + (2 * W * k + W), none⟩) (((bits.drop (2 * W * k)).drop W).take W) ∧ (((bits.drop (2 * W * k)).drop W).take W).length = W := by
  have hWn : 2 * W * k + 2 * W ≤ bits.length := by
    have h3 := Nat.div_mul_le_self bits.length (2 * W)
    rw [hR] at h3
    have h4 : (k + 1) * (2 * W) ≤ R * (2 * W) := Nat.mul_le_mul_right _ (by omega)
    rw [Nat.add_mul, Nat.one_mul, Nat.mul_comm k] at h4
    omega
  have W0 : 0 < W := by rcases wd with rfl | rfl | rfl <;> decide
  obtain ⟨ab, ao, rfl, hab, _⟩ := ar (by rintro rfl; simp at hWn; omega)
  have arD : Arr 1 encB w w.heap.size (some ⟨ab, ao + 2 * W * k, none⟩) (bits.drop (2 * W * k)) := by have := ar.drop (2 * W * k); rwa [Nat.mul_one] at this
  have lD : (bits.drop (2 * W * k)).length = bits.length - 2 * W * k := by simp
  have arD2 : Arr 1 encB w w.heap.size (some ⟨ab, ao + (2 * W * k + W), none⟩) ((bits.drop (2 * W * k)).drop W) := by have := arD.drop W; rwa [Nat.mul_one, Nat.add_assoc] at this
  exact ⟨ab, ao, rfl, hWn, arr_take arD W, by rw [List.length_take, lD]; omega, arr_take arD2 W, by rw [List.length_take, List.length_drop, lD]; omega⟩

section
variable {lo q W : Nat} {vb vd : Value} {bits : List Bool} {d : List Nat}
/-- The tag that a pool gives: 0 with an error. -/
def plX (W : Nat) (bits : List Bool) (u : List Nat) (n : Int) (m : List Bool) : Nat := if plE W bits u n m = 0 then plT W bits n m else 0
set_option maxRecDepth 100000 in
set_option maxHeartbeats 8000000 in
theorem rtag_any (n : Int) (M : Option Addr) (mc : Nat) (m : List Bool) (w : World) (h : RpAt w lo q W vb vd bits d) (hM : Arr 1 encB w w.heap.size M m) (nM : M = none → mc = 0) (lm : m.length ≤ 60000) :
    Calls Tryz.prog 74 #[.pointer (some ⟨q, 0, none⟩), .int .i64 n, .slice M m.length mc] w fun e w' => e = .returned (.tuple #[.int .u64 (plX W bits d n m), .int .i64 (plE W bits d n m)]) ∧ Below w.heap.size w w' := by
  have cR := rRoom_any w h
  have cU := fun w' (hb : Below w.heap.size w w') => rused_any n w' (h.on hb)
  have hR1 : bits.length / (2 * W) ≤ 65536 := Nat.le_trans (Nat.div_le_self _ _) h.bl
  obtain ⟨R, hR⟩ : ∃ R : Nat, bits.length / (2 * W) = R := ⟨_, rfl⟩
  rw [hR] at cR hR1
  by_cases h1 : n < 0
  · have e1 : plE W bits d n m = 3 := by unfold plE; rw [if_pos h1]
    unfold plX
    rw [e1]
    have d1 : decide (n < 0) = true := by simpa using h1
    clear e1 h1 h
    go_enter Tryz.func74, Tryz.ntmps74
    go_wp2
    go_ret2
    exact ⟨rfl, Below.refl _ _⟩
  have d1 : decide (n < 0) = false := by simpa using h1
  by_cases h2 : (R : Int) ≤ n
  · have e1 : plE W bits d n m = 14 := by unfold plE; rw [if_neg h1, hR, if_pos h2]
    unfold plX
    rw [e1]
    have d2 : decide ((R : Int) ≤ n) = true := by simpa using h2
    clear e1 h1 h2 h
    go_enter Tryz.func74, Tryz.ntmps74
    go_wp2_with (go_at_call 21; refine cR.mono ?_; rintro e w1 ⟨rfl, hb1⟩)
    go_ret2
    exact ⟨rfl, hb1⟩
  have d2 : decide ((R : Int) ≤ n) = false := by simpa using h2
  obtain ⟨k, rfl⟩ := Int.eq_ofNat_of_zero_le (show 0 ≤ n by omega)
  have kR : k < R := by omega
  have hk63 : k < 9223372036854775808 := by omega
  simp only [hitL_nat] at cU
  by_cases hu : k ∈ d
  · have e1 : plE W bits d k m = 16 := by unfold plE; rw [if_neg (by omega), hR, if_neg h2]; simp [hu]
    unfold plX
    rw [e1]
    rw [decide_eq_true hu] at cU
    clear e1 h1 h2 h hu
    go_enter Tryz.func74, Tryz.ntmps74
    go_wp2_with (first
      | (go_at_call 21; refine cR.mono ?_; rintro e w1 ⟨rfl, hb1⟩)
      | (go_at_call 53; refine (cU _ hb1).mono ?_; rintro e w2 ⟨rfl, rfl⟩))
    go_ret2
    exact ⟨rfl, hb1⟩
  have e1 : plE W bits d k m = tgE W (pKey W bits k) (pPad W bits k) m := by unfold plE; rw [if_neg (by omega), hR, if_neg h2]; simp [hu]
  have e2 : plX W bits d k m = tgN W (pKey W bits k) (pPad W bits k) m := by
    unfold plX
    rw [e1]
    show (if _ = (0 : Int) then tgN W (pKey W bits k) (pPad W bits k) m else 0) = _
    unfold tgN
    split <;> rfl
  rw [e1, e2]
  rw [decide_eq_false hu] at cU
  obtain ⟨A, c, hv, l1, l2, l3, ar⟩ := h.ob.form encB_len
  have c1 := h.c1
  have c0 := h.c0
  rw [hv] at c1
  have wd := h.wd
  obtain ⟨ab, ao, rfl, hWn, arK, lK, arP, lP⟩ := slices_at wd hR kR ar
  have cK := fun cc w' (hb : Below w.heap.size w w') => rWord_any _ cc _ w' (arK.on hb) (by rw [lK]; rcases wd with rfl | rfl | rfl <;> decide)
  have cP := fun cc w' (hb : Below w.heap.size w w') => rWord_any _ cc _ w' (arP.on hb) (by rw [lP]; rcases wd with rfl | rfl | rfl <;> decide)
  have cT := fun w' (hb : Below w.heap.size w w') => rTag_any W (pKey W bits k) (pPad W bits k) M mc m w' (hM.on hb) (by omega) nM
  simp only [lK, lP] at cK cP
  rw [show bval ((bits.drop (2 * W * k)).take W) = pKey W bits k from rfl] at cK
  rw [show bval (((bits.drop (2 * W * k)).drop W).take W) = pPad W bits k from rfl] at cP
  generalize pKey W bits k = key at *
  generalize pPad W bits k = pad at *
  generalize tgE W key pad m = E at *
  generalize tgN W key pad m = T at *
  have bl := h.bl
  unfold maxLen at l2
  have dm : decide (65536 < (m.length : Int)) = false := by simp; omega
  clear e1 e2 h1 h2 lK lP arK arP ar h hu hv
  rcases wd with rfl | rfl | rfl
  all_goals (
    simp only [Nat.reduceMul] at cK cP hWn
    go_enter Tryz.func74, Tryz.ntmps74
    go_wp2_with (first
      | (go_at_call 21; refine cR.mono ?_; rintro e w1 ⟨rfl, hb1⟩; have z0 := bel_cell hb1 c0; have z1 := bel_cell hb1 c1)
      | (go_at_call 53; refine (cU _ hb1).mono ?_; rintro e w2 ⟨rfl, rfl⟩))
    have L0 := later_cell z0
    have L1 := later_cell z1
    have cKL := fun cc (x : Later w1) => calls_later_same (cK cc x.w (below_trans hb1 x.2))
    have cPL := fun cc (x : Later w1) => calls_later_same (cP cc x.w (below_trans hb1 x.2))
    have cTL := fun (x : Later w1) => calls_later (cT x.w (below_trans hb1 x.2))
    clear z0 z1 c0 c1 cK cP cT cU cR
    (refine wp_region_later (by kernel_rfl) (by kernel_rfl) ?_; (repeat (go_big_quiet_step (((first | (go_at_call 45; first | with_reducible exact cKL _ _ | with_reducible exact cPL _ _) | (go_at_call 93; exact cTL _)))))); refine wpQuiet_nil ?_; rintro w3 ⟨⟨_, hb3⟩, rfl⟩)
    go_wp2_with fail
    go_ret2
    exact ⟨rfl, below_trans hb1 hb3⟩)
end

end Go.Proofs.YtpejoghdmkpfcaaGreatDoor
