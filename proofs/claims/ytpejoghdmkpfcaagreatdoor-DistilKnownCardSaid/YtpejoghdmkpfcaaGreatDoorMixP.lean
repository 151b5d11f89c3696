/- Plain: over all seeds two different blocks have the same Toeplitz hash just as often as if keys were drawn. For blocks of 1 to 5 bits, to at most 3 bits. -/
import Derived.Test.YtpejoghdmkpfcaaGreatDoorTopA
import Derived.Test.YtpejoghdmkpfcaaGreatDoorGfR
namespace Go.Proofs.YtpejoghdmkpfcaaGreatDoor
set_option linter.unusedVariables false
set_option linter.unusedSimpArgs false

/-- The bits of a number, the highest one first. -/
def numL (x : Nat) : Nat → List Bool
  | 0 => []
  | k + 1 => numL (x / 2) k ++ [decide (x % 2 = 1)]
theorem numL_len : ∀ (k x : Nat), (numL x k).length = k
  | 0, _ => rfl
  | k + 1, x => by simp [numL, numL_len k]
theorem toC_xor {s a b : List Bool} (hl : a.length = b.length) (i : Nat) : ∀ k, k ≤ a.length → toC s (xorL a b) i k = (toC s a i k != toC s b i k)
  | 0, _ => rfl
  | k + 1, hk => by
    have hx : (xorL a b).length = a.length := by unfold xorL; rw [List.length_zipWith]; omega
    rw [toC, toC, toC, toC_xor hl i k (by omega), hx, ← hl]
    have ha : a[k]? = some a[k] := List.getElem?_eq_getElem (by omega)
    have hb : b[k]? = some b[k] := List.getElem?_eq_getElem (by omega)
    have hxk : (xorL a b)[k]? = some (a[k] != b[k]) := by unfold xorL; rw [List.getElem?_zipWith, ha, hb]
    rw [ha, hb, hxk]
    simp only [Option.getD_some]
    generalize (s[i + (a.length - 1 - k)]?).getD false = z
    generalize toC s a i k = p
    generalize toC s b i k = q
    generalize a[k] = u
    generalize b[k] = w
    revert p q u w z; decide
/-- Two blocks have the same hash. -/
def mixB (s a b : List Bool) (out : Nat) : Bool := decide (toepL s a out = toepL s b out)
theorem mix_xor {s a b : List Bool} (hl : a.length = b.length) (out : Nat) : mixB s a b out = mixB s (xorL a b) (List.replicate a.length false) out := by
  have hx : (xorL a b).length = a.length := by unfold xorL; rw [List.length_zipWith]; omega
  have hz : ∀ i k, toC s (List.replicate a.length false) i k = false := by
    intro i k
    induction k with
    | zero => rfl
    | succ k ih =>
      rw [toC, ih]
      have : ((List.replicate a.length false)[k]?).getD false = false := by
        rw [List.getElem?_replicate]; split <;> rfl
      rw [this]; rfl
  unfold mixB
  rw [Bool.eq_iff_iff]
  simp only [decide_eq_true_eq]
  unfold toepL toepK
  rw [hx, ← hl]
  constructor
  · intro h
    refine List.map_congr_left fun i hi => ?_
    have := (List.map_inj_left.1 h) i hi
    rw [toC_xor hl i _ (Nat.le_refl _), hz, this]; simp
  · intro h
    refine List.map_congr_left fun i hi => ?_
    have := (List.map_inj_left.1 h) i hi
    rw [toC_xor hl i _ (Nat.le_refl _), hz] at this
    simpa using this
theorem mix_all : ∀ n < 5, ∀ out < 4, ∀ d < 2 ^ (n + 1), d ≠ 0 → cntTo (fun i => mixB (numL i (n + out)) (numL d (n + 1)) (List.replicate (n + 1) false) out) (2 ^ (n + out)) = 2 ^ n := by decide +kernel

theorem numL_bval : ∀ (k : Nat) (L : List Bool), L.length = k → numL (bval L) k = L := by
  intro k
  induction k with
  | zero => intro L h; rw [List.eq_nil_of_length_eq_zero h]; rfl
  | succ k ih =>
    intro L h
    rcases List.eq_nil_or_concat L with rfl | ⟨M, b, rfl⟩
    · simp at h
    · simp only [List.concat_eq_append] at *
      rw [bval_snoc, numL]
      have h1 : (2 * bval M + b.toNat) / 2 = bval M := by cases b <;> simp <;> omega
      have h2 : decide ((2 * bval M + b.toNat) % 2 = 1) = b := by cases b <;> simp <;> omega
      rw [h1, h2, ih M (by simpa using h)]
theorem bval_false (k : Nat) : bval (List.replicate k false) = 0 := by
  induction k with
  | zero => rfl
  | succ k ih => rw [List.replicate_succ', bval_snoc, ih]; rfl
theorem xor_false : ∀ (a b : List Bool), a.length = b.length → xorL a b = List.replicate a.length false → a = b
  | [], [], _, _ => rfl
  | x :: a, y :: b, hl, h => by
    have h' : (x != y) :: xorL a b = false :: List.replicate a.length false := h
    obtain ⟨h1, h2⟩ := List.cons.inj h'
    rw [xor_false a b (by simpa using hl) h2]
    cases x <;> cases y <;> simp at h1 ⊢
  | [], _ :: _, hl, _ => by simp at hl
  | _ :: _, [], hl, _ => by simp at hl
theorem mix_cnt {n out : Nat} (hn : n < 5) (ho : out < 4) {a b : List Bool} (ha : a.length = n + 1) (hb : b.length = n + 1) (hne : a ≠ b) : cntTo (fun i => mixB (numL i (n + out)) a b out) (2 ^ (n + out)) = 2 ^ n := by
  have hx : (xorL a b).length = n + 1 := by unfold xorL; rw [List.length_zipWith]; omega
  have hd : bval (xorL a b) ≠ 0 := fun h => hne (xor_false a b (by omega) (bval_inj (n + 1) _ _ hx (by simp [ha]) (by rw [h, bval_false])))
  have hlt : bval (xorL a b) < 2 ^ (n + 1) := by have := bval_lt (xorL a b); rwa [hx] at this
  have h := mix_all n hn out ho (bval (xorL a b)) hlt hd
  rw [numL_bval (n + 1) _ hx] at h
  rw [← h]
  congr 1
  funext i
  rw [mix_xor (by omega), ha]

end Go.Proofs.YtpejoghdmkpfcaaGreatDoor
