/- Plain: the slots that agree, and what is kept of what is announced; the stage's theorem in plain lists. No condition. -/
import Derived.Test.YteoaaphjbggobaaGreatAnnP
import Derived.Test.YteoaaphjbggobaaGreatMatch
import Derived.Test.YteoaaphjbggobaaGreatSent
import Derived.Test.YteoaaphjbggobaaGreatRecv
namespace Go.Proofs.YteoaaphjbggobaaGreat
open Go.RowKit
set_option linter.unusedVariables false
set_option linter.unusedSimpArgs false

/-- Whether the sender's slot i agrees. -/
def agrAt (p : List Pls) (c : List Clk) (s : Int) (i : Nat) : Bool := match p[i]? with
  | none => false
  | some x => if 0 ≤ (i : Int) + s then (match c[((i : Int) + s).toNat]? with | none => false | some q => x.seen && (x.basis == q.basis) && singleB q.kind) else false
def agrTo (p : List Pls) (c : List Clk) (s : Int) : Nat → List Int
  | 0 => []
  | k + 1 => agrTo p c s k ++ (if agrAt p c s k = true then [(k : Int)] else [])
def difB (p : List Pls) (c : List Clk) (s : Int) (x : Int) : Bool := bitAt p x != rcvB c s x
def wrgTo (p : List Pls) (c : List Clk) (s : Int) (k : Nat) : List Int := (agrTo p c s k).filter (difB p c s)
/-- The numbers from a first one on. -/
def sncL (l : List Int) (f : Int) : List Int := l.filter fun x => decide (f ≤ x)

theorem agrTo_le (p : List Pls) (c : List Clk) (s : Int) : ∀ n, (agrTo p c s n).length ≤ n
  | 0 => Nat.le_refl _
  | n + 1 => by
    have := agrTo_le p c s n
    rw [agrTo, List.length_append]
    split <;> simp <;> omega
theorem wrgTo_le (p : List Pls) (c : List Clk) (s : Int) (n : Nat) : (wrgTo p c s n).length ≤ n :=
  Nat.le_trans (List.length_filter_le _ _) (agrTo_le p c s n)
theorem sncL_le (l : List Int) (f : Int) : (sncL l f).length ≤ l.length := List.length_filter_le _ _

section
variable {p : List Pls} {c : List Clk} {s : Int} {k : Nat}
theorem agr_miss (h : agrAt p c s k = false) : agrTo p c s (k + 1) = agrTo p c s k ∧ wrgTo p c s (k + 1) = wrgTo p c s k := by
  have : agrTo p c s (k + 1) = agrTo p c s k := by rw [agrTo, h]; simp
  exact ⟨this, by unfold wrgTo; rw [this]⟩
theorem agr_hit (h : agrAt p c s k = true) : agrTo p c s (k + 1) = agrTo p c s k ++ [(k : Int)] := by rw [agrTo, h]; simp
theorem wrg_hit (h : agrAt p c s k = true) (h2 : difB p c s k = true) : wrgTo p c s (k + 1) = wrgTo p c s k ++ [(k : Int)] := by
  unfold wrgTo; rw [agr_hit h, List.filter_append]; simp [h2]
theorem wrg_miss (h : agrAt p c s k = true) (h2 : difB p c s k = false) : wrgTo p c s (k + 1) = wrgTo p c s k := by
  unfold wrgTo; rw [agr_hit h, List.filter_append]; simp [h2]
end

theorem iv_mem {α : Type} {g : Int → List α} {a : Int} {x : α} : ∀ {n : Nat}, x ∈ iv g a n → ∃ i, a ≤ i ∧ i < a + n ∧ x ∈ g i
  | 0, h => by simp [iv] at h
  | n + 1, h => by
    rw [iv, List.mem_append] at h
    rcases h with h | h
    · obtain ⟨i, h1, h2, h3⟩ := iv_mem h
      exact ⟨i, h1, by omega, h3⟩
    · exact ⟨a + n, by omega, by omega, h⟩
theorem iv_pair {α : Type} {g : Int → List α} {R : α → α → Prop} (h1 : ∀ i, (g i).Pairwise R) (h2 : ∀ i j x y, i < j → x ∈ g i → y ∈ g j → R x y) (a : Int) : ∀ n, (iv g a n).Pairwise R
  | 0 => by simp [iv]
  | n + 1 => by
    rw [iv, List.pairwise_append]
    refine ⟨iv_pair h1 h2 a n, h1 _, fun x hx y hy => ?_⟩
    obtain ⟨i, _, hi, hxi⟩ := iv_mem hx
    exact h2 i _ x y (by omega) hxi hy
theorem iv_flat {α β : Type} (g : Int → List α) (h : α → List β) (a : Int) : ∀ n, (iv g a n).flatMap h = iv (fun i => (g i).flatMap h) a n
  | 0 => rfl
  | n + 1 => by rw [iv, iv, List.flatMap_append, iv_flat g h a n]

def agrG (p : List Pls) (c : List Clk) (s : Int) (i : Int) : List Int := if agrAt p c s i.toNat = true then [i] else []
theorem agrTo_iv (p : List Pls) (c : List Clk) (s : Int) : ∀ n, agrTo p c s n = iv (agrG p c s) 0 n
  | 0 => rfl
  | n + 1 => by
    rw [agrTo, iv, agrTo_iv p c s n, agrG]
    simp
theorem agrG_mem {p : List Pls} {c : List Clk} {s i x : Int} (h : x ∈ agrG p c s i) : x = i ∧ agrAt p c s i.toNat = true := by
  unfold agrG at h
  split at h
  · rename_i h1; exact ⟨by simpa using h, h1⟩
  · simp at h
theorem snc_agr (p : List Pls) (c : List Clk) (s : Int) (f n : Nat) (h : f ≤ n) : sncL (agrTo p c s n) f = iv (agrG p c s) f (n - f) := by
  obtain ⟨m, rfl⟩ : ∃ m, n = f + m := ⟨n - f, by omega⟩
  rw [agrTo_iv, iv_add, Nat.add_sub_cancel_left, sncL, List.filter_append]
  have e1 : (iv (agrG p c s) 0 f).filter (fun x => decide ((f : Int) ≤ x)) = [] := by
    rw [List.filter_eq_nil_iff]
    intro x hx
    obtain ⟨i, _, h2, h3⟩ := iv_mem hx
    have := (agrG_mem h3).1
    simp; omega
  have e2 : (iv (agrG p c s) (0 + f) m).filter (fun x => decide ((f : Int) ≤ x)) = iv (agrG p c s) (0 + f) m := by
    rw [List.filter_eq_self]
    intro x hx
    obtain ⟨i, h1, _, h3⟩ := iv_mem hx
    have := (agrG_mem h3).1
    simp; omega
  rw [e1, e2]; simp

def mat1 (p : List Pls) (h : Hrd) : List Int := match p[h.slot.toNat]? with
  | none => []
  | some x => if x.seen = true ∧ x.basis = h.basis then [h.slot] else []
theorem matTo_flat (p : List Pls) (l : List Hrd) : ∀ k, matTo p l k = (l.take k).flatMap (mat1 p)
  | 0 => by simp [matTo]
  | k + 1 => by
    rw [matTo, matTo_flat p l k, matC]
    cases h : l[k]? with
    | none => rw [List.take_add_one, h]; simp
    | some x => rw [List.take_add_one, h]; simp only [List.flatMap_append, Option.toList, List.flatMap_cons, List.flatMap_nil, List.append_nil, List.append_cancel_left_eq]; rfl
theorem mat_ann (p : List Pls) (c : List Clk) (s : Int) (i : Int) (h : 0 ≤ i) : (annG c s i).flatMap (mat1 p) = agrG p c s i := by
  obtain ⟨k, rfl⟩ := Int.eq_ofNat_of_zero_le h
  unfold agrG agrAt annG
  simp only [Int.toNat_natCast]
  by_cases h0 : 0 ≤ (k : Int) + s
  · rw [if_pos h0]
    cases hc : c[((k : Int) + s).toNat]? with
    | none =>
      cases hp : p[k]? with
      | none => simp
      | some x => simp
    | some q =>
      simp only []
      by_cases hq : singleB q.kind = true
      · rw [if_pos hq]
        simp only [List.flatMap_cons, List.flatMap_nil, List.append_nil, mat1, Int.toNat_natCast]
        cases hp : p[k]? with
        | none => simp
        | some x =>
          simp only [if_pos h0, hq, Bool.and_true, Bool.and_eq_true, beq_iff_eq]
      · rw [if_neg hq]
        cases hp : p[k]? with
        | none => simp
        | some x => simp [hq]
  · rw [if_neg h0]
    cases hp : p[k]? with
    | none => simp
    | some x => simp [h0]
theorem kept_eq (p : List Pls) (c : List Clk) (s : Int) (f n : Nat) (h : f ≤ n) : matTo p (refAnn c s f (n - f)) (refAnn c s f (n - f)).length = sncL (agrTo p c s n) f := by
  rw [matTo_flat, List.take_length, refAnn, iv_flat, snc_agr p c s f n h]
  exact iv_congr _ _ _ _ (fun i h1 _ => mat_ann p c s i (by omega))

section
variable {α : Type} {slot fault : α → Int} {a b : Int} {l : List α}
theorem rise_of (h1 : ∀ x ∈ l, a ≤ slot x ∧ slot x ≤ b ∧ fault x = 0) (h2 : l.Pairwise fun x y => slot x < slot y) : riseE slot fault a b l = 0 := by
  have h3 : ∀ k, riseTo slot fault a b l k = 0 := by
    intro k
    induction k with
    | zero => rfl
    | succ k ih =>
      refine rise_on ih ?_
      cases hk : l[k]? with
      | none => simp [riseAt, hk]
      | some x =>
        obtain ⟨r1, r2, r3⟩ := h1 x (List.mem_of_getElem? hk)
        have hb : betwB (slot x) a b = true := by simp [betwB]; omega
        cases k with
        | zero => exact at_first hk hb r3
        | succ k =>
          obtain ⟨hlt, rfl⟩ := List.getElem?_eq_some_iff.1 hk
          have hy : l[k]? = some (l[k]'(by omega)) := List.getElem?_eq_getElem (by omega)
          have := (List.pairwise_iff_getElem.1 h2) k (k + 1) (by omega) hlt (by omega)
          exact at_ok hk hy hb r3 (by omega)
  exact h3 _
end

theorem annG_mem {c : List Clk} {s i : Int} {x : Hrd} (hok : c.all Clk.ok = true) (h : x ∈ annG c s i) : x.slot = i ∧ hFault x = 0 := by
  unfold annG at h
  split at h
  · split at h
    · rename_i q hq
      split at h
      · obtain rfl : x = ⟨i, q.basis⟩ := by simpa using h
        have := List.all_eq_true.1 hok q (List.mem_of_getElem? hq)
        unfold Clk.ok at this
        rw [Bool.and_eq_true] at this
        exact ⟨rfl, hFault_no this.1⟩
      · simp at h
    · simp at h
  · simp at h
theorem ann_heard {c : List Clk} {s : Int} {f n m : Nat} (hok : c.all Clk.ok = true) (h : f + m = n) : heardE (refAnn c s f m) f ((n : Int) - 1) = 0 := by
  refine rise_of (fun x hx => ?_) ?_
  · obtain ⟨i, h1, h2, h3⟩ := iv_mem hx
    obtain ⟨e1, e2⟩ := annG_mem hok h3
    exact ⟨by omega, by omega, e2⟩
  · refine iv_pair (fun i => ?_) (fun i j x y hij hx hy => ?_) _ _
    · unfold annG
      split
      · split
        · split <;> simp
        · simp
      · simp
    · have := (annG_mem hok hx).1
      have := (annG_mem hok hy).1
      omega
theorem snc_slots {p : List Pls} {c : List Clk} {s a b : Int} {f n : Nat} (h : f ≤ n) (hr : ∀ k : Nat, f ≤ k → k < n → agrAt p c s k = true → a ≤ (k : Int) ∧ (k : Int) ≤ b) : slotsE (sncL (agrTo p c s n) f) a b = 0 := by
  rw [snc_agr p c s f n h]
  refine rise_of (fun x hx => ?_) ?_
  · obtain ⟨i, h1, h2, h3⟩ := iv_mem hx
    obtain ⟨rfl, e2⟩ := agrG_mem h3
    have := hr x.toNat (by omega) (by omega) e2
    exact ⟨by show a ≤ x; omega, by show x ≤ b; omega, rfl⟩
  · refine iv_pair (fun i => ?_) (fun i j x y hij hx hy => ?_) _ _
    · unfold agrG; split <;> simp
    · have := (agrG_mem hx).1
      have := (agrG_mem hy).1
      show x < y
      omega
theorem snc_mem {p : List Pls} {c : List Clk} {s : Int} {f n : Nat} (h : f ≤ n) {x : Int} (hx : x ∈ sncL (agrTo p c s n) f) : ∃ k : Nat, x = (k : Int) ∧ f ≤ k ∧ k < n ∧ agrAt p c s k = true := by
  rw [snc_agr p c s f n h] at hx
  obtain ⟨i, h1, h2, h3⟩ := iv_mem hx
  obtain ⟨rfl, e2⟩ := agrG_mem h3
  exact ⟨x.toNat, by omega, by omega, by omega, e2⟩
theorem agr_click {p : List Pls} {c : List Clk} {s : Int} {k : Nat} (h : agrAt p c s k = true) : k < p.length ∧ 0 ≤ (k : Int) + s ∧ (k : Int) + s < c.length ∧ rcvS c s k = true := by
  unfold agrAt at h
  split at h
  · cases h
  · rename_i x hx
    have hk := (List.getElem?_eq_some_iff.1 hx).1
    split at h
    · rename_i h0
      split at h
      · cases h
      · rename_i q hq
        have hc := (List.getElem?_eq_some_iff.1 hq).1
        simp only [Bool.and_eq_true] at h
        refine ⟨hk, h0, by omega, ?_⟩
        unfold rcvS kindAt
        rw [hq]; exact h.2
    · cases h
theorem dif_eq (p : List Pls) (c : List Clk) (s : Int) (n : Nat) (f : Int) : (sncL (agrTo p c s n) f).filter (difB p c s) = sncL (wrgTo p c s n) f := by
  unfold sncL wrgTo
  rw [List.filter_filter, List.filter_filter]
  congr 1
  funext x
  exact Bool.and_comm _ _

/-- All that the stage's theorem needs of a transmission. -/
theorem ends_plain (p : List Pls) (c : List Clk) (s : Int) (f n : Nat) (hp : allE Pls.ok p = 0) (hc : allE Clk.ok c = 0) (hpl : p.length = n) (hcl : c.length = n) (hs : betwB s (-16) 16 = true) (hf : f ≤ n) :
    annE c s f n = 0 ∧ matE p (annL c s f n) f = 0 ∧ matL p (annL c s f n) f = sncL (agrTo p c s n) f ∧ sntE p (sncL (agrTo p c s n) f) = 0 ∧ sntL p (sncL (agrTo p c s n) f) = (sncL (agrTo p c s n) f).map (bitAt p) ∧
      rcvE c s (sncL (agrTo p c s n) f) = 0 ∧ rcvL c s (sncL (agrTo p c s n) f) = (sncL (agrTo p c s n) f).map (rcvB c s) := by
  have hp2 := allE_zero.1 hp
  have hc2 := allE_zero.1 hc
  have hs2 : -16 ≤ s ∧ s ≤ 16 := by simpa [betwB] using hs
  have hab : annB s f n = true := by simp [annB, betwB]; omega
  have hann : annL c s f n = refAnn c s f (n - f) := by
    rw [annL_ref c s f n hab hc]; congr 1; omega
  have hh : heardE (refAnn c s f (n - f)) f ((p.length : Int) - 1) = 0 := by rw [hpl]; exact ann_heard hc2.2 (by omega)
  have hbf : betwB (f : Int) 0 4096 = true := by simp [betwB]; omega
  have hsnt : sntE p (sncL (agrTo p c s n) f) = 0 := by
    unfold sntE
    rw [if_neg (by simp [hp])]
    exact snc_slots hf (fun k h1 h2 h3 => ⟨by omega, by omega⟩)
  have hrc : rcvE c s (sncL (agrTo p c s n) f) = 0 := by
    unfold rcvE
    have h3 : slotsE (sncL (agrTo p c s n) f) (max 0 (-s)) ((c.length : Int) - 1 - s) = 0 := snc_slots hf (fun k h1 h2 h3 => by have := agr_click h3; omega)
    have h4 : (sncL (agrTo p c s n) f).all (rcvS c s) = true := by
      rw [List.all_eq_true]
      intro x hx
      obtain ⟨k, rfl, _, _, h5⟩ := snc_mem hf hx
      exact (agr_click h5).2.2.2
    rw [if_neg (by simp [hc]), if_neg (by simp [hs]), if_neg (by simp [h3]), if_pos h4]
  refine ⟨?_, ?_, ?_, hsnt, ?_, hrc, ?_⟩
  · unfold annE; rw [if_neg (by simp [hc]), if_neg (by simp [hab])]
  · rw [hann]; unfold matE; rw [if_neg (by simp [hp]), if_neg (by simp [hbf])]; exact hh
  · rw [hann]; unfold matL; rw [if_pos ⟨hp, hbf, hh⟩]; exact kept_eq p c s f n hf
  · unfold sntL; rw [if_pos hsnt]
  · unfold rcvL; rw [if_pos hrc]

end Go.Proofs.YteoaaphjbggobaaGreat
