/- The walk of the statement DistilMixes. For any two small numbers and any list of small numbers. -/
import Derived.Test.YtpejoghdmkpfcaaGreatDoorMixB
import Derived.Test.YtpejoghdmkpfcaaGreatDoorMixC
import Derived.Test.YtpejoghdmkpfcaaGreatDoorRws
import Derived.Test.YtpejoghdmkpfcaaGreatDoorKnownD
namespace Go.Proofs.YtpejoghdmkpfcaaGreatDoor
open Go.RowKit
set_option linter.unusedVariables false
set_option linter.unusedSimpArgs false

def enc8 (x : Nat) : List Value := [.int .u8 x]
theorem enc8_len (x : Nat) : (enc8 x).length = 1 := rfl
theorem Arr.u8 {w w' : World} {B : Nat} {A : Option Addr} {k : Nat} {l : List Nat} (h : Arr 1 enc8 w B A l) (hk : k < l.length) (hb : Below B w w') :
    ∃ b off x, A = some ⟨b, off, none⟩ ∧ b < B ∧ Hid (l[k]? = some x) ∧ w'.cell? ⟨b, off + k, none⟩ = some (.int .u8 x) := by
  obtain ⟨b, off, rfl, hbb, hc⟩ := h.get hk hb
  exact ⟨b, off, _, rfl, hbb, List.getElem?_eq_getElem hk, by have := hc 0 _ rfl; simpa using this⟩
theorem bools_info : (Tryz.prog.info? 22).map (fun i => (i.zero, i.size, i.bytes)) = some (some (.slice none 0 0), 1, 24) := by kernel_rfl
theorem pow_tiny {T : Nat} (h : T ≤ 8) : ∃ P : Nat, 2 ^ T = P ∧ 0 < P ∧ P ≤ 256 ∧ wrap64 ((2 : Int) ^ T) = (P : Int) := by
  refine ⟨2 ^ T, rfl, Nat.pow_pos (by decide), ?_, ?_⟩
  · exact Nat.pow_le_pow_right (by decide : 0 < 2) h
  · have h2 : 2 ^ T ≤ 256 := Nat.pow_le_pow_right (by decide : 0 < 2) h
    have e : (2 : Int) ^ T = ((2 ^ T : Nat) : Int) := by simp
    rw [e]
    generalize 2 ^ T = P at *
    exact IntWalk.wrap64_in _ (by omega)
/-- The list of numbers so far: the blocks, and which numbers were seen. -/
structure MixI (B : Nat) (xs : List Nat) (sn : List Bool) : Prop where
  lt : ∀ x ∈ xs, x < 2 ^ B
  nd : xs.Nodup
  len : sn.length = 2 ^ B
  at_ : ∀ x, x < 2 ^ B → sn[x]? = some (decide (x ∈ xs))
theorem own_apart {α β : Type} {w0 w1 : World} {b0 b1 e0 e1 z0 z1 : Nat} {f0 : α → List Value} {f1 : β → List Value} {u v : Value} {l0 : List α} {l1 : List β} (h0 : Own w0 b0 e0 z0 f0 v l0) (h1 : Own w1 b1 e1 z1 f1 u l1) (hle : w0.heap.size ≤ b1) : u.ownBlock = none ∨ u.ownBlock ≠ v.ownBlock := by
  cases hu : u.ownBlock with
  | none => exact .inl rfl
  | some g =>
    refine .inr fun hv => ?_
    have l1 := (World.ownsRow.lt h1 g hu).1
    have l0 := (World.ownsRow.lt h0 g hv.symm).2
    omega
theorem SRows.own {α : Type} {tS tE : TypeId} {enc : α → List Value} {w : World} {base : Nat} {v : Value} {L : List (List α)} (h : SRows tS tE enc w base v L) : ∃ items : List It, Own w base tS 1 (fun x => [It.enc x]) v items := by
  obtain ⟨items, _, ho, _⟩ := h
  exact ⟨items, ho⟩
theorem SRows.setB {α : Type} {tS tE : TypeId} {enc : α → List Value} {w : World} {base : Nat} {v : Value} {L : List (List α)} (h : SRows tS tE enc w base v L) {a : Addr} (ha : a.block < base) {u : Value} : SRows tS tE enc (w.setCell a u) base v L := by
  obtain ⟨items, hl, ho, hi⟩ := h
  exact ⟨items, hl, ownsRow_setCell_below ho ha u, fun k it l h1 h2 => ⟨ownsRow_setCell_below (hi k it l h1 h2).1 ha u, (hi k it l h1 h2).2⟩⟩
theorem below_dn {B : Nat} {a w : World} (h : Below B a w) (n : Nat) : Below B a (w.drewN n) := h.trans ⟨rfl, rfl, rfl, Nat.le_refl _, fun _ _ => rfl⟩
theorem below_allocB {B : Nat} {a w : World} (h : Below B a w) (hB : B ≤ w.heap.size) (o : Obj) : Below B a (w.alloc o) := h.alloc hB o
theorem Own.lt_below {α : Type} {w w' : World} {B base e sz : Nat} {enc : α → List Value} {v : Value} {l : List α} (h : Own w base e sz enc v l) (hb : Below B w w') (hlt : ∀ g, v.ownBlock = some g → g < B) : Own w' base e sz enc v l := by
  refine ⟨h.1, ?_⟩
  rcases h.2 with hn | ⟨g, cap, cur, hv, hg, r⟩
  · exact .inl hn
  · exact .inr ⟨g, cap, cur, hv, hg, (hb.block g (hlt g (by rw [hv]; rfl))).trans r.1, r.2⟩

theorem MixI.new {B : Nat} {xs : List Nat} {sn : List Bool} {x : Nat} (h : MixI B xs sn) (hx : x < 2 ^ B) (hn : ¬ x ∈ xs) : MixI B (xs ++ [x]) (sn.set x true) := by
  refine ⟨fun y hy => ?_, ?_, by rw [List.length_set, h.len], fun y hy => ?_⟩
  · rcases List.mem_append.1 hy with hy | hy
    · exact h.lt y hy
    · have : y = x := by simpa using hy
      subst this; exact hx
  · rw [List.nodup_append]
    refine ⟨h.nd, by simp, fun a ha b hb => ?_⟩
    have : b = x := by simpa using hb
    subst this
    rintro rfl
    exact hn ha
  · by_cases hyx : y = x
    · subst hyx
      rw [List.getElem?_set_self (by rw [h.len]; exact hx)]; simp
    · rw [List.getElem?_set_ne (by omega), h.at_ y hy]; simp [hyx]
theorem MixI.old {B : Nat} {xs : List Nat} {sn : List Bool} {x : Nat} (h : MixI B xs sn) (hx : x < 2 ^ B) (hn : x ∈ xs) : MixI B xs (sn.set x true) := by
  refine ⟨h.lt, h.nd, by rw [List.length_set, h.len], fun y hy => ?_⟩
  by_cases hyx : y = x
  · subst hyx
    rw [List.getElem?_set_self (by rw [h.len]; exact hx)]; simp [hn]
  · rw [List.getElem?_set_ne (by omega), h.at_ y hy]

theorem fin_eq {m s S2 : Nat} (hm : m ≤ 6) (hS : 2 ^ s = S2) (h2 : S2 ≤ 256) {E : Nat} (hE : E = m * S2) : ((E : Int) == wrap64 ((m : Int) * (2 : Int) ^ s)) = true := by
  have e : (2 : Int) ^ s = ((2 ^ s : Nat) : Int) := by simp
  have hb : m * S2 ≤ 6 * 256 := Nat.mul_le_mul hm h2
  rw [e, hS, hE]
  have : wrap64 ((m : Int) * (S2 : Int)) = ((m * S2 : Nat) : Int) := by
    rw [show (m : Int) * (S2 : Int) = ((m * S2 : Nat) : Int) from by simp]
    exact IntWalk.wrap64_in _ (by omega)
  rw [this]; simp
theorem fin_df {m q D : Nat} (hm : m ≤ 6) (hq : q < 5) (hD : D = m * (m - 1) * 2 ^ q) : ((D : Int) == wrap64 (wrap64 ((m : Int) * ((m : Int) - 1)) * (2 : Int) ^ q)) = true := by
  subst hD
  have h : ∀ m, m ≤ 6 → ∀ q, q < 5 → (((m * (m - 1) * 2 ^ q : Nat) : Int) == wrap64 (wrap64 ((m : Int) * ((m : Int) - 1)) * (2 : Int) ^ q)) = true := by decide +kernel
  exact h m hm q hq
theorem mixB_same (s a : List Bool) (out : Nat) : mixB s a a out = true := by simp [mixB]

theorem bval_numL : ∀ (k x : Nat), x < 2 ^ k → bval (numL x k) = x
  | 0, x, h => by
    have : x = 0 := by simpa using h
    subst this; rfl
  | k + 1, x, h => by
    rw [numL, bval_snoc, bval_numL k (x / 2) (by rw [Nat.pow_succ] at h; omega)]
    rcases Nat.mod_two_eq_zero_or_one x with h0 | h0
    · rw [h0]; simp; omega
    · rw [h0]; simp; omega
theorem mix_fin {B T s q m : Nat} {xs : List Nat} {sn : List Bool} (hm : xs.length = m) (h : MixI B xs sn) (hs : s = B + T - 1) (hB : (q : Int) + 1 = (B : Int)) (hq : q < 5) (hT : T < 4) :
    difT (fun i => numL i s) (fun k => numL (xs.getD k 0) B) T m (2 ^ s) = m * (m - 1) * 2 ^ q := by
  obtain rfl : B = q + 1 := by omega
  obtain rfl : s = q + T := by omega
  refine mix_total hq hT _ (fun k _ => numL_len _ _) (fun a b ha hb hab he => ?_)
  have ea : xs.getD a 0 = xs[a] := by simp [List.getD, List.getElem?_eq_getElem (show a < xs.length by omega)]
  have eb : xs.getD b 0 = xs[b] := by simp [List.getD, List.getElem?_eq_getElem (show b < xs.length by omega)]
  have := congrArg bval he
  rw [ea, eb, bval_numL _ _ (h.lt _ (List.getElem_mem _)), bval_numL _ _ (h.lt _ (List.getElem_mem _))] at this
  exact hab ((List.getElem_inj h.nd).1 this)

end Go.Proofs.YtpejoghdmkpfcaaGreatDoor
