/- Contracts of exact's valid, sane, CheckFrac. For numbers of at most a million limbs. -/
import Derived.Test.YteoaaphjbggobaaNatI
namespace Go.Proofs.Yteoaaphjbggobaa
open Go.RowKit
set_option linter.unusedVariables false
set_option linter.unusedSimpArgs false

/-- A fraction as it lies: two slices and what they read as. -/
structure Frc where
  A : Option Addr
  c : Nat
  l : List Nat
  C : Option Addr
  d : Nat
  m : List Nat
def Frc.num (f : Frc) : Value := .slice f.A f.l.length f.c
def Frc.den (f : Frc) : Value := .slice f.C f.m.length f.d
def Frc.enc (f : Frc) : List Value := [f.num, f.den]
def Frc.val (f : Frc) : Value := .agg #[.slice f.A f.l.length f.c, .slice f.C f.m.length f.d]
theorem Frc.enc_len (f : Frc) : f.enc.length = 2 := rfl
structure Frc.In (f : Frc) (w : World) : Prop where
  n : Nt w f.A f.c f.l
  d : Nt w f.C f.d f.m
theorem Frc.In.on {f : Frc} {w w' : World} (h : f.In w) (hb : Below w.heap.size w w') : f.In w' := ⟨h.n.on hb, h.d.on hb⟩
def Frc.lng (f : Frc) : Bool := decide (64 < f.l.length ∨ 64 < f.m.length)
def Frc.zro (f : Frc) : Bool := decide (V f.m = 0)
/-- The error of some fractions. -/
def validE (fs : List Frc) : Int := if fs.any Frc.lng then 4 else if fs.any Frc.zro then 7 else 0
theorem Arr.frc {w w' : World} {B : Nat} {A : Option Addr} {k : Nat} {l : List Frc} (h : Arr 2 Frc.enc w B A l) (hk : k < l.length) (hb : Below B w w') :
    ∃ b off f, A = some ⟨b, off, none⟩ ∧ b < B ∧ Hid (l[k]? = some f) ∧ w'.cell? ⟨b, off + k * 2, none⟩ = some (.slice f.A f.l.length f.c) ∧ w'.cell? ⟨b, off + k * 2 + 1, none⟩ = some (.slice f.C f.m.length f.d) := by
  obtain ⟨b, off, rfl, hbb, hc⟩ := h.get hk hb
  exact ⟨b, off, _, rfl, hbb, List.getElem?_eq_getElem hk, hc 0 _ rfl, hc 1 _ rfl⟩
theorem any_take {α : Type} {p : α → Bool} {l : List α} {k : Nat} {x : α} (hx : l[k]? = some x) (h : (l.take k).any p = false) (ho : p x = false) : (l.take (k+1)).any p = false := by
  rw [take_snoc hx, List.any_append, h]; simp [ho]
theorem any_yes {α : Type} {p : α → Bool} {l : List α} {k : Nat} {x : α} (hx : l[k]? = some x) (ho : p x = true) : l.any p = true := by
  rw [List.any_eq_true]; exact ⟨x, List.mem_of_getElem? hx, ho⟩
theorem lng_mem {fs : List Frc} {k : Nat} {f : Frc} (hk : fs[k]? = some f) (h : fs.any Frc.lng = false) : f.l.length ≤ 64 ∧ f.m.length ≤ 64 := by
  rw [List.any_eq_false] at h
  have := h f (List.mem_of_getElem? hk)
  unfold Frc.lng at this
  simp at this
  omega
theorem validE_zero {fs : List Frc} : validE fs = 0 ↔ fs.any Frc.lng = false ∧ fs.any Frc.zro = false := by
  unfold validE
  cases h1 : fs.any Frc.lng <;> cases h2 : fs.any Frc.zro <;> simp
theorem short1 {f : Frc} (h : validE [f] = 0) : f.l.length ≤ 64 ∧ f.m.length ≤ 64 := lng_mem (k := 0) rfl (validE_zero.1 h).1
theorem short2 {f g : Frc} (h : validE [f, g] = 0) : f.l.length ≤ 64 ∧ f.m.length ≤ 64 ∧ g.l.length ≤ 64 ∧ g.m.length ≤ 64 := by
  have h1 := lng_mem (f := f) (k := 0) rfl (validE_zero.1 h).1
  have h2 := lng_mem (f := g) (k := 1) rfl (validE_zero.1 h).1
  omega
theorem lng_iff {f : Frc} : f.lng = false ↔ long2E f.l f.m = 0 := by
  unfold Frc.lng; rw [long2E_zero, decide_eq_false_iff_not]; omega

set_option maxRecDepth 100000 in
set_option maxHeartbeats 2000000 in
theorem valid_any (B : Option Addr) (n : Nat) (fs : List Frc) (w : World) (h : Arr 2 Frc.enc w w.heap.size B fs) (hf : ∀ (k : Nat) (f : Frc), fs[k]? = some f → f.In w) (hl : fs.length ≤ 1000) :
    Calls Try.prog 95 #[.slice B fs.length n] w fun e w' => e = .returned (.int .i64 (validE fs)) ∧ Below w.heap.size w w' := by
  go_enter Try.func95, Try.ntmps95
  go_wp2
  go_loopw [10] (fun i wr => ∃ k : Nat, k ≤ fs.length ∧ i = .int .i64 k ∧ (fs.take k).any Frc.lng = false ∧ Below w.heap.size w wr) (fun i _ => fs.length - (intOf i).toNat)
  case atStart => exact ⟨0, Nat.zero_le _, rfl, by simp, Below.refl _ _⟩
  case round =>
    obtain ⟨k, hk, rfl, hall, hb⟩ := hrel
    have Hall := Lib.hid hall; clear hall
    by_cases hlt : k < fs.length
    · obtain ⟨b, off, f, rfl, hbb, hq, c0, c1⟩ := h.frc hlt hb
      have hin := (hf _ _ hq.out).on hb
      have hs := hb.size
      cases hlg : f.lng
      · have h0 := lng_iff.1 hlg
        have Hl := Lib.hid hlg
        clear hlg
        go_wp2_with (go_at_call 96; refine (check_any _ _ f.l _ _ f.m _).mono ?_; rintro e w' ⟨rfl, rfl⟩; rw [h0])
        go_roundw
        case rel => exact ⟨k + 1, by omega, by go_num, any_take hq.out Hall.out Hl.out, below_alloc hb _⟩
        case measure => (simp [intOf] <;> omega)
      · have h0 : (long2E f.l f.m != 0) = true := by
          cases h0 : (long2E f.l f.m != 0) with
          | true => rfl
          | false => have := lng_iff.2 (by simpa using h0); rw [hlg] at this; cases this
        have h1 : Hid (validE fs = long2E f.l f.m) := Lib.hid (by
          unfold validE; rw [if_pos (any_yes hq.out hlg)]
          have h2 : ¬ long2E f.l f.m = 0 := by simpa using h0
          unfold long2E at h2 ⊢; split at h2 <;> simp_all)
        clear hlg
        go_wp2_with (go_at_call 96; refine (check_any _ _ f.l _ _ f.m _).mono ?_; rintro e w' ⟨rfl, rfl⟩)
        go_ret
        exact ⟨ret_int (by rw [h1.out]), below_alloc hb _⟩
    · obtain rfl : k = fs.length := by omega
      have Hlong : Hid (fs.any Frc.lng = false) := Lib.hid (by have := Hall.out; rwa [List.take_length] at this)
      go_wp2
      go_loopw [25] (fun i wr' => ∃ k : Nat, k ≤ fs.length ∧ i = .int .i64 k ∧ (fs.take k).any Frc.zro = false ∧ Below w.heap.size w wr') (fun i _ => fs.length - (intOf i).toNat)
      case atStart => exact ⟨0, Nat.zero_le _, rfl, by simp, hb⟩
      case round =>
        obtain ⟨k, hk, rfl, hall, hb2⟩ := hrel
        have Hall2 := Lib.hid hall; clear hall
        by_cases hlt : k < fs.length
        · obtain ⟨b, off, f, rfl, hbb, hq, c0, c1⟩ := h.frc hlt hb2
          have hin := (hf _ _ hq.out).on (below_alloc hb2 (.cells #[f.num, f.den] 61))
          have hs := hb2.size
          have hlm := (lng_mem hq.out Hlong.out).2
          by_cases hz : V f.m = 0
          · have hfin : Hid (validE fs = 7) := Lib.hid (by
              unfold validE; rw [Hlong.out, any_yes hq.out (by unfold Frc.zro; simp [hz])]; rfl)
            have e0 : bitLen (V f.m) = 0 := by rw [hz]; exact bitLen_zero
            clear hz
            go_wp2_with (go_at_call 125; refine (size_any _ _ f.m _ hin.d (by omega)).mono ?_; rintro e w' ⟨rfl, rfl⟩; rw [e0])
            go_ret
            exact ⟨ret_int (by rw [hfin.out]), below_alloc hb2 _⟩
          · have e0 : ((bitLen (V f.m) : Int) == 0) = false := by
              have := bitLen_pos (Nat.pos_of_ne_zero hz)
              simp; omega
            have Hz : Hid (f.zro = false) := Lib.hid (by unfold Frc.zro; simp [hz])
            clear hz
            go_wp2_with (go_at_call 125; refine (size_any _ _ f.m _ hin.d (by omega)).mono ?_; rintro e w' ⟨rfl, rfl⟩)
            go_roundw
            case rel => exact ⟨k + 1, by omega, by go_num, any_take hq.out Hall2.out Hz.out, below_alloc hb2 _⟩
            case measure => (simp [intOf] <;> omega)
        · obtain rfl : k = fs.length := by omega
          go_wp2
          go_ret
          exact ⟨ret_int (by unfold validE; have := Hall2.out; rw [List.take_length] at this; rw [Hlong.out, this]; rfl), hb2⟩

theorem frc_lit (w : World) (f : Frc) {b : Nat} (hb : b = w.heap.size) : Arr 2 Frc.enc (w.alloc (.cells #[.slice f.A f.l.length f.c, .slice f.C f.m.length f.d] 61)) (w.alloc (.cells #[.slice f.A f.l.length f.c, .slice f.C f.m.length f.d] 61)).heap.size (some ⟨b, 0, none⟩) [f] := by
  subst hb; exact arr_lit w [f] _ _ rfl Frc.enc_len
theorem frc_lit2 (w : World) (f g : Frc) {b : Nat} (hb : b = w.heap.size) : Arr 2 Frc.enc (w.alloc (.cells #[.slice f.A f.l.length f.c, .slice f.C f.m.length f.d, .slice g.A g.l.length g.c, .slice g.C g.m.length g.d] 61)) (w.alloc (.cells #[.slice f.A f.l.length f.c, .slice f.C f.m.length f.d, .slice g.A g.l.length g.c, .slice g.C g.m.length g.d] 61)).heap.size (some ⟨b, 0, none⟩) [f, g] := by
  subst hb; exact arr_lit w [f, g] _ _ rfl Frc.enc_len
theorem in_one {f : Frc} {w w' : World} (h : f.In w) (hb : Below w.heap.size w w') : ∀ (k : Nat) (x : Frc), [f][k]? = some x → x.In w' := by
  intro k x hx
  have := List.mem_of_getElem? hx
  simp at this; subst this; exact h.on hb
theorem in_two {f g : Frc} {w w' : World} (h : f.In w) (h' : g.In w) (hb : Below w.heap.size w w') : ∀ (k : Nat) (x : Frc), [f, g][k]? = some x → x.In w' := by
  intro k x hx
  have := List.mem_of_getElem? hx
  simp at this
  rcases this with rfl | rfl
  · exact h.on hb
  · exact h'.on hb

set_option maxRecDepth 100000 in
set_option maxHeartbeats 400000 in
theorem CheckFrac_any (f : Frc) (w : World) (h : f.In w) :
    Calls Try.prog 51 #[f.val] w fun e w' => e = .returned (.int .i64 (validE [f])) ∧ Below w.heap.size w w' := by
  unfold Frc.val
  have hb0 := below_alloc (below_alloc (Below.refl w.heap.size w) (.cells #[.slice f.A f.l.length f.c, .slice f.C f.m.length f.d] 61)) (.cells #[.slice f.A f.l.length f.c, .slice f.C f.m.length f.d] 61)
  have cV := valid_any (some ⟨w.heap.size + 1, 0, none⟩) 1 [f] _ (frc_lit (w.alloc (.cells #[.slice f.A f.l.length f.c, .slice f.C f.m.length f.d] 61)) f (by simp)) (in_one h hb0) (by simp)
  rw [List.length_singleton] at cV
  go_enter Try.func51, Try.ntmps51
  go_wp2_with (go_at_call 95; refine (cV).mono ?_; rintro e w3 ⟨rfl, hb3⟩)
  go_ret
  exact ⟨rfl, below_trans hb0 hb3⟩

def fcmpI (f g : Frc) : Int := if validE [f, g] = 0 then cmpI (V f.l * V g.m) (V g.l * V f.m) else 0
end Go.Proofs.Yteoaaphjbggobaa
