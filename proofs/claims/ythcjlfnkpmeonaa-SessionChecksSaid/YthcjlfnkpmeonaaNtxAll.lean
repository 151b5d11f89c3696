/- Contract of exact's choose. For binomials of at most 512 things. Contract of exact's ways. For at most 512 things. Contracts of exact's valid, sane, CheckFrac. For numbers of at most a million limbs. Contract of exact's Bound. For any three numbers, a fraction of at most a million limbs. Contracts of exact's Bound for any numbers, of sift's Rate and Judge. For fractions of at most 900000 limbs. Contract of sift's Judge. For a limit of at most 900000 limbs. -/
import Derived.Test.YthcjlfnkpmeonaaNumAll
import Derived.Deep.DeepCutAuto
import Derived.Test.YthcjlfnkpmeonaaChk
import Derived.Laws.ResultCell
namespace Go.Proofs.Ythcjlfnkpmeonaa
open Go.RowKit
set_option linter.unusedVariables false
set_option linter.unusedSimpArgs false

end Go.Proofs.Ythcjlfnkpmeonaa

namespace Go.Proofs.Ythcjlfnkpmeonaa
open Go.RowKit
set_option linter.unusedVariables false
set_option linter.unusedSimpArgs false

/-- The number of sets that hold i bad things. -/
def wterm (total bad sample i : Nat) : Nat := ch bad i * ch (total - bad) (sample - i)
theorem ways_sum (total bad sample seen : Nat) : waysN total bad sample seen = sumTo (wterm total bad sample) (seen + 1) := rfl
theorem wterm_low {total bad sample i : Nat} (h : total - bad < sample - i) : wterm total bad sample i = 0 := by unfold wterm; rw [ch_gt h]; rfl
theorem wterm_high {total bad sample i : Nat} (h : bad < i) : wterm total bad sample i = 0 := by unfold wterm; rw [ch_gt h, Nat.zero_mul]
theorem sum_low {total bad sample F : Nat} (h : F = sample - (total - bad)) : sumTo (wterm total bad sample) F = 0 := sumTo_zero fun i hi => wterm_low (by omega)
theorem sum_all {total bad sample seen M : Nat} (h : seen ≤ bad ∧ M = seen ∨ bad < seen ∧ M = bad) : sumTo (wterm total bad sample) (M + 1) = waysN total bad sample seen := by
  rw [ways_sum]
  rcases h with ⟨_, rfl⟩ | ⟨h, rfl⟩
  · rfl
  · exact (sumTo_stop _ (by omega) fun i hi => wterm_high (by omega)).symm
theorem sum_none {total bad sample seen F M : Nat} (hF : F = sample - (total - bad)) (h : seen ≤ bad ∧ M = seen ∨ bad < seen ∧ M = bad) (hlt : M < F) : waysN total bad sample seen = 0 := by
  rw [← sum_all h]
  refine sumTo_zero fun i hi => wterm_low (by omega)
theorem limbs_mul (a b : Nat) : (limbs (a * b)).length ≤ (limbs a).length + (limbs b).length := by
  refine digB_len_le b32 ?_
  rw [Nat.pow_add]
  exact Nat.mul_lt_mul'' (digB_lt b32 a) (digB_lt b32 b)
theorem big_zero (w : World) (base : Nat) : Big w base (.slice none 0 0) 0 := by unfold Big limbs; rw [digB_zero]; exact Own.nil
theorem ways_len {total bad sample seen k : Nat} (hb : bad ≤ total) (ht : total ≤ 512) (hk : k ≤ 513) : (limbs (sumTo (wterm total bad sample) k)).length ≤ 17 := by
  have h := ways_le (total := total) (bad := bad) (sample := sample) (seen := k) hb
  rw [ways_sum] at h
  have h1 : sumTo (wterm total bad sample) k ≤ sumTo (wterm total bad sample) (k + 1) := sumTo_mono _ (by omega)
  refine limbs_len (m := total + 10) ?_ (by omega)
  have h2 : (k + 1) * 2 ^ total < 1024 * 2 ^ total := Nat.mul_lt_mul_of_pos_right (by omega) (Nat.pow_pos (by decide))
  rw [Nat.pow_add, Nat.mul_comm (2 ^ total)]
  change _ < 1024 * 2 ^ total
  omega

end Go.Proofs.Ythcjlfnkpmeonaa

namespace Go.Proofs.Ythcjlfnkpmeonaa
open Go.RowKit
set_option linter.unusedVariables false
set_option linter.unusedSimpArgs false

/-- A fraction as it lies: two slices and what they read as. -/
structure Frc where
  A : Option Addr
  c : Nat
  l : List Nat
  C : Option Addr
  d : Nat
  m : List Nat
def Frc.num (f : Frc) : Value := .slice f.A f.l.length f.c
def Frc.den (f : Frc) : Value := .slice f.C f.m.length f.d
def Frc.enc (f : Frc) : List Value := [f.num, f.den]
def Frc.val (f : Frc) : Value := .agg #[.slice f.A f.l.length f.c, .slice f.C f.m.length f.d]
theorem Frc.enc_len (f : Frc) : f.enc.length = 2 := rfl
structure Frc.In (f : Frc) (w : World) : Prop where
  n : Nt w f.A f.c f.l
  d : Nt w f.C f.d f.m
theorem Frc.In.on {f : Frc} {w w' : World} (h : f.In w) (hb : Below w.heap.size w w') : f.In w' := ⟨h.n.on hb, h.d.on hb⟩
def Frc.lng (f : Frc) : Bool := decide (64 < f.l.length ∨ 64 < f.m.length)
def Frc.zro (f : Frc) : Bool := decide (V f.m = 0)
/-- The error of some fractions. -/
def validE (fs : List Frc) : Int := if fs.any Frc.lng then 4 else if fs.any Frc.zro then 7 else 0
theorem Arr.frc {w w' : World} {B : Nat} {A : Option Addr} {k : Nat} {l : List Frc} (h : Arr 2 Frc.enc w B A l) (hk : k < l.length) (hb : Below B w w') :
    ∃ b off f, A = some ⟨b, off, none⟩ ∧ b < B ∧ Hid (l[k]? = some f) ∧ w'.cell? ⟨b, off + k * 2, none⟩ = some (.slice f.A f.l.length f.c) ∧ w'.cell? ⟨b, off + k * 2 + 1, none⟩ = some (.slice f.C f.m.length f.d) := by
  obtain ⟨b, off, rfl, hbb, hc⟩ := h.get hk hb
  exact ⟨b, off, _, rfl, hbb, List.getElem?_eq_getElem hk, hc 0 _ rfl, hc 1 _ rfl⟩
theorem any_take {α : Type} {p : α → Bool} {l : List α} {k : Nat} {x : α} (hx : l[k]? = some x) (h : (l.take k).any p = false) (ho : p x = false) : (l.take (k+1)).any p = false := by
  rw [take_snoc hx, List.any_append, h]; simp [ho]
theorem any_yes {α : Type} {p : α → Bool} {l : List α} {k : Nat} {x : α} (hx : l[k]? = some x) (ho : p x = true) : l.any p = true := by
  rw [List.any_eq_true]; exact ⟨x, List.mem_of_getElem? hx, ho⟩
theorem lng_mem {fs : List Frc} {k : Nat} {f : Frc} (hk : fs[k]? = some f) (h : fs.any Frc.lng = false) : f.l.length ≤ 64 ∧ f.m.length ≤ 64 := by
  rw [List.any_eq_false] at h
  have := h f (List.mem_of_getElem? hk)
  unfold Frc.lng at this
  simp at this
  omega
theorem validE_zero {fs : List Frc} : validE fs = 0 ↔ fs.any Frc.lng = false ∧ fs.any Frc.zro = false := by
  unfold validE
  cases h1 : fs.any Frc.lng <;> cases h2 : fs.any Frc.zro <;> simp
theorem short1 {f : Frc} (h : validE [f] = 0) : f.l.length ≤ 64 ∧ f.m.length ≤ 64 := lng_mem (k := 0) rfl (validE_zero.1 h).1
theorem short2 {f g : Frc} (h : validE [f, g] = 0) : f.l.length ≤ 64 ∧ f.m.length ≤ 64 ∧ g.l.length ≤ 64 ∧ g.m.length ≤ 64 := by
  have h1 := lng_mem (f := f) (k := 0) rfl (validE_zero.1 h).1
  have h2 := lng_mem (f := g) (k := 1) rfl (validE_zero.1 h).1
  omega
theorem lng_iff {f : Frc} : f.lng = false ↔ long2E f.l f.m = 0 := by
  unfold Frc.lng; rw [long2E_zero, decide_eq_false_iff_not]; omega

set_option maxRecDepth 100000 in
set_option maxHeartbeats 2000000 in
theorem valid_any (B : Option Addr) (n : Nat) (fs : List Frc) (w : World) (h : Arr 2 Frc.enc w w.heap.size B fs) (hf : ∀ (k : Nat) (f : Frc), fs[k]? = some f → f.In w) (hl : fs.length ≤ 1000) :
    Calls Try.prog 48 #[.slice B fs.length n] w fun e w' => e = .returned (.int .i64 (validE fs)) ∧ Below w.heap.size w w' := by
  go_enter Try.func48, Try.ntmps48
  go_wp2
  go_loopw [10] (fun i wr => ∃ k : Nat, k ≤ fs.length ∧ i = .int .i64 k ∧ (fs.take k).any Frc.lng = false ∧ Below w.heap.size w wr) (fun i _ => fs.length - (intOf i).toNat)
  case atStart => exact ⟨0, Nat.zero_le _, rfl, by simp, Below.refl _ _⟩
  case round =>
    obtain ⟨k, hk, rfl, hall, hb⟩ := hrel
    have Hall := Lib.hid hall; clear hall
    by_cases hlt : k < fs.length
    · obtain ⟨b, off, f, rfl, hbb, hq, c0, c1⟩ := h.frc hlt hb
      have hin := (hf _ _ hq.out).on hb
      have hs := hb.size
      cases hlg : f.lng
      · have h0 := lng_iff.1 hlg
        have Hl := Lib.hid hlg
        clear hlg
        go_wp2_with (go_at_call 49; refine (check_any _ _ f.l _ _ f.m _).mono ?_; rintro e w' ⟨rfl, rfl⟩; rw [h0])
        go_roundw
        case rel => exact ⟨k + 1, by omega, by go_num, any_take hq.out Hall.out Hl.out, below_alloc hb _⟩
        case measure => (simp [intOf] <;> omega)
      · have h0 : (long2E f.l f.m != 0) = true := by
          cases h0 : (long2E f.l f.m != 0) with
          | true => rfl
          | false => have := lng_iff.2 (by simpa using h0); rw [hlg] at this; cases this
        have h1 : Hid (validE fs = long2E f.l f.m) := Lib.hid (by
          unfold validE; rw [if_pos (any_yes hq.out hlg)]
          have h2 : ¬ long2E f.l f.m = 0 := by simpa using h0
          unfold long2E at h2 ⊢; split at h2 <;> simp_all)
        clear hlg
        go_wp2_with (go_at_call 49; refine (check_any _ _ f.l _ _ f.m _).mono ?_; rintro e w' ⟨rfl, rfl⟩)
        go_ret
        exact ⟨ret_int (by rw [h1.out]), below_alloc hb _⟩
    · obtain rfl : k = fs.length := by omega
      have Hlong : Hid (fs.any Frc.lng = false) := Lib.hid (by have := Hall.out; rwa [List.take_length] at this)
      go_wp2
      go_loopw [25] (fun i wr' => ∃ k : Nat, k ≤ fs.length ∧ i = .int .i64 k ∧ (fs.take k).any Frc.zro = false ∧ Below w.heap.size w wr') (fun i _ => fs.length - (intOf i).toNat)
      case atStart => exact ⟨0, Nat.zero_le _, rfl, by simp, hb⟩
      case round =>
        obtain ⟨k, hk, rfl, hall, hb2⟩ := hrel
        have Hall2 := Lib.hid hall; clear hall
        by_cases hlt : k < fs.length
        · obtain ⟨b, off, f, rfl, hbb, hq, c0, c1⟩ := h.frc hlt hb2
          have hin := (hf _ _ hq.out).on (below_alloc hb2 (.cells #[f.num, f.den] 30))
          have hs := hb2.size
          have hlm := (lng_mem hq.out Hlong.out).2
          by_cases hz : V f.m = 0
          · have hfin : Hid (validE fs = 7) := Lib.hid (by
              unfold validE; rw [Hlong.out, any_yes hq.out (by unfold Frc.zro; simp [hz])]; rfl)
            have e0 : bitLen (V f.m) = 0 := by rw [hz]; exact bitLen_zero
            clear hz
            go_wp2_with (go_at_call 68; refine (size_any _ _ f.m _ hin.d (by omega)).mono ?_; rintro e w' ⟨rfl, rfl⟩; rw [e0])
            go_ret
            exact ⟨ret_int (by rw [hfin.out]), below_alloc hb2 _⟩
          · have e0 : ((bitLen (V f.m) : Int) == 0) = false := by
              have := bitLen_pos (Nat.pos_of_ne_zero hz)
              simp; omega
            have Hz : Hid (f.zro = false) := Lib.hid (by unfold Frc.zro; simp [hz])
            clear hz
            go_wp2_with (go_at_call 68; refine (size_any _ _ f.m _ hin.d (by omega)).mono ?_; rintro e w' ⟨rfl, rfl⟩)
            go_roundw
            case rel => exact ⟨k + 1, by omega, by go_num, any_take hq.out Hall2.out Hz.out, below_alloc hb2 _⟩
            case measure => (simp [intOf] <;> omega)
        · obtain rfl : k = fs.length := by omega
          go_wp2
          go_ret
          exact ⟨ret_int (by unfold validE; have := Hall2.out; rw [List.take_length] at this; rw [Hlong.out, this]; rfl), hb2⟩

theorem frc_lit (w : World) (f : Frc) {b : Nat} (hb : b = w.heap.size) : Arr 2 Frc.enc (w.alloc (.cells #[.slice f.A f.l.length f.c, .slice f.C f.m.length f.d] 30)) (w.alloc (.cells #[.slice f.A f.l.length f.c, .slice f.C f.m.length f.d] 30)).heap.size (some ⟨b, 0, none⟩) [f] := by
  subst hb; exact arr_lit w [f] _ _ rfl Frc.enc_len
theorem frc_lit2 (w : World) (f g : Frc) {b : Nat} (hb : b = w.heap.size) : Arr 2 Frc.enc (w.alloc (.cells #[.slice f.A f.l.length f.c, .slice f.C f.m.length f.d, .slice g.A g.l.length g.c, .slice g.C g.m.length g.d] 30)) (w.alloc (.cells #[.slice f.A f.l.length f.c, .slice f.C f.m.length f.d, .slice g.A g.l.length g.c, .slice g.C g.m.length g.d] 30)).heap.size (some ⟨b, 0, none⟩) [f, g] := by
  subst hb; exact arr_lit w [f, g] _ _ rfl Frc.enc_len
theorem in_one {f : Frc} {w w' : World} (h : f.In w) (hb : Below w.heap.size w w') : ∀ (k : Nat) (x : Frc), [f][k]? = some x → x.In w' := by
  intro k x hx
  have := List.mem_of_getElem? hx
  simp at this; subst this; exact h.on hb
theorem in_two {f g : Frc} {w w' : World} (h : f.In w) (h' : g.In w) (hb : Below w.heap.size w w') : ∀ (k : Nat) (x : Frc), [f, g][k]? = some x → x.In w' := by
  intro k x hx
  have := List.mem_of_getElem? hx
  simp at this
  rcases this with rfl | rfl
  · exact h.on hb
  · exact h'.on hb

set_option maxRecDepth 100000 in
set_option maxHeartbeats 400000 in
theorem CheckFrac_any (f : Frc) (w : World) (h : f.In w) :
    Calls Try.prog 22 #[f.val] w fun e w' => e = .returned (.int .i64 (validE [f])) ∧ Below w.heap.size w w' := by
  unfold Frc.val
  have hb0 := below_alloc (below_alloc (Below.refl w.heap.size w) (.cells #[.slice f.A f.l.length f.c, .slice f.C f.m.length f.d] 30)) (.cells #[.slice f.A f.l.length f.c, .slice f.C f.m.length f.d] 30)
  have cV := valid_any (some ⟨w.heap.size + 1, 0, none⟩) 1 [f] _ (frc_lit (w.alloc (.cells #[.slice f.A f.l.length f.c, .slice f.C f.m.length f.d] 30)) f (by simp)) (in_one h hb0) (by simp)
  rw [List.length_singleton] at cV
  go_enter Try.func22, Try.ntmps22
  go_wp2_with (go_at_call 48; refine (cV).mono ?_; rintro e w3 ⟨rfl, hb3⟩)
  go_ret
  exact ⟨rfl, below_trans hb0 hb3⟩

def fcmpI (f g : Frc) : Int := if validE [f, g] = 0 then cmpI (V f.l * V g.m) (V g.l * V f.m) else 0
end Go.Proofs.Ythcjlfnkpmeonaa

namespace Go.Proofs.Ythcjlfnkpmeonaa
open Go.RowKit
set_option linter.unusedVariables false
set_option linter.unusedSimpArgs false

/-- The greatest number up to hi, from lo on, that a search by halves finds. -/
def bs (p : Nat → Bool) (lo hi : Nat) : Nat :=
  if h : lo < hi then (if p ((lo + hi + 1) / 2) = true then bs p ((lo + hi + 1) / 2) hi else bs p lo ((lo + hi + 1) / 2 - 1)) else lo
termination_by hi - lo
theorem bs_yes {p : Nat → Bool} {lo hi : Nat} (h : lo < hi) (hp : p ((lo + hi + 1) / 2) = true) : bs p lo hi = bs p ((lo + hi + 1) / 2) hi := by rw [bs, dif_pos h, if_pos hp]
theorem bs_no {p : Nat → Bool} {lo hi : Nat} (h : lo < hi) (hp : p ((lo + hi + 1) / 2) = false) : bs p lo hi = bs p lo ((lo + hi + 1) / 2 - 1) := by rw [bs, dif_pos h, if_neg (by simp [hp])]
theorem bs_end {p : Nat → Bool} {lo hi : Nat} (h : hi ≤ lo) : bs p lo hi = lo := by rw [bs, dif_neg (by omega)]
theorem bs_between {p : Nat → Bool} {lo hi : Nat} (h : lo ≤ hi) : lo ≤ bs p lo hi ∧ bs p lo hi ≤ hi := by
  obtain ⟨n, hn⟩ : ∃ n, hi - lo = n := ⟨_, rfl⟩
  induction n using Nat.strongRecOn generalizing lo hi with
  | ind n ih =>
    rcases Nat.lt_or_ge lo hi with hlt | hge
    · cases hp : p ((lo + hi + 1) / 2)
      · rw [bs_no hlt hp]
        have := ih (((lo + hi + 1) / 2 - 1) - lo) (by omega) (by omega) rfl
        omega
      · rw [bs_yes hlt hp]
        have := ih (hi - (lo + hi + 1) / 2) (by omega) (by omega) rfl
        omega
    · rw [bs_end hge]; omega

def possB (total sample seen num den : Nat) (bad : Nat) : Bool := decide (num * ch total sample < waysN total bad sample seen * den)
/-- The error of a bound. -/
def boundE (t s n : Int) (f : Frc) : Int := if validE [f] ≠ 0 then validE [f] else if ¬ (0 ≤ t ∧ t ≤ 512 ∧ 0 ≤ s ∧ s ≤ t ∧ 0 ≤ n ∧ n ≤ s) then 3 else if V f.m ≤ V f.l then 2 else 0
def boundI (t s n : Int) (f : Frc) : Int := if boundE t s n f = 0 then (bs (possB t.toNat s.toNat n.toNat (V f.l) (V f.m)) n.toNat t.toNat : Nat) else 0

theorem box_new {w y : World} {v : Value} {T : TypeId} (h : Below (w.alloc (.cells #[v] T)).heap.size (w.alloc (.cells #[v] T)) y) : y.cell? ⟨w.heap.size, 0, none⟩ = some v ∧ y.frozen? ⟨w.heap.size, 0, none⟩ = false :=
  ⟨bel_cell h (new_cell rfl), (h.frozen (p := ⟨w.heap.size, 0, none⟩) (by simp)).trans (World.frozen?_alloc_at _ _ _ _ rfl)⟩
theorem box_newd {w y : World} {v : Value} {T : TypeId} (h : Below (w.alloc (.cells #[v] T)).drew.heap.size (w.alloc (.cells #[v] T)).drew y) : y.cell? ⟨w.heap.size, 0, none⟩ = some v ∧ y.frozen? ⟨w.heap.size, 0, none⟩ = false :=
  ⟨bel_cell h (new_cell (w := w) rfl), (h.frozen (p := ⟨w.heap.size, 0, none⟩) (by simp)).trans (World.frozen?_alloc_at (w := w) _ _ _ _ rfl)⟩
theorem box_on {w y : World} {v : Value} {a : Addr} (h : Below w.heap.size w y) (hc : w.cell? a = some v ∧ w.frozen? a = false) : y.cell? a = some v ∧ y.frozen? a = false :=
  ⟨bel_cell h hc.1, (h.frozen (World.block_lt_of_cell? w a hc.1)).trans hc.2⟩
theorem cell_set {w : World} {g : Nat} {v : Value} (h : w.cell? ⟨g, 0, none⟩ = some v) (u : Value) : (w.setCell ⟨g, 0, none⟩ u).cell? ⟨g, 0, none⟩ = some u := by
  go_simp
theorem nt_set {w : World} {base : Nat} {v : Value} {A : Option Addr} {k c n g : Nat} (hv : v = .slice A k c) (b : Big w base v n) (hlt : g < base) (u : Value) : Nt (w.setCell ⟨g, 0, none⟩ u) A c (limbs n) := by
  subst hv
  exact own_nt2 (Own.keep_lt b (grown_set _ _ _ _) hlt) (limbs_dig _)
theorem cell_al {w : World} {a : Addr} {v : Value} (h : w.cell? a = some v) (o : Obj) : (w.alloc o).cell? a = some v := by
  rw [World.cell?_alloc_lt w o a (World.block_lt_of_cell? w a h)]; exact h

end Go.Proofs.Ythcjlfnkpmeonaa

namespace Go.Proofs.Ythcjlfnkpmeonaa
open Go.RowKit
set_option linter.unusedVariables false
set_option linter.unusedSimpArgs false

theorem boundE1 {t s n : Int} {f : Frc} (h : validE [f] ≠ 0) : boundE t s n f = validE [f] ∧ boundI t s n f = 0 := by
  have e : boundE t s n f = validE [f] := by unfold boundE; rw [if_pos h]
  exact ⟨e, by unfold boundI; rw [e, if_neg h]⟩
theorem boundE2 {t s n : Int} {f : Frc} (h : validE [f] = 0) (h2 : ¬ (0 ≤ t ∧ t ≤ 512 ∧ 0 ≤ s ∧ s ≤ t ∧ 0 ≤ n ∧ n ≤ s)) : boundE t s n f = 3 ∧ boundI t s n f = 0 := by
  have e : boundE t s n f = 3 := by unfold boundE; rw [if_neg (by simp [h]), if_pos h2]
  exact ⟨e, by unfold boundI; rw [e]; rfl⟩
theorem boundE3 {t s n : Int} {f : Frc} (h : validE [f] = 0) (h2 : 0 ≤ t ∧ t ≤ 512 ∧ 0 ≤ s ∧ s ≤ t ∧ 0 ≤ n ∧ n ≤ s) (h3 : V f.m ≤ V f.l) : boundE t s n f = 2 ∧ boundI t s n f = 0 := by
  have e : boundE t s n f = 2 := by unfold boundE; rw [if_neg (by simp [h]), if_neg (by simp [h2]), if_pos h3]
  exact ⟨e, by unfold boundI; rw [e]; rfl⟩
theorem boundE4 {t s n : Int} {f : Frc} (h : validE [f] = 0) (h2 : 0 ≤ t ∧ t ≤ 512 ∧ 0 ≤ s ∧ s ≤ t ∧ 0 ≤ n ∧ n ≤ s) (h3 : ¬ V f.m ≤ V f.l) : boundE t s n f = 0 ∧ boundI t s n f = (bs (possB t.toNat s.toNat n.toNat (V f.l) (V f.m)) n.toNat t.toNat : Nat) := by
  have e : boundE t s n f = 0 := by unfold boundE; rw [if_neg (by simp [h]), if_neg (by simp [h2]), if_neg h3]
  exact ⟨e, by unfold boundI; rw [e]; rfl⟩

theorem blk_new {w y : World} {cs : Array Value} {T : TypeId} (h : Below (w.alloc (.cells cs T)).heap.size (w.alloc (.cells cs T)) y) {g : Nat} (hg : g = w.heap.size) {j : Nat} {v : Value} (hj : cs[j]? = some v) : y.cell? ⟨g, j, none⟩ = some v ∧ y.frozen? ⟨g, j, none⟩ = false := by
  subst hg
  exact ⟨bel_cell h (new_cell hj), (h.frozen (p := ⟨w.heap.size, j, none⟩) (by simp)).trans (World.frozen?_alloc_at _ _ _ _ rfl)⟩
def zero5 : Value := .agg #[.int .i64 0, .int .i64 0, .int .i64 0, .int .i64 0, .int .i64 0]
/-- The estimate. -/
def rateV (t s n : Int) (f : Frc) : Value := if boundE t s n f = 0 then .agg #[.int .i64 t, .int .i64 s, .int .i64 n, .int .i64 (boundI t s n f), .int .i64 (boundI t s n f - n)] else zero5

theorem bound_ok {t s n : Int} {f : Frc} (h : boundE t s n f = 0) : 0 ≤ n ∧ n ≤ boundI t s n f ∧ boundI t s n f ≤ t ∧ t ≤ 512 := by
  have h1 : validE [f] = 0 := by
    refine Classical.byContradiction fun h1 => ?_
    rw [(boundE1 h1).1] at h; exact h1 h
  have h2 : 0 ≤ t ∧ t ≤ 512 ∧ 0 ≤ s ∧ s ≤ t ∧ 0 ≤ n ∧ n ≤ s := by
    refine Classical.byContradiction fun h2 => ?_
    rw [(boundE2 h1 h2).1] at h; cases h
  have h3 : ¬ V f.m ≤ V f.l := fun h3 => by rw [(boundE3 h1 h2 h3).1] at h; cases h
  rw [(boundE4 h1 h2 h3).2]
  have := bs_between (p := possB t.toNat s.toNat n.toNat (V f.l) (V f.m)) (lo := n.toNat) (hi := t.toNat) (by omega)
  omega

/-- The verdict: the error of a limit, or of the numbers, or 18. -/
def judgeE (s n : Int) (f : Frc) : Int := if validE [f] ≠ 0 then validE [f] else if ¬ (0 ≤ s ∧ s ≤ 512 ∧ 0 ≤ n ∧ n ≤ s) then 3 else if s = 0 then 0 else if V f.l * s.toNat < n.toNat * V f.m then 18 else 0

end Go.Proofs.Ythcjlfnkpmeonaa

namespace Go.Proofs.Ythcjlfnkpmeonaa
open Go.RowKit
set_option linter.unusedVariables false
set_option linter.unusedSimpArgs false

theorem limbs_small {n : Nat} (h : n < 4294967296) : (limbs n).length ≤ 1 := limbs_len (m := 32) h (by decide)
theorem judgeE1 {s n : Int} {f : Frc} (h : validE [f] ≠ 0) : judgeE s n f = validE [f] := by unfold judgeE; rw [if_pos h]
theorem judgeE2 {s n : Int} {f : Frc} (h : validE [f] = 0) (h2 : ¬ (0 ≤ s ∧ s ≤ 512 ∧ 0 ≤ n ∧ n ≤ s)) : judgeE s n f = 3 := by unfold judgeE; rw [if_neg (by simp [h]), if_pos h2]
theorem judgeE3 {s n : Int} {f : Frc} (h : validE [f] = 0) (h2 : 0 ≤ s ∧ s ≤ 512 ∧ 0 ≤ n ∧ n ≤ s) (h3 : s = 0) : judgeE s n f = 0 := by unfold judgeE; rw [if_neg (by simp [h]), if_neg (by simp [h2]), if_pos h3]
theorem judgeE4 {s n : Int} {f : Frc} (h : validE [f] = 0) (h2 : 0 ≤ s ∧ s ≤ 512 ∧ 0 ≤ n ∧ n ≤ s) (h3 : ¬ s = 0) : judgeE s n f = if V f.l * s.toNat < n.toNat * V f.m then 18 else 0 := by
  unfold judgeE; rw [if_neg (by simp [h]), if_neg (by simp [h2]), if_neg h3]

end Go.Proofs.Ythcjlfnkpmeonaa
