/- Contracts of algebra's modulus and times. For the widths 8, 16 and 32, and elements of the field. Contracts of algebra's number and of the reference's Word, modulus, Mul. For strings of at most 40 bits; for elements of the field. Contracts of the reference's Words and Hash. For the widths 8, 16 and 32; for strings of at most 100000 bits. -/
import Derived.Test.YtfolgmcoggejbaaGreatProg
import Derived.Test.YtfolgmcoggejbaaGreatGfqAll
import Derived.Test.YtfolgmcoggejbaaGreatMade
import Derived.Laws.BitsAllLaws
namespace Go.Proofs.YtfolgmcoggejbaaGreat
open Go.RowKit
set_option linter.unusedVariables false
set_option linter.unusedSimpArgs false

set_option maxHeartbeats 400000 in
theorem modulus_any (w : Nat) (v : World) (hw : Wd w) : Calls Tryz.prog 160 #[.int .i64 w] v fun e w' => e = .returned (.int .u64 (gp w)) ∧ v = w' := by
  rcases hw with rfl | rfl | rfl
  all_goals (
    go_enter Tryz.func160, Tryz.ntmps160
    go_wp2
    go_ret
    exact ⟨rfl, rfl⟩)

theorem hi_bit {w c : Nat} (hw : 1 ≤ w) (hc : c < 2 ^ w) : ((c : Int) * 2 / 2 ^ w != 0) = c.testBit (w - 1) := by
  obtain ⟨k, rfl⟩ : ∃ k, w = k + 1 := ⟨w - 1, by omega⟩
  have e : (c : Int) * 2 / 2 ^ (k + 1) = ((c / 2 ^ k : Nat) : Int) := by
    have : (c : Int) * 2 / 2 ^ (k + 1) = ((c * 2 / 2 ^ (k + 1) : Nat) : Int) := by simp
    rw [this, Nat.pow_succ, Nat.mul_div_mul_right _ _ (by decide)]
  rw [e, Nat.add_sub_cancel, Nat.testBit_eq_decide_div_mod_eq]
  rw [Nat.pow_succ] at hc
  have hlt : c / 2 ^ k < 2 := by rw [Nat.div_lt_iff_lt_mul (Nat.pow_pos (by decide))]; omega
  generalize c / 2 ^ k = q at *
  rcases (show q = 0 ∨ q = 1 by omega) with rfl | rfl <;> rfl
theorem lo_bit {d : Nat} (hd : d < 4294967296) : (bits BinOp.and IntKind.u64 (d : Int) 1 == 1) = decide (d % 2 = 1) := by
  rw [show (1 : Int) = ((1 : Nat) : Int) from rfl, u64_and_nat d 1 (by omega) (by omega), Nat.and_one_is_mod]
  rw [Bool.eq_iff_iff]; simp; omega
theorem shl_two (c : Nat) : c <<< 1 = c * 2 := by rw [Nat.shiftLeft_eq]
theorem gp_lt (w : Nat) : gp w < 4294967437 + 1 := by unfold gp; split <;> (try split) <;> decide
theorem xor_u64 {a b : Nat} (ha : a < 9000000000) (hb : b < 9000000000) : bits .xor .u64 (a : Int) (b : Int) = ((a ^^^ b : Nat) : Int) := u64_xor_nat a b (by omega) (by omega)

set_option maxHeartbeats 1000000 in
theorem times_gf (w a b : Nat) (v : World) (hw : Wd w) (ha : a < 2 ^ w) (hb : b < 2 ^ w) : Calls Tryz.prog 112 #[.int .i64 w, .int .u64 a, .int .u64 b] v fun e w' => e = .returned (.int .u64 (gm w a b)) ∧ v = w' := by
  have hw32 : w ≤ 32 := by rcases hw with h | h | h <;> omega
  have p32 : 2 ^ w ≤ 4294967296 := Nat.pow_le_pow_right (n := 2) (by decide) hw32
  have Hw := Lib.hid hw
  clear hw
  go_enter Tryz.func112, Tryz.ntmps112
  go_wp2
  go_loop [1, 2, 6] (fun x y n => ∃ c d m : Nat, x = .int .u64 c ∧ y = .int .u64 d ∧ n = .int .u64 m ∧ c < 2 ^ w ∧ d ≤ b ∧ m < 2 ^ w ∧ Hid (m ^^^ gm w c d = gm w a b)) (fun _ y _ => (intOf y).toNat)
  case atStart => exact ⟨a, b, 0, rfl, rfl, rfl, ha, Nat.le_refl _, Nat.pow_pos (by decide), Lib.hid (by simp)⟩
  case round =>
    obtain ⟨c, d, m, rfl, rfl, rfl, hc, hd, hm, hinv⟩ := hrel
    rcases Nat.eq_zero_or_pos d with rfl | hd0
    · go_wp2
      go_ret
      exact ⟨ret_int (by have := hinv.out; rw [gm_zero, Nat.xor_zero] at this; rw [this]), rfl⟩
    · have c32 : c < 4294967296 := by omega
      have d32 : d < 4294967296 := by omega
      have m32 : m < 4294967296 := by omega
      have hb1 := hi_bit (w := w) (by rcases Hw.out with h | h | h <;> omega) hc
      have hb2 := lo_bit d32
      have st := Lib.hid (gm_step w c d)
      have hx := xt_lt Hw.out hc
      have Hx := Lib.hid hx
      have Hc := Lib.hid hc
      have Hm := Lib.hid hm
      have hxe : Hid (xt w c = (c * 2) ^^^ (if c.testBit (w - 1) = true then gp w else 0)) := Lib.hid (by unfold xt; rw [shl_two])
      have gl := gp_lt w
      have X1 : bits .xor .u64 ((c : Int) * 2) (gp w : Int) = ((c * 2 ^^^ gp w : Nat) : Int) := by
        have := xor_u64 (a := c * 2) (b := gp w) (by omega) (by omega)
        rw [← this]; simp
      have X2 := xor_u64 (a := m) (b := c) (by omega) (by omega)
      have hdv : d / 2 < d := by omega
      have hdb : d / 2 ≤ b := by omega
      have ed : (d : Int) / 2 = ((d / 2 : Nat) : Int) := by omega
      have HX1 := Lib.hid X1
      have HX2 := Lib.hid X2
      have Hed := Lib.hid ed
      clear hc hm p32 ha hb hx X1 X2 ed hd
      cases h1 : c.testBit (w - 1) <;> by_cases h2 : d % 2 = 1
      all_goals
        rw [h1] at hb1
        have Hh1 := Lib.hid h1
        have Hh2 := Lib.hid h2
        first
          | (rw [decide_eq_true h2] at hb2)
          | (rw [decide_eq_false h2] at hb2)
        clear h1 h2
        go_wp2_with (go_at_call 160; refine (modulus_any _ _ Hw.out).mono ?_; rintro e w' ⟨rfl, rfl⟩)
        refine ⟨⟨xt w c, d / 2, if d % 2 = 1 then m ^^^ c else m, ?_, by rw [Hed.out], ?_, Hx.out, hdb, ?_, Lib.hid ?_⟩, by rw [Hed.out]; simp [intOf]; omega⟩
        · rw [hxe.out, Hh1.out]
          first
            | (rw [HX1.out]; rfl)
            | simp
        · first
            | (rw [HX2.out, if_pos Hh2.out])
            | (rw [if_neg Hh2.out])
        · split
          · exact Nat.xor_lt_two_pow Hm.out Hc.out
          · exact Hm.out
        · rw [← hinv.out, st.out]
          split
          · rw [Nat.xor_assoc]
          · simp

end Go.Proofs.YtfolgmcoggejbaaGreat

namespace Go.Proofs.YtfolgmcoggejbaaGreat
open Go.RowKit
set_option linter.unusedVariables false
set_option linter.unusedSimpArgs false

theorem or_one {n : Nat} (h : n < 4611686018427387904) : bits .or .u64 ((n : Int) * 2) 1 = ((2 * n + 1 : Nat) : Int) := by
  have e := u64_or_nat (n * 2) 1 (by omega) (by omega)
  have e2 : (n * 2) ||| 1 = 2 * n + 1 := by
    have := Nat.two_pow_add_eq_or_of_lt (i := 1) (b := 1) (by decide) n
    rw [Nat.mul_comm n 2]
    simpa using this.symm
  rw [e2] at e
  rw [← e]; simp

set_option maxHeartbeats 1000000 in
theorem number_any (A : Option Addr) (c : Nat) (l : List Bool) (w : World) (h : Arr 1 encB w w.heap.size A l) (hl : l.length ≤ 40) :
    Calls Tryz.prog 162 #[.slice A l.length c] w fun e w' => e = .returned (.int .u64 (bval l)) ∧ w = w' := by
  go_enter Tryz.func162, Tryz.ntmps162
  go_wp2
  go_loop [2, 7] (fun n i => ∃ k : Nat, k ≤ l.length ∧ i = .int .i64 k ∧ n = .int .u64 (bval (l.take k))) (fun _ i => l.length - (intOf i).toNat)
  case atStart => exact ⟨0, Nat.zero_le _, rfl, rfl⟩
  case round =>
    obtain ⟨k, hk, rfl, rfl⟩ := hrel
    by_cases hlt : k < l.length
    · obtain ⟨b, off, x, rfl, hbb, hx, c0⟩ := h.bool hlt (Below.refl _ _)
      have st := Lib.hid (bval_take hx.out)
      have bl := bval_lt (l.take k)
      have bl2 : bval (l.take k) < 1099511627776 := Nat.lt_of_lt_of_le bl (Nat.pow_le_pow_right (by decide : 0 < 2) (show (l.take k).length ≤ 40 by rw [List.length_take]; omega))
      obtain ⟨n, hn⟩ : ∃ n, bval (l.take k) = n := ⟨_, rfl⟩
      rw [hn] at bl2 st ⊢
      clear bl hn
      have o1 := or_one (n := n) (by omega)
      cases x
      · go_wp2
        go_round
        case rel => exact ⟨k + 1, by omega, by go_num, by rw [st.out]; go_num⟩
        case measure => simp [intOf]; omega
      · go_wp2
        go_round
        case rel => exact ⟨k + 1, by omega, by go_num, by rw [st.out]; rfl⟩
        case measure => simp [intOf]; omega
    · have e1 : Hid (l.take k = l) := Lib.hid (List.take_of_length_le (by omega))
      rw [e1.out]
      go_wp2
      go_ret
      exact ⟨rfl, rfl⟩

theorem bit_eq (b k : Nat) : (((b : Int) / 2 ^ k).tmod 2 == 1) = b.testBit k := by
  have e : ((b : Int) / 2 ^ k).tmod 2 = ((b / 2 ^ k % 2 : Nat) : Int) := by
    have : (b : Int) / 2 ^ k = ((b / 2 ^ k : Nat) : Int) := by simp
    rw [this]; rfl
  rw [e, Nat.testBit_eq_decide_div_mod_eq]
  have : b / 2 ^ k % 2 < 2 := Nat.mod_lt _ (by decide)
  generalize b / 2 ^ k % 2 = q at *
  rcases (show q = 0 ∨ q = 1 by omega) with rfl | rfl <;> rfl
theorem shl_fit {a k : Nat} (ha : a < 8589934592) (hk : k ≤ 31) : IntKind.u64.wrap ((a : Int) * 2 ^ k) = ((a <<< k : Nat) : Int) ∧ a <<< k < 2 ^ 64 := by
  have h1 : a <<< k < 2 ^ 64 := by
    rw [Nat.shiftLeft_eq]
    calc a * 2 ^ k < 2 ^ 33 * 2 ^ k := Nat.mul_lt_mul_of_pos_right (by omega) (Nat.pow_pos (by decide))
      _ ≤ 2 ^ 33 * 2 ^ 31 := Nat.mul_le_mul_left _ (Nat.pow_le_pow_right (by decide) hk)
      _ = 2 ^ 64 := by decide
  refine ⟨?_, h1⟩
  have e : (a : Int) * 2 ^ k = ((a <<< k : Nat) : Int) := by rw [Nat.shiftLeft_eq]; simp
  rw [e]
  generalize a <<< k = x at *
  have h2 : x < 18446744073709551616 := h1
  simp [IntKind.wrap, IntKind.bits, IntKind.signed]
  omega
theorem xor_64 {a b : Nat} (ha : a < 2 ^ 64) (hb : b < 2 ^ 64) : bits .xor .u64 (a : Int) (b : Int) = ((a ^^^ b : Nat) : Int) := u64_xor_nat a b ha hb
theorem clN_lt {a b : Nat} (ha : a < 4294967296) : ∀ k, k ≤ 32 → clN a b k < 2 ^ 64
  | 0, _ => Nat.pow_pos (by decide)
  | k + 1, hk => by
    rw [clN]
    refine Nat.xor_lt_two_pow (clN_lt ha k (by omega)) ?_
    split
    · exact (shl_fit (by omega) (by omega)).2
    · exact Nat.pow_pos (by decide)

end Go.Proofs.YtfolgmcoggejbaaGreat

namespace Go.Proofs.YtfolgmcoggejbaaGreat
open Go.RowKit
set_option linter.unusedVariables false
set_option linter.unusedSimpArgs false

def enc64 (n : Nat) : List Value := [.int .u64 (n : Int)]
theorem enc64_len (c : Nat) : (enc64 c).length = 1 := rfl
theorem enc64_one (c : Nat) : ∀ u ∈ enc64 c, u.oneCell' = true := by simp [enc64, Value.oneCell']
theorem Arr.u64 {w w' : World} {B : Nat} {A : Option Addr} {k : Nat} {l : List Nat} (h : Arr 1 enc64 w B A l) (hk : k < l.length) (hb : Below B w w') :
    ∃ b off x, A = some ⟨b, off, none⟩ ∧ b < B ∧ Hid (l[k]? = some x) ∧ w'.cell? ⟨b, off + k, none⟩ = some (.int .u64 (x : Int)) := by
  obtain ⟨b, off, rfl, hbb, hc⟩ := h.get hk hb
  exact ⟨b, off, _, rfl, hbb, List.getElem?_eq_getElem hk, by have := hc 0 _ rfl; simpa using this⟩
theorem u64_info : (Tryz.prog.info? 24).map (fun i => (i.zero, i.size, i.bytes)) = some (some (.int .u64 0), 1, 8) := by kernel_rfl
theorem bool_info : (Tryz.prog.info? 4).map (fun i => (i.zero, i.size, i.bytes)) = some (some (.bool false), 1, 1) := by kernel_rfl
theorem Arr.drop {α : Type} {sz : Nat} {enc : α → List Value} {w : World} {B b off : Nat} {l : List α} (h : Arr sz enc w B (some ⟨b, off, none⟩) l) (n : Nat) : Arr sz enc w B (some ⟨b, off + n * sz, none⟩) (l.drop n) := fun hl => by
  obtain ⟨b', off', e, hbb, hc⟩ := h (by rintro rfl; simp at hl)
  simp only [Option.some.injEq, Addr.mk.injEq, and_true] at e
  obtain ⟨rfl, rfl⟩ := e
  refine ⟨b, off + n * sz, rfl, hbb, fun i x hx j u hu => ?_⟩
  rw [List.getElem?_drop] at hx
  have := hc (n + i) x hx j u hu
  rw [Nat.add_mul] at this
  rwa [← Nat.add_assoc] at this

theorem arr_take {α : Type} {sz : Nat} {enc : α → List Value} {w : World} {B : Nat} {A : Option Addr} {l : List α} (h : Arr sz enc w B A l) (n : Nat) : Arr sz enc w B A (l.take n) := fun hl => by
  obtain ⟨b, off, rfl, hbb, hc⟩ := h (by rintro rfl; simp at hl)
  refine ⟨b, off, rfl, hbb, fun i x hx j u hu => hc i x ?_ j u hu⟩
  rw [List.getElem?_take] at hx
  split at hx
  · exact hx
  · cases hx
/-- The length of a slice. -/
def lenOf : Value → Nat
  | .slice _ n _ => n
  | _ => 0
/-- So many bits are added. -/
def padN (w n : Nat) : Nat := if (n + 1) % w = 0 then 0 else w - (n + 1) % w
theorem padN_lt {w n : Nat} (hw : 0 < w) : padN w n < w := by
  unfold padN
  split
  · exact hw
  · omega
theorem padN_end {w n : Nat} (hw : 0 < w) : (n + 1 + padN w n) % w = 0 := by
  unfold padN
  split
  · rename_i h; simpa using h
  · have h1 := Nat.div_add_mod (n + 1) w
    have h2 := Nat.mod_lt (n + 1) hw
    have : n + 1 + (w - (n + 1) % w) = w * ((n + 1) / w + 1) := by rw [Nat.mul_add]; omega
    rw [this]; exact Nat.mul_mod_right _ _
theorem padN_mid {w n z : Nat} (hw : 0 < w) (hz : z < padN w n) : (n + 1 + z) % w ≠ 0 := by
  unfold padN at hz
  split at hz
  · omega
  · rename_i h
    have h1 := Nat.div_add_mod (n + 1) w
    have h2 := Nat.mod_lt (n + 1) hw
    have : n + 1 + z = ((n + 1) % w + z) + w * ((n + 1) / w) := by omega
    rw [this, Nat.add_mul_mod_self_left, Nat.mod_eq_of_lt (by omega)]
    omega
theorem chunk_next {w j : Nat} {l : List Bool} (hw : 0 < w) (h : j * w + w ≤ l.length) : chunks w (l.drop (j * w)) = bval ((l.drop (j * w)).take w) :: chunks w (l.drop ((j + 1) * w)) := by
  rw [chunks_more hw (by rw [List.length_drop]; omega), List.drop_drop, Nat.add_mul, Nat.one_mul]

end Go.Proofs.YtfolgmcoggejbaaGreat
