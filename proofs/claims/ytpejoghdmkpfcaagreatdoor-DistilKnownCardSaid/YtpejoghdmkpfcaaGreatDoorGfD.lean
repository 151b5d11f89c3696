/- Contract of the reference's Hash. For the widths 8, 16 and 32, keys of the field, strings of at most 100000 bits. -/
import Derived.Test.YtpejoghdmkpfcaaGreatDoorGfC
namespace Go.Proofs.YtpejoghdmkpfcaaGreatDoor
open Go.RowKit
set_option linter.unusedVariables false
set_option linter.unusedSimpArgs false

def hashN (w key : Nat) (m : List Bool) : Nat := horner w key (wordsL w m)
theorem psum_lt {w key : Nat} (hw : Wd w) (r : List Nat) (hr : ∀ x ∈ r, x < 2 ^ w) : ∀ j, psum w key r j < 2 ^ w
  | 0 => Nat.pow_pos (by decide)
  | j + 1 => by
    rw [psum]
    refine Nat.xor_lt_two_pow (psum_lt hw r hr j) (gm_lt hw _ _ ?_)
    cases h : r[j]? with
    | none => exact Nat.pow_pos (by decide)
    | some x => exact hr x (List.mem_of_getElem? h)
theorem tailW_len (w : Nat) (hw : 0 < w) : ∀ n (m : List Bool), m.length ≤ n → (tailW w m).length ≤ n + 1 := by
  intro n
  induction n with
  | zero => intro m hm; rw [tailW_last (by omega)]; simp
  | succ n ih =>
    intro m hm
    rcases Nat.lt_or_ge m.length w with h | h
    · rw [tailW_last h]; simp
    · rw [tailW_more hw h, List.length_cons]
      have := ih (m.drop w) (by simp; omega)
      omega

set_option maxRecDepth 100000 in
set_option maxHeartbeats 2000000 in
theorem rHash_any (w key : Nat) (A : Option Addr) (c : Nat) (m : List Bool) (v : World) (hw : Wd w) (hk : key < 2 ^ w) (h : Arr 1 encB v v.heap.size A m) (hl : m.length ≤ 100000) (hnil : A = none → c = 0) :
    Calls Tryz.prog 8 #[.int .i64 w, .int .u64 key, .slice A m.length c] v fun e v' => e = .returned (.int .u64 (hashN w key m)) ∧ Below v.heap.size v v' := by
  have hw32 : w ≤ 32 := by rcases hw with h | h | h <;> omega
  have w0 : 0 < w := by rcases hw with h | h | h <;> omega
  have cW := Words_any w A c m v hw h hl hnil
  obtain ⟨cs, hcs⟩ : ∃ cs, wordsL w m = cs := ⟨_, rfl⟩
  have hlt : ∀ x ∈ cs.reverse, x < 2 ^ w := fun x hx => wordsL_lt w0 m x (by rw [hcs]; simpa using hx)
  have fin : Hid (hashN w key m = psum w key cs.reverse cs.length) := Lib.hid (by
    have := horner_psum hw hk cs.reverse hlt
    rw [List.reverse_reverse, List.length_reverse] at this
    unfold hashN; rw [hcs]; exact this)
  have ln : cs.length ≤ 100002 := by
    rw [← hcs]
    have := tailW_len w w0 _ m (Nat.le_refl _)
    unfold wordsL; simp; omega
  rw [hcs] at cW
  clear hcs h
  have p64 : 2 ^ w ≤ 4294967296 := Nat.pow_le_pow_right (by decide : 0 < 2) hw32
  have Hw := Lib.hid hw
  have Hlt := Lib.hid hlt
  have Hk := Lib.hid hk
  have P64 := Lib.hid p64
  clear hw hlt hk p64
  go_enter Tryz.func8, Tryz.ntmps8
  go_wp2_with (go_at_call 16; refine cW.mono ?_; rintro e w1 ⟨x, rfl, own1, hb1⟩; obtain ⟨A1, c1, hx, _, _, _, ar1⟩ := own1.form enc64_len; subst hx)
  go_loop [8, 9, 10] (fun o p i => ∃ j : Nat, j ≤ cs.length ∧ i = .int .i64 ((cs.length : Int) - 1 - j) ∧ o = .int .u64 (psum w key cs.reverse j) ∧ p = .int .u64 (kpow w key j)) (fun _ _ i => (intOf i + 1).toNat)
  case atStart => exact ⟨0, Nat.zero_le _, by simp, rfl, rfl⟩
  case round =>
    obtain ⟨j, hj, rfl, rfl, rfl⟩ := hrel
    rcases Nat.lt_or_ge j cs.length with hjl | hjl
    · obtain ⟨q, hq⟩ : ∃ q : Nat, (cs.length : Int) - 1 - (j : Int) = (q : Int) := ⟨cs.length - 1 - j, by omega⟩
      have hql : q < cs.length := by omega
      have hqe : Hid (q = cs.length - 1 - j) := Lib.hid (by omega)
      obtain ⟨b, off, y, rfl, hbb, hy, c0⟩ := ar1.u64 (k := q) hql (Below.refl _ _)
      have hrev : Hid (cs.reverse[j]? = some y) := Lib.hid (by rw [List.getElem?_reverse hjl, ← hqe.out]; exact hy.out)
      have hyl : y < 2 ^ w := Hlt.out y (List.mem_of_getElem? hrev.out)
      have hpl := kpow_lt Hw.out Hk.out j
      have hsl := psum_lt (key := key) Hw.out cs.reverse Hlt.out j
      have hml := gm_lt Hw.out (kpow w key j) y hyl
      have st1 : Hid (psum w key cs.reverse (j + 1) = psum w key cs.reverse j ^^^ gm w y (kpow w key j)) := Lib.hid (by rw [psum, hrev.out]; rfl)
      have st2 : Hid (kpow w key (j + 1) = gm w (kpow w key j) key) := Lib.hid rfl
      have c1 := rMul_gf w y (kpow w key j) w1 Hw.out hyl
      have c2 := rMul_gf w (kpow w key j) key w1 Hw.out hpl
      rw [rm_gm Hw.out hyl hpl] at c1
      rw [rm_gm Hw.out hpl Hk.out] at c2
      have hx := xor_64 (a := psum w key cs.reverse j) (b := gm w y (kpow w key j)) (Nat.lt_of_lt_of_le hsl (Nat.le_trans P64.out (by decide))) (Nat.lt_of_lt_of_le hml (Nat.le_trans P64.out (by decide)))
      clear hyl hpl hsl hml
      rw [hq]
      generalize psum w key cs.reverse j = S0 at *
      generalize gm w y (kpow w key j) = G0 at *
      generalize gm w (kpow w key j) key = G1 at *
      generalize kpow w key j = K0 at *
      go_wp2_with (first | (go_at_call 35; refine Calls.on (args' := #[.int .i64 (w : Int), .int .u64 (y : Int), .int .u64 (K0 : Int)]) rfl ?_; refine c1.mono ?_; rintro e w' ⟨rfl, rfl⟩) | (go_at_call 35; refine Calls.on (args' := #[.int .i64 (w : Int), .int .u64 (K0 : Int), .int .u64 (key : Int)]) rfl ?_; refine c2.mono ?_; rintro e w' ⟨rfl, rfl⟩))
      exact ⟨⟨j + 1, by omega, by rw [show (q : Int) - 1 = (cs.length : Int) - 1 - ((j + 1 : Nat) : Int) from by omega], by rw [st1.out], by rw [st2.out]⟩, by simp [intOf] <;> omega⟩
    · obtain rfl : j = cs.length := by omega
      have e1 : (cs.length : Int) - 1 - (cs.length : Int) = -1 := by omega
      rw [e1]
      go_wp2
      go_ret
      exact ⟨ret_int (by rw [fin.out]), hb1⟩

end Go.Proofs.YtpejoghdmkpfcaaGreatDoor
