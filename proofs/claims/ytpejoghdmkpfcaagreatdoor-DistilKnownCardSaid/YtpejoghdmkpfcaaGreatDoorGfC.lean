/- Contracts of the reference's Words and Hash. For the widths 8, 16 and 32; for strings of at most 100000 bits. -/
import Derived.Test.YtpejoghdmkpfcaaGreatDoorGfB
namespace Go.Proofs.YtpejoghdmkpfcaaGreatDoor
open Go.RowKit
set_option linter.unusedVariables false
set_option linter.unusedSimpArgs false

def enc64 (n : Nat) : List Value := [.int .u64 (n : Int)]
theorem enc64_len (c : Nat) : (enc64 c).length = 1 := rfl
theorem enc64_one (c : Nat) : ∀ u ∈ enc64 c, u.oneCell' = true := by simp [enc64, Value.oneCell']
theorem Arr.u64 {w w' : World} {B : Nat} {A : Option Addr} {k : Nat} {l : List Nat} (h : Arr 1 enc64 w B A l) (hk : k < l.length) (hb : Below B w w') :
    ∃ b off x, A = some ⟨b, off, none⟩ ∧ b < B ∧ Hid (l[k]? = some x) ∧ w'.cell? ⟨b, off + k, none⟩ = some (.int .u64 (x : Int)) := by
  obtain ⟨b, off, rfl, hbb, hc⟩ := h.get hk hb
  exact ⟨b, off, _, rfl, hbb, List.getElem?_eq_getElem hk, by have := hc 0 _ rfl; simpa using this⟩
theorem u64_info : (Tryz.prog.info? 27).map (fun i => (i.zero, i.size, i.bytes)) = some (some (.int .u64 0), 1, 8) := by kernel_rfl
theorem bool_info : (Tryz.prog.info? 4).map (fun i => (i.zero, i.size, i.bytes)) = some (some (.bool false), 1, 1) := by kernel_rfl
theorem Arr.drop {α : Type} {sz : Nat} {enc : α → List Value} {w : World} {B b off : Nat} {l : List α} (h : Arr sz enc w B (some ⟨b, off, none⟩) l) (n : Nat) : Arr sz enc w B (some ⟨b, off + n * sz, none⟩) (l.drop n) := fun hl => by
  obtain ⟨b', off', e, hbb, hc⟩ := h (by rintro rfl; simp at hl)
  simp only [Option.some.injEq, Addr.mk.injEq, and_true] at e
  obtain ⟨rfl, rfl⟩ := e
  refine ⟨b, off + n * sz, rfl, hbb, fun i x hx j u hu => ?_⟩
  rw [List.getElem?_drop] at hx
  have := hc (n + i) x hx j u hu
  rw [Nat.add_mul] at this
  rwa [← Nat.add_assoc] at this

theorem arr_take {α : Type} {sz : Nat} {enc : α → List Value} {w : World} {B : Nat} {A : Option Addr} {l : List α} (h : Arr sz enc w B A l) (n : Nat) : Arr sz enc w B A (l.take n) := fun hl => by
  obtain ⟨b, off, rfl, hbb, hc⟩ := h (by rintro rfl; simp at hl)
  refine ⟨b, off, rfl, hbb, fun i x hx j u hu => hc i x ?_ j u hu⟩
  rw [List.getElem?_take] at hx
  split at hx
  · exact hx
  · cases hx
/-- The length of a slice. -/
def lenOf : Value → Nat
  | .slice _ n _ => n
  | _ => 0
/-- So many bits are added. -/
def padN (w n : Nat) : Nat := if (n + 1) % w = 0 then 0 else w - (n + 1) % w
theorem padN_lt {w n : Nat} (hw : 0 < w) : padN w n < w := by
  unfold padN
  split
  · exact hw
  · omega
theorem padN_end {w n : Nat} (hw : 0 < w) : (n + 1 + padN w n) % w = 0 := by
  unfold padN
  split
  · rename_i h; simpa using h
  · have h1 := Nat.div_add_mod (n + 1) w
    have h2 := Nat.mod_lt (n + 1) hw
    have : n + 1 + (w - (n + 1) % w) = w * ((n + 1) / w + 1) := by rw [Nat.mul_add]; omega
    rw [this]; exact Nat.mul_mod_right _ _
theorem padN_mid {w n z : Nat} (hw : 0 < w) (hz : z < padN w n) : (n + 1 + z) % w ≠ 0 := by
  unfold padN at hz
  split at hz
  · omega
  · rename_i h
    have h1 := Nat.div_add_mod (n + 1) w
    have h2 := Nat.mod_lt (n + 1) hw
    have : n + 1 + z = ((n + 1) % w + z) + w * ((n + 1) / w) := by omega
    rw [this, Nat.add_mul_mod_self_left, Nat.mod_eq_of_lt (by omega)]
    omega
theorem chunk_next {w j : Nat} {l : List Bool} (hw : 0 < w) (h : j * w + w ≤ l.length) : chunks w (l.drop (j * w)) = bval ((l.drop (j * w)).take w) :: chunks w (l.drop ((j + 1) * w)) := by
  rw [chunks_more hw (by rw [List.length_drop]; omega), List.drop_drop, Nat.add_mul, Nat.one_mul]

set_option maxRecDepth 100000 in
set_option maxHeartbeats 2000000 in
theorem Words_any (w : Nat) (A : Option Addr) (c : Nat) (m : List Bool) (v : World) (hw : Wd w) (h : Arr 1 encB v v.heap.size A m) (hl : m.length ≤ 100000) (hnil : A = none → c = 0) :
    Calls Tryz.prog 16 #[.int .i64 w, .slice A m.length c] v fun e v' => ∃ x, e = .returned x ∧ Own v' v.heap.size 27 1 enc64 x (wordsL w m) ∧ Below v.heap.size v v' := by
  have hw0 : 0 < w ∧ w ≤ 32 := by rcases hw with h | h | h <;> omega
  obtain ⟨w0, w32⟩ := hw0
  obtain ⟨i0, hi, hz0, hz1, hz2⟩ := info_parts bool_info
  obtain ⟨j0, hj, hy0, hy1, hy2⟩ := info_parts u64_info
  have Hi := Lib.hid hi; have Hz0 := Lib.hid hz0; have Hz1 := Lib.hid hz1; have Hz2 := Lib.hid hz2
  have Hj := Lib.hid hj; have Hy0 := Lib.hid hy0; have Hy1 := Lib.hid hy1; have Hy2 := Lib.hid hy2
  clear hi hz0 hz1 hz2 hj hy0 hy1 hy2
  have Hw := Lib.hid hw
  clear hw
  have hZ := padN_lt (w := w) (n := m.length) w0
  obtain ⟨Z, hZe⟩ : ∃ Z, padN w m.length = Z := ⟨_, rfl⟩
  rw [hZe] at hZ
  have Hend : Hid ((m.length + 1 + Z) % w = 0) := Lib.hid (by rw [← hZe]; exact padN_end w0)
  have Hmid : Hid (∀ z, z < Z → (m.length + 1 + z) % w ≠ 0) := Lib.hid (fun z hz => padN_mid w0 (by rw [hZe]; exact hz))
  have hch : Hid (chunks w (m ++ [true] ++ List.replicate Z false) = tailW w m) := Lib.hid (chunks_words w0 _ m (Nat.le_refl _) Z hZ Hend.out)
  clear hZe
  have wn0 : (w : Int) ≠ 0 := by omega
  go_enter Tryz.func16, Tryz.ntmps16
  go_wp2_with (first
    | (at_builtin; refine wpList_app rfl _ _ 22 rfl v.heap.size 4 i0 _ 1 1 Tryz.underlying22 Hi.out Hz0.out Hz1.out Hz2.out rfl (by decide) encB_len encB_one _ ([] : List Bool) m _ c v.heap.size rfl (own_empty v _ _ (Nat.le_refl _)) rfl (h.keep (below_alloc (Below.refl _ _) _)) hnil (by simp; omega) (by decide) (by simp) ?_; intro v1 w1 own1 hb1; rw [List.nil_append] at own1; have q1 : Below v.heap.size v w1 := (below_alloc (Below.refl v.heap.size v) _).trans hb1)
    | (at_builtin; refine wpList_snoc rfl _ _ 22 rfl v.heap.size 4 i0 _ 1 1 Tryz.underlying22 Hi.out Hz0.out Hz1.out Hz2.out rfl (by decide) _ m true #[.bool true] 4 rfl own1 rfl rfl rfl (encB_one _) (by omega) (by decide) q1.size rfl ?_; intro v2 w2 own2 hb2; have q2 : Below v.heap.size v w2 := q1.trans hb2))
  go_loopw [5] (fun x wr => ∃ z : Nat, z ≤ Z ∧ Own wr v.heap.size 4 1 encB x (m ++ [true] ++ List.replicate z false) ∧ Below v.heap.size v wr) (fun x _ => Z + m.length + 1 - lenOf x)
  case atStart => exact ⟨0, Nat.zero_le _, by simpa using own2, q2⟩
  case round =>
    obtain ⟨z, hz, own3, q3⟩ := hrel
    have hlen : (m ++ [true] ++ List.replicate z false).length = m.length + 1 + z := by simp; omega
    obtain ⟨L, hL⟩ : ∃ L, m ++ [true] ++ List.replicate z false = L := ⟨_, rfl⟩
    have hsn : Hid (m ++ [true] ++ List.replicate (z + 1) false = L ++ [false]) := Lib.hid (by rw [← hL, List.replicate_succ']; simp)
    rw [hL] at own3 hlen
    obtain ⟨A3, c3, rfl, lc3, mc3, nil3, ar3⟩ := own3.form encB_len
    have Hlen := Lib.hid hlen
    have lb : L.length ≤ 100040 := by omega
    rcases Nat.lt_or_ge z Z with hlt | hge
    · have hmod : ((L.length : Int) % (w : Int) != 0) = true := by
        have := Hmid.out z hlt
        rw [← Hlen.out] at this
        have e : (L.length : Int) % (w : Int) = ((L.length % w : Nat) : Int) := by simp
        rw [e]; simp; omega
      clear hlen hL
      go_wp2_with (at_builtin; refine wpList_snoc rfl _ _ 22 rfl v.heap.size 4 i0 _ 1 1 Tryz.underlying22 Hi.out Hz0.out Hz1.out Hz2.out rfl (by decide) _ L false #[.bool false] 4 rfl own3 rfl rfl rfl (encB_one _) (by omega) (by decide) q3.size rfl ?_; intro v4 w4 own4 hb4)
      have hv4 : lenOf v4 = L.length + 1 := by
        obtain ⟨A4, c4, rfl, _⟩ := own4.form encB_len
        simp [lenOf]
      go_roundw
      case rel => exact ⟨z + 1, by omega, by rw [hsn.out]; exact own4, q3.trans hb4⟩
      case measure => rw [hv4]; simp only [lenOf]; rw [Hlen.out]; omega
    · obtain rfl : z = Z := by omega
      have hmod : ((L.length : Int) % (w : Int) != 0) = false := by
        have := Hend.out
        rw [← Hlen.out] at this
        have e : (L.length : Int) % (w : Int) = ((L.length % w : Nat) : Int) := by simp
        rw [e, this]; rfl
      have hch2 : Hid (chunks w L = tailW w m) := Lib.hid (by rw [← hL]; exact hch.out)
      have hdv : Hid (L.length % w = 0) := Lib.hid (by rw [Hlen.out]; exact Hend.out)
      clear hlen hL hge hch Hend Hmid hsn Hlen
      have lit : Own (wr.alloc (.cells #[.int .u64 1] 27)) wr.heap.size 27 1 enc64 (.slice (some ⟨wr.heap.size, 0, none⟩) 1 1) [1] := World.ownsRow_lit (size := 1) wr #[.int .u64 1] 1 (Nat.le_refl _) (by unfold maxLen; omega) rfl
      obtain ⟨w6, rfl⟩ : ∃ w6, w6 = wr := ⟨_, rfl⟩
      go_wp2_with fail
      go_loopw [6, 7] (fun x i wq => ∃ (P : Nat) (D : List Nat), P ≤ L.length ∧ i = .int .i64 P ∧ Hid (P % w = 0 ∧ D ++ chunks w (L.drop P) = chunks w L) ∧ D.length ≤ P ∧ Own wq w6.heap.size 27 1 enc64 x (1 :: D) ∧ Below w6.heap.size w6 wq) (fun _ i _ => L.length - (intOf i).toNat)
      case atStart => exact ⟨0, [], Nat.zero_le _, rfl, Lib.hid ⟨by simp, by simp⟩, Nat.zero_le _, lit, below_alloc (Below.refl _ _) _⟩
      case round =>
        obtain ⟨P, D, hP, rfl, hinv, hD, ow, qq⟩ := hrel
        have ar := ar3.on qq
        rcases Nat.lt_or_ge P L.length with hlt | hge
        · have hPw : P + w ≤ L.length := by
            obtain ⟨h1, _⟩ := hinv.out
            have h2 := hdv.out
            have e1 := Nat.div_add_mod P w
            have e2 := Nat.div_add_mod L.length w
            rw [h1] at e1
            rw [h2] at e2
            have : P / w + 1 ≤ L.length / w := by
              rcases Nat.lt_or_ge (P / w) (L.length / w) with h | h
              · exact h
              · have := Nat.mul_le_mul_left w h; omega
            have := Nat.mul_le_mul_left w this
            rw [Nat.mul_add] at this
            omega
          obtain ⟨b, off, x0, hA3, hbb, _, _⟩ := ar.bool (k := P) hlt (Below.refl _ _)
          subst hA3
          have arw := arr_take (ar.drop P) w
          have hlw : ((L.drop P).take w).length = w := by rw [List.length_take, List.length_drop]; omega
          have cW := rWord_any _ (c3 - P) _ wr arw (by omega)
          rw [hlw, Nat.mul_one] at cW
          obtain ⟨y, hy⟩ : ∃ y, bval ((L.drop P).take w) = y := ⟨_, rfl⟩
          rw [hy] at cW
          have hnx : Hid (chunks w (L.drop P) = y :: chunks w (L.drop (P + w))) := Lib.hid (by rw [chunks_more w0 (by rw [List.length_drop]; omega), hy, List.drop_drop])
          clear hy arw
          have hbs := qq.size
          have i1 : (P : Int) + (w : Int) ≤ (L.length : Int) := by omega
          go_wp2_with (first
            | (go_at_call 45; refine (cW).mono ?_; rintro e w' ⟨rfl, rfl⟩)
            | (at_builtin; refine wpList_snoc rfl _ _ 40 rfl w6.heap.size 27 j0 _ 1 8 Tryz.underlying40 Hj.out Hy0.out Hy1.out Hy2.out rfl (by decide) _ (1 :: D) y #[.int .u64 (y : Int)] 27 rfl ow rfl rfl rfl (enc64_one _) (by simp; omega) (by decide) hbs rfl ?_; intro v8 w8 own8 hb8))
          go_roundw
          case rel => first | exact ⟨P + w, D ++ [y], hPw, by go_num, Lib.hid ⟨by rw [Nat.add_mod_right]; exact hinv.out.1, by rw [List.append_assoc, ← hinv.out.2, hnx.out]; rfl⟩, by simp; omega, own8, qq.trans hb8⟩ | ((repeat apply Exists.intro); exact ⟨⟨P + w, D ++ [y], hPw, by go_num, Lib.hid ⟨by rw [Nat.add_mod_right]; exact hinv.out.1, by rw [List.append_assoc, ← hinv.out.2, hnx.out]; rfl⟩, by simp; omega, own8, qq.trans hb8⟩, rfl⟩)
          case measure => (simp [intOf] <;> omega)
        · obtain rfl : P = L.length := by omega
          go_wp2_with fail
          go_ret
          refine ⟨_, rfl, Own.down ?_ q3.size, q3.trans (qq.mono q3.size)⟩
          have := hinv.out.2
          rw [List.drop_of_length_le (Nat.le_refl _), chunks_nil (by simpa using w0), List.append_nil, hch2.out] at this
          rw [this] at ow
          exact ow

end Go.Proofs.YtpejoghdmkpfcaaGreatDoor
