/- Contract of distil's word and Text. For a ledger, in a world in which the library's table of powers of ten is laid. -/
import Derived.Test.YtpejoghdmkpfcaaGreatDoorBld
import Derived.Test.YtpejoghdmkpfcaaGreatDoorLedAll
import Derived.Lib.ItoaLen
import Derived.Lib.ItoaMem
namespace Go.Proofs.YtpejoghdmkpfcaaGreatDoor
open Go.RowKit
set_option linter.unusedVariables false
set_option linter.unusedSimpArgs false

/-- The library's table of powers of ten is as its initialiser lays it. -/
def Tab (w : World) : Prop := Lib.TabIs Tryz.prog w "internal/strconv.uint64pow10" .u64 Lib.pow10Tab
theorem tab_name : Tryz.prog.globalNamed "internal/strconv.uint64pow10" = some 3 := by kernel_rfl
theorem Tab.lt {w : World} (h : Tab w) : 3 < w.heap.size := by
  unfold Tab Lib.TabIs World.var? at h
  rw [tab_name] at h
  rcases Nat.lt_or_ge 3 w.heap.size with h' | h'
  · exact h'
  · simp [Array.getElem?_eq_none h'] at h
theorem Tab.on {w w' : World} {B : Nat} (h : Tab w) (hb : Below B w w') (hB : 3 < B) : Tab w' := var?_below hb tab_name hB h

def wordL (k : Int) : List UInt8 := if k = 1 then [112, 97, 114, 105, 116, 121] else if k = 2 then [99, 104, 101, 99, 107] else if k = 3 then [104, 97, 115, 104] else [101, 120, 116, 114, 97]
def lineL (x : Itm) : List UInt8 := wordL x.kind ++ [32] ++ Lib.itoa x.bits ++ [10]
def textL (l : List Itm) : List UInt8 := l.flatMap lineL
theorem text_take {l : List Itm} {k : Nat} {x : Itm} (hx : l[k]? = some x) : textL (l.take (k + 1)) = textL (l.take k) ++ lineL x := by
  unfold textL; rw [take_snoc hx]; simp
theorem word_len (k : Int) : (wordL k).length ≤ 6 := by unfold wordL; split <;> (try split) <;> (try split) <;> decide
theorem line_len {x : Itm} (h0 : 0 ≤ x.bits) (h1 : x.bits ≤ 65536) : (lineL x).length ≤ 29 := by
  have := word_len x.kind
  have := Lib.itoa_length_le x.bits (by omega) (by omega)
  unfold lineL
  simp; omega
theorem text_len {l : List Itm} (h : firstE l = 0) : (textL l).length ≤ 29 * l.length := by
  induction l with
  | nil => simp [textL]
  | cons x l ih =>
    obtain ⟨_, h0, h1⟩ := first_all h (k := 0) (x := x) rfl
    have hl := line_len h0 h1
    rw [firstE] at h
    split at h
    · have := ih h
      unfold textL at *
      rw [List.flatMap_cons, List.length_append, List.length_cons]; omega
    · rename_i h2; exact (h2 h).elim

set_option maxHeartbeats 1000000 in
theorem word_any (k : Int) (w : World) (h : kindB k = true) : Calls Tryz.prog 60 #[.int .i64 k] w fun e w' => e = .returned (.string ⟨(wordL k).toArray⟩) ∧ Below w.heap.size w w' := by
  obtain ⟨h1, h2⟩ : 1 ≤ k ∧ k ≤ 4 := by simpa [kindB, betwB] using h
  clear h
  rcases (show k = 1 ∨ k = 2 ∨ k = 3 ∨ k = 4 by omega) with rfl | rfl | rfl | rfl
  all_goals (
    go_enter Tryz.func60, Tryz.ntmps60
    go_wp2
    go_ret
    exact ⟨rfl, below_alloc (Below.refl _ _) _⟩)

/-- A struct of the call's own lies there. -/
def XI (x : Nat) (a b : Int) (w : World) : Prop := w.heap[x]? = some (.cells #[.int .i64 a, .int .i64 b] 65 (0, 0))
theorem XI.on {x : Nat} {a b : Int} {w w' : World} (hb : Below w.heap.size w w') (h : XI x a b w) : XI x a b w' := by
  unfold XI at *
  rw [hb.block x (Array.getElem?_eq_some_iff.1 h).1]; exact h
theorem XI.drew {x : Nat} {a b : Int} {w : World} (h : XI x a b w) : XI x a b w.drew := h
theorem XI.kept {x c : Nat} {a b : Int} {w w' : World} (hk : KeptOthers 5 c w w') (hne : x ≠ c) (h : XI x a b w) : XI x a b w' := hk x _ h hne (fun cs fz he => by cases he)
theorem XI.c0 {x : Nat} {a b : Int} {w : World} (h : XI x a b w) : w.cell? ⟨x, 0, none⟩ = some (.int .i64 a) := by rw [cell_of_row _ _ _ _ _ _ h]; rfl
theorem XI.c1 {x : Nat} {a b : Int} {w : World} (h : XI x a b w) : w.cell? ⟨x, 1, none⟩ = some (.int .i64 b) := by rw [cell_of_row _ _ _ _ _ _ h]; rfl
theorem XI.new (w : World) (a b : Int) : XI w.heap.size a b (w.alloc (.cells #[.int .i64 a, .int .i64 b] 65)) := heap_alloc_new w _
theorem below_grw (w : World) (k : Nat) (os : Array Obj) : Below w.heap.size w (Sort.grow (w.drewN k) os) := ⟨rfl, rfl, rfl, by simp [Sort.grow], fun j hj => by
  show (w.heap ++ os)[j]? = w.heap[j]?
  rw [Array.getElem?_append_left hj]⟩
theorem bld_on {T e B b : Nat} {bs : List Value} {w w' : World} (h : Lib.IsBuilder T e B b bs w) (hb : Below w.heap.size w w') : Lib.IsBuilder T e B b bs w' := by
  have go : ∀ p, Lib.BuilderAt T e B b p bs w → Lib.BuilderAt T e B b p bs w' := fun p ⟨h1, v, h2, h3, h4⟩ =>
    ⟨h1, v, by rw [hb.block b (Array.getElem?_eq_some_iff.1 h2).1]; exact h2, World.ownsRow.kept h3 (grown_of_below hb) (by cases v.ownBlock with | none => exact .inl rfl | some x => exact .inr (by simp)), h4⟩
  exact h.elim (fun h => .inl (go _ h)) (fun h => .inr (go _ h))
theorem Itoa_any (n : Int) (w : World) (h0 : 0 ≤ n) (h1 : n ≤ 65536) (ht : Tab w) : Calls Tryz.prog 61 #[.int .i64 n] w fun e w' => e = .returned (.string ⟨(Lib.itoa n).toArray⟩) ∧ Below w.heap.size w w' :=
  (Tryz.strconv_Itoa n (by omega) (by omega) w ht).mono fun e w' ⟨he, k, os, hw⟩ => ⟨he, by subst hw; exact below_grw w k os⟩

set_option maxRecDepth 100000 in
set_option maxHeartbeats 4000000 in
theorem Text_main (A : Option Addr) (c : Nat) (l : List Itm) (w : World) (h : Arr 2 Itm.enc w w.heap.size A l) (h0 : ledE l = 0) (ht : Tab w) :
    Calls Tryz.prog 27 #[.slice A l.length c] w fun e w' => e = .returned (.tuple #[.string ⟨(textL l).toArray⟩, .int .i64 0]) ∧ Below w.heap.size w w' := by
  obtain ⟨hl1, hf⟩ := ledE_zero.1 h0
  have cC := dCheck_any A c l w h (by omega)
  rw [h0] at cC
  have Hf := Lib.hid hf
  clear h0 hf
  have htl := ht.lt
  go_enter Tryz.func27, Tryz.ntmps27
  go_wp2_with (go_at_call 54; refine cC.mono ?_; rintro e w1 ⟨rfl, hb1⟩)
  have hs1 := hb1.size
  go_loopw [15] (fun i wr => ∃ k : Nat, k ≤ l.length ∧ i = .int .i64 k ∧ Lib.IsBuilder 95 5 w1.heap.size w1.heap.size (Lib.byteCells (textL (l.take k))) wr ∧ Below w1.heap.size w1 wr) (fun i _ => l.length - (intOf i).toNat)
  case atStart => exact ⟨0, Nat.zero_le _, rfl, Lib.fresh_isBuilder 95 5 w1, below_alloc (Below.refl _ _) _⟩
  case round =>
    obtain ⟨k, hk, rfl, hI, hb⟩ := hrel
    have hbs := hb.size
    by_cases hlt : k < l.length
    · obtain ⟨b, off, qk, qb, rfl, hbb, hq, c0, c1⟩ := h.itm hlt (hb1.trans (hb.mono hs1))
      obtain ⟨q0, q1, q2⟩ := first_all Hf.out hq.out
      simp only at q0 q1 q2
      have tl := text_len (first_sub Hf.out k)
      rw [List.length_take] at tl
      have ll := line_len (x := ⟨qk, qb⟩) q1 q2
      have ta := Lib.hid (text_take hq.out)
      have Q0 := Lib.hid q0
      clear q0
      have xi := XI.new wr qk qb
      have L0 := fun w' (hx : XI wr.heap.size qk qb w') => hx.c0
      have L1 := fun w' (hx : XI wr.heap.size qk qb w') => hx.c1
      have hne : wr.heap.size ≠ w1.heap.size := by
        have := hI
        rcases hI with ⟨_, v, h2, _⟩ | ⟨_, v, h2, _⟩ <;> (have := (Array.getElem?_eq_some_iff.1 h2).1; omega)
      have wl := word_len qk
      have il := Lib.itoa_length_le qb (by omega) (by omega)
      obtain ⟨W, hW⟩ : ∃ W, wordL qk = W := ⟨_, rfl⟩
      obtain ⟨I, hI2⟩ : ∃ I, Lib.itoa qb = I := ⟨_, rfl⟩
      have hL : Hid (lineL ⟨qk, qb⟩ = W ++ [32] ++ I ++ [10]) := Lib.hid (by rw [← hW, ← hI2]; rfl)
      have cW := fun w' => word_any qk w' Q0.out
      have cI := fun w' (hT : Tab w') => Itoa_any qb w' q1 q2 hT
      rw [hW] at wl
      rw [hI2] at il
      simp only [hW] at cW
      simp only [hI2] at cI
      obtain ⟨X1, hX1⟩ : ∃ X, W ++ [32] = X := ⟨_, rfl⟩
      obtain ⟨X2, hX2⟩ : ∃ X, X1 ++ I = X := ⟨_, rfl⟩
      obtain ⟨X3, hX3⟩ : ∃ X, X2 ++ [10] = X := ⟨_, rfl⟩
      have hX : Hid (lineL ⟨qk, qb⟩ = X3) := Lib.hid (by rw [hL.out, hX1, hX2, hX3])
      have x1 : X1.length ≤ 7 := by rw [← hX1]; simp; omega
      have x2 : X2.length ≤ 28 := by rw [← hX2]; simp; omega
      have x3 : X3.length ≤ 29 := by rw [← hX3]; simp; omega
      have s1 : ∀ w' : World, (Op.stringOp .add ⟨W.toArray⟩ ⟨#[32]⟩).run Tryz.prog w' = .ok (.string ⟨X1.toArray⟩) w' := fun w' => by rw [← hX1]; exact run_string_add_lists w' W [32] (by omega) (by simp)
      have s2 : ∀ w' : World, (Op.stringOp .add ⟨X1.toArray⟩ ⟨I.toArray⟩).run Tryz.prog w' = .ok (.string ⟨X2.toArray⟩) w' := fun w' => by rw [← hX2]; exact run_string_add_lists w' X1 I (by omega) (by omega)
      have s3 : ∀ w' : World, (Op.stringOp .add ⟨X2.toArray⟩ ⟨#[10]⟩).run Tryz.prog w' = .ok (.string ⟨X3.toArray⟩) w' := fun w' => by rw [← hX3]; exact run_string_add_lists w' X2 [10] (by omega) (by simp)
      have Ht := Lib.hid (ht.on (hb1.trans ((below_alloc hb (.cells #[.int .i64 qk, .int .i64 qb] 65)).mono hs1)) htl)
      have iB : ∀ y, Below (wr.alloc (.cells #[.int .i64 qk, .int .i64 qb] 65)).heap.size (wr.alloc (.cells #[.int .i64 qk, .int .i64 qb] 65)) y → Calls Tryz.prog 59 #[.pointer (some ⟨w1.heap.size, 0, none⟩), .string ⟨X3.toArray⟩] y fun e w' => e = .returned (.tuple #[.int .i64 X3.length, .nilIface]) ∧ (Lib.IsBuilder 95 5 w1.heap.size w1.heap.size (Lib.byteCells (textL (l.take (k + 1)))) w' ∧ Below w1.heap.size w1 w') ∧ KeptOthers 5 w1.heap.size y w' := fun y hy => by
        refine (WriteString_any w1.heap.size w1.heap.size _ ⟨X3.toArray⟩ y (bld_on (bld_on hI (below_alloc (Below.refl _ _) _)) hy) (by simp [Lib.byteCells, ByteArray.size]; omega) (by have := hy.size; simp at this; omega)).mono ?_
        rintro e w' ⟨rfl, ⟨h1, h2⟩, h3⟩
        refine ⟨by simp [ByteArray.size], ⟨.inr ?_, (below_alloc hb _).trans ((hy.mono (by have := hb.size; simp; omega)).trans h2)⟩, h3⟩
        rw [ta.out, hX.out, Lib.byteCells_append]
        exact h1
      have iT : ∀ y, Below (wr.alloc (.cells #[.int .i64 qk, .int .i64 qb] 65)).heap.size (wr.alloc (.cells #[.int .i64 qk, .int .i64 qb] 65)) y → Tab y := fun y hy => Ht.out.on hy Ht.out.lt
      clear hX1 hX2 hX3
      go_wp2_with fail
      go_region_held3 (fun w' => XI wr.heap.size qk qb w')
        (first | (exact xi) | (refine XI.drew ?_; assumption) | (refine XI.on hx1 ?_; assumption) | (refine XI.on hx2 ?_; assumption) | (refine XI.kept hk3 hne ?_; assumption))
        (first | (go_at_call 60; refine (cW _).mono ?_; rintro e y1 ⟨rfl, hx1⟩) | (go_at_call 61; refine (cI _ ?hT).mono ?_; (case hT => first | exact iT _ (Below.refl _ _).drew | exact iT _ (below_trans (Below.refl _ _).drew hx1)); rintro e y2 ⟨rfl, hx2⟩) | (go_at_call 59; refine (iB _ ?hB).mono ?_; (case hB => first | exact below_trans (below_trans (Below.refl _ _).drew hx1) hx2 | exact below_trans (below_trans (Below.refl _ _).drew hx2) hx1); rintro e y3 ⟨rfl, ⟨hI3, hb3⟩, hk3⟩))
      all_goals (clear iB iT s1 s2 s3 L0 L1 cW cI)
      all_goals
        go_wp2_with fail
        go_roundw
        case rel => exact ⟨k + 1, by omega, by go_num, hI3, hb3⟩
        case measure => simp [intOf]; omega
    · have e1 : Hid (l.take k = l) := Lib.hid (List.take_of_length_le (by omega))
      have cS := Tryz.Builder_String_any w1.heap.size w1.heap.size _ wr hI hbs
      rw [e1.out] at cS
      go_wp2_with (go_at_call 62; refine cS.mono ?_; rintro e w3 ⟨rfl, hb3⟩)
      go_ret2
      exact ⟨rfl, hb1.trans ((hb.trans hb3).mono hs1)⟩

theorem Text_any (A : Option Addr) (c : Nat) (l : List Itm) (w : World) (h : Arr 2 Itm.enc w w.heap.size A l) (hl : l.length ≤ 4611686018427387904) (ht : Tab w) :
    Calls Tryz.prog 27 #[.slice A l.length c] w fun e w' => e = .returned (.tuple #[.string ⟨(if ledE l = 0 then textL l else []).toArray⟩, .int .i64 (ledE l)]) ∧ Below w.heap.size w w' := by
  by_cases h0 : ledE l = 0
  · rw [if_pos h0, h0]; exact Text_main A c l w h h0 ht
  · rw [if_neg h0]
    have h0' : (ledE l != 0) = true := by simpa using h0
    go_enter Tryz.func27, Tryz.ntmps27
    go_wp2_with (go_at_call 54; refine (dCheck_any A c l w h hl).mono ?_; rintro e w1 ⟨rfl, hb1⟩)
    go_ret2
    exact ⟨rfl, hb1⟩

end Go.Proofs.YtpejoghdmkpfcaaGreatDoor
