/- Contract of sift's Text. For announcements, in a world in which the library's table of powers of ten is laid. -/
import Derived.Test.YteoaaphjbggobaaGreatDoorTabA
import Derived.Test.YteoaaphjbggobaaGreatDoorStxP
import Derived.Test.YteoaaphjbggobaaGreatDoorStxR
import Derived.Test.YteoaaphjbggobaaGreatDoorRise2
import Derived.Deep.RegionHeld3
namespace Go.Proofs.YteoaaphjbggobaaGreatDoor
open Go.RowKit
set_option linter.unusedVariables false
set_option linter.unusedSimpArgs false

/-- A struct of the call's own lies there. -/
def XI (x : Nat) (a b : Int) (w : World) : Prop := w.heap[x]? = some (.cells #[.int .i64 a, .int .i64 b] 38 (0, 0))
theorem XI.on {x : Nat} {a b : Int} {w w' : World} (hb : Below w.heap.size w w') (h : XI x a b w) : XI x a b w' := by
  unfold XI at *
  rw [hb.block x (Array.getElem?_eq_some_iff.1 h).1]; exact h
theorem XI.drew {x : Nat} {a b : Int} {w : World} (h : XI x a b w) : XI x a b w.drew := h
theorem XI.kept {x c : Nat} {a b : Int} {w w' : World} (hk : KeptOthers 5 c w w') (hne : x ≠ c) (h : XI x a b w) : XI x a b w' := hk x _ h hne (fun cs fz he => by cases he)
theorem XI.c0 {x : Nat} {a b : Int} {w : World} (h : XI x a b w) : w.cell? ⟨x, 0, none⟩ = some (.int .i64 a) := by rw [cell_of_row _ _ _ _ _ _ h]; rfl
theorem XI.c1 {x : Nat} {a b : Int} {w : World} (h : XI x a b w) : w.cell? ⟨x, 1, none⟩ = some (.int .i64 b) := by rw [cell_of_row _ _ _ _ _ _ h]; rfl
theorem XI.new (w : World) (a b : Int) : XI w.heap.size a b (w.alloc (.cells #[.int .i64 a, .int .i64 b] 38)) := heap_alloc_new w _
set_option maxRecDepth 100000 in
set_option maxHeartbeats 4000000 in
theorem TextH_main (A : Option Addr) (c : Nat) (l : List Hrd) (w : World) (h : Arr 2 Hrd.enc w w.heap.size A l) (h0 : hdE l = 0) (ht : Tab w) :
    Calls Tryz.prog 8 #[.slice A l.length c] w fun e w' => e = .returned (.tuple #[.string ⟨(textH l).toArray⟩, .int .i64 0]) ∧ Below w.heap.size w w' := by
  obtain ⟨hl1, hf⟩ := hdE_zero.1 h0
  have Hg := goodH hf
  have cC := checkHeard_any A c l 0 4095 w h (by omega)
  rw [hf] at cC
  have d1 : decide (4096 < (l.length : Int)) = false := by simp; omega
  clear h0 hf
  have htl := ht.lt
  go_enter Tryz.func8, Tryz.ntmps8
  go_wp2_with (go_at_call 27; refine cC.mono ?_; rintro e w1 ⟨rfl, hb1⟩)
  have hs1 := hb1.size
  go_loopw [18] (fun i wr => ∃ k : Nat, k ≤ l.length ∧ i = .int .i64 k ∧ Lib.IsBuilder 82 5 w1.heap.size w1.heap.size (Lib.byteCells (textH (l.take k))) wr ∧ Below w1.heap.size w1 wr) (fun i _ => l.length - (intOf i).toNat)
  case atStart => exact ⟨0, Nat.zero_le _, rfl, Lib.fresh_isBuilder 82 5 w1, below_alloc (Below.refl _ _) _⟩
  case round =>
    obtain ⟨k, hk, rfl, hI, hb⟩ := hrel
    have hbs := hb.size
    by_cases hlt : k < l.length
    · obtain ⟨b, off, qk, qb, rfl, hbb, hq, c0, c1⟩ := h.hrd hlt (hb1.trans (hb.mono hs1))
      obtain ⟨q0, q1, q2, q3⟩ := Hg _ (List.mem_of_getElem? hq.out)
      simp only at q0 q1 q2 q3
      have tl := textH_len (good_sub Hg k)
      rw [List.length_take] at tl
      have ll := lineH_len (x := ⟨qk, qb⟩) q0 q1 q2 q3
      have ta := Lib.hid (textH_take hq.out)
      have xi := XI.new wr qk qb
      have L0 := fun w' (hx : XI wr.heap.size qk qb w') => hx.c0
      have L1 := fun w' (hx : XI wr.heap.size qk qb w') => hx.c1
      have hne : wr.heap.size ≠ w1.heap.size := by
        have := hI
        rcases hI with ⟨_, v, h2, _⟩ | ⟨_, v, h2, _⟩ <;> (have := (Array.getElem?_eq_some_iff.1 h2).1; omega)
      have wl := Lib.itoa_length_le qk (by omega) (by omega)
      have il := Lib.itoa_length_le qb (by omega) (by omega)
      obtain ⟨W, hW⟩ : ∃ W, Lib.itoa qk = W := ⟨_, rfl⟩
      obtain ⟨I, hI2⟩ : ∃ I, Lib.itoa qb = I := ⟨_, rfl⟩
      have hL : Hid (lineH ⟨qk, qb⟩ = W ++ [32] ++ I ++ [10]) := Lib.hid (by rw [← hW, ← hI2]; rfl)
      have cW := fun w' (hT : Tab w') => Itoa_any qk w' q0 (by omega) hT
      have cI := fun w' (hT : Tab w') => Itoa_any qb w' q2 (by omega) hT
      rw [hW] at wl
      rw [hI2] at il
      simp only [hW] at cW
      simp only [hI2] at cI
      obtain ⟨X1, hX1⟩ : ∃ X, W ++ [32] = X := ⟨_, rfl⟩
      obtain ⟨X2, hX2⟩ : ∃ X, X1 ++ I = X := ⟨_, rfl⟩
      obtain ⟨X3, hX3⟩ : ∃ X, X2 ++ [10] = X := ⟨_, rfl⟩
      have hX : Hid (lineH ⟨qk, qb⟩ = X3) := Lib.hid (by rw [hL.out, hX1, hX2, hX3])
      have x1 : X1.length ≤ 22 := by rw [← hX1]; simp; omega
      have x2 : X2.length ≤ 43 := by rw [← hX2]; simp; omega
      have x3 : X3.length ≤ 44 := by rw [← hX3]; simp; omega
      have s1 : ∀ w' : World, (Op.stringOp .add ⟨W.toArray⟩ ⟨#[32]⟩).run Tryz.prog w' = .ok (.string ⟨X1.toArray⟩) w' := fun w' => by rw [← hX1]; exact run_string_add_lists w' W [32] (by omega) (by simp)
      have s2 : ∀ w' : World, (Op.stringOp .add ⟨X1.toArray⟩ ⟨I.toArray⟩).run Tryz.prog w' = .ok (.string ⟨X2.toArray⟩) w' := fun w' => by rw [← hX2]; exact run_string_add_lists w' X1 I (by omega) (by omega)
      have s3 : ∀ w' : World, (Op.stringOp .add ⟨X2.toArray⟩ ⟨#[10]⟩).run Tryz.prog w' = .ok (.string ⟨X3.toArray⟩) w' := fun w' => by rw [← hX3]; exact run_string_add_lists w' X2 [10] (by omega) (by simp)
      have Ht := Lib.hid (ht.on (hb1.trans ((below_alloc hb (.cells #[.int .i64 qk, .int .i64 qb] 38)).mono hs1)) htl)
      have iB : ∀ y, Below (wr.alloc (.cells #[.int .i64 qk, .int .i64 qb] 38)).heap.size (wr.alloc (.cells #[.int .i64 qk, .int .i64 qb] 38)) y → Calls Tryz.prog 28 #[.pointer (some ⟨w1.heap.size, 0, none⟩), .string ⟨X3.toArray⟩] y fun e w' => e = .returned (.tuple #[.int .i64 X3.length, .nilIface]) ∧ (Lib.IsBuilder 82 5 w1.heap.size w1.heap.size (Lib.byteCells (textH (l.take (k + 1)))) w' ∧ Below w1.heap.size w1 w') ∧ KeptOthers 5 w1.heap.size y w' := fun y hy => by
        refine (WriteString_any w1.heap.size w1.heap.size _ ⟨X3.toArray⟩ y (bld_on (bld_on hI (below_alloc (Below.refl _ _) _)) hy) (by simp [Lib.byteCells, ByteArray.size]; omega) (by have := hy.size; simp at this; omega)).mono ?_
        rintro e w' ⟨rfl, ⟨h1, h2⟩, h3⟩
        refine ⟨by simp [ByteArray.size], ⟨.inr ?_, (below_alloc hb _).trans ((hy.mono (by have := hb.size; simp; omega)).trans h2)⟩, h3⟩
        rw [ta.out, hX.out, Lib.byteCells_append]
        exact h1
      have iT : ∀ y, Below (wr.alloc (.cells #[.int .i64 qk, .int .i64 qb] 38)).heap.size (wr.alloc (.cells #[.int .i64 qk, .int .i64 qb] 38)) y → Tab y := fun y hy => Ht.out.on hy Ht.out.lt
      clear hX1 hX2 hX3
      go_wp2_with fail
      go_region_held3 (fun w' => XI wr.heap.size qk qb w')
        (first | (exact xi) | (refine XI.drew ?_; assumption) | (refine XI.on hx1 ?_; assumption) | (refine XI.on hx2 ?_; assumption) | (refine XI.kept hk3 hne ?_; assumption))
        (first | (go_at_call 29; refine Calls.on (args' := #[.int .i64 qk]) rfl ?_; refine (cW _ ?hT).mono ?_; (case hT => exact iT _ (Below.refl _ _).drew); rintro e y1 ⟨rfl, hx1⟩) | (go_at_call 29; refine Calls.on (args' := #[.int .i64 qb]) rfl ?_; refine (cI _ ?hT).mono ?_; (case hT => exact iT _ (below_trans (Below.refl _ _).drew hx1)); rintro e y2 ⟨rfl, hx2⟩) | (go_at_call 28; refine (iB _ ?hB).mono ?_; (case hB => first | exact below_trans (below_trans (Below.refl _ _).drew hx1) hx2 | exact below_trans (below_trans (Below.refl _ _).drew hx2) hx1); rintro e y3 ⟨rfl, ⟨hI3, hb3⟩, hk3⟩))
      all_goals (clear iB iT s1 s2 s3 L0 L1 cW cI)
      all_goals
        go_wp2_with fail
        go_roundw
        case rel => exact ⟨k + 1, by omega, by go_num, hI3, hb3⟩
        case measure => simp [intOf]; omega
    · have e1 : Hid (l.take k = l) := Lib.hid (List.take_of_length_le (by omega))
      have cS := Tryz.Builder_String_any w1.heap.size w1.heap.size _ wr hI hbs
      rw [e1.out] at cS
      go_wp2_with (go_at_call 30; refine cS.mono ?_; rintro e w3 ⟨rfl, hb3⟩)
      go_ret2
      exact ⟨rfl, hb1.trans ((hb.trans hb3).mono hs1)⟩

theorem TextH_any (A : Option Addr) (c : Nat) (l : List Hrd) (w : World) (h : Arr 2 Hrd.enc w w.heap.size A l) (hl : l.length ≤ 4611686018427387904) (ht : Tab w) :
    Calls Tryz.prog 8 #[.slice A l.length c] w fun e w' => e = .returned (.tuple #[.string ⟨(if hdE l = 0 then textH l else []).toArray⟩, .int .i64 (hdE l)]) ∧ Below w.heap.size w w' := by
  by_cases h0 : hdE l = 0
  · rw [if_pos h0, h0]; exact TextH_main A c l w h h0 ht
  · rw [if_neg h0]
    by_cases h1 : 4096 < l.length
    · have d1 : decide (4096 < (l.length : Int)) = true := by simp; omega
      have e1 : hdE l = 5 := by unfold hdE; rw [if_pos h1]
      rw [e1]
      clear e1 h0 h1
      go_enter Tryz.func8, Tryz.ntmps8
      go_wp2
      go_ret2
      exact ⟨rfl, Below.refl _ _⟩
    · have d1 : decide (4096 < (l.length : Int)) = false := by simp; omega
      have e1 : hdE l = heardE l 0 4095 := by unfold hdE; rw [if_neg h1]
      rw [e1] at h0 ⊢
      have h0' : (heardE l 0 4095 != 0) = true := by simpa using h0
      have cF := checkHeard_any A c l 0 4095 w h hl
      generalize heardE l 0 4095 = E at *
      clear e1 h0 h1
      go_enter Tryz.func8, Tryz.ntmps8
      go_wp2_with (go_at_call 27; refine cF.mono ?_; rintro e w1 ⟨rfl, hb1⟩)
      go_ret2
      exact ⟨rfl, hb1⟩

end Go.Proofs.YteoaaphjbggobaaGreatDoor
