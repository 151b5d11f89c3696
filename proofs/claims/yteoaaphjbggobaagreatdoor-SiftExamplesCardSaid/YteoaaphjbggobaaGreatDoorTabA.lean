/- The library's tables and errors that the reading and writing of texts meets, and the library's contracts there. For texts of at most 65536 bytes. -/
import Derived.Test.YteoaaphjbggobaaGreatDoorBld
import Derived.Test.YteoaaphjbggobaaGreatDoorData
import Derived.Test.YteoaaphjbggobaaGreatDoorShelf
import Derived.Lib.ItoaLen
import Derived.Lib.ItoaMem
import Derived.Lib.AtoiErrMem
namespace Go.Proofs.YteoaaphjbggobaaGreatDoor
open Go.RowKit
set_option linter.unusedVariables false
set_option linter.unusedSimpArgs false

/-- The library's table of powers of ten is as its initialiser lays it. -/
def Tab (w : World) : Prop := Lib.TabIs Tryz.prog w "internal/strconv.uint64pow10" .u64 Lib.pow10Tab
theorem tab_name : Tryz.prog.globalNamed "internal/strconv.uint64pow10" = some 3 := by kernel_rfl
theorem Tab.lt {w : World} (h : Tab w) : 3 < w.heap.size := by
  unfold Tab Lib.TabIs World.var? at h
  rw [tab_name] at h
  rcases Nat.lt_or_ge 3 w.heap.size with h' | h'
  · exact h'
  · simp [Array.getElem?_eq_none h'] at h
theorem Tab.on {w w' : World} {B : Nat} (h : Tab w) (hb : Below B w w') (hB : 3 < B) : Tab w' := var?_below hb tab_name hB h

theorem below_grw (w : World) (k : Nat) (os : Array Obj) : Below w.heap.size w (Sort.grow (w.drewN k) os) := ⟨rfl, rfl, rfl, by simp [Sort.grow], fun j hj => by
  show (w.heap ++ os)[j]? = w.heap[j]?
  rw [Array.getElem?_append_left hj]⟩
theorem bld_on {T e B b : Nat} {bs : List Value} {w w' : World} (h : Lib.IsBuilder T e B b bs w) (hb : Below w.heap.size w w') : Lib.IsBuilder T e B b bs w' := by
  have go : ∀ p, Lib.BuilderAt T e B b p bs w → Lib.BuilderAt T e B b p bs w' := fun p ⟨h1, v, h2, h3, h4⟩ =>
    ⟨h1, v, by rw [hb.block b (Array.getElem?_eq_some_iff.1 h2).1]; exact h2, World.ownsRow.kept h3 (grown_of_below hb) (by cases v.ownBlock with | none => exact .inl rfl | some x => exact .inr (by simp)), h4⟩
  exact h.elim (fun h => .inl (go _ h)) (fun h => .inr (go _ h))
theorem Itoa_any (n : Int) (w : World) (h0 : 0 ≤ n) (h1 : n ≤ 65536) (ht : Tab w) : Calls Tryz.prog 29 #[.int .i64 n] w fun e w' => e = .returned (.string ⟨(Lib.itoa n).toArray⟩) ∧ Below w.heap.size w w' :=
  (Tryz.strconv_Itoa n (by omega) (by omega) w ht).mono fun e w' ⟨he, k, os, hw⟩ => ⟨he, by subst hw; exact below_grw w k os⟩

/-- The library's variables that the reading of a text meets. -/
structure Env (w : World) : Prop where
  tab : Tab w
  ml : ∃ m, w.cell? ⟨0, 0, none⟩ = some (.int .i64 m)
  es : ∃ t p, w.cell? ⟨1, 0, none⟩ = some (.iface t p)
  er : ∃ t p, w.cell? ⟨2, 0, none⟩ = some (.iface t p)
theorem Env.on {w w' : World} (h : Env w) (hb : Below w.heap.size w w') : Env w' := by
  obtain ⟨h1, ⟨m, h2⟩, ⟨t, p, h3⟩, ⟨t', p', h4⟩⟩ := h
  exact ⟨h1.on hb h1.lt, ⟨m, bel_cell hb h2⟩, ⟨t, p, bel_cell hb h3⟩, ⟨t', p', bel_cell hb h4⟩⟩
theorem below_drw2 (w : World) (n : Nat) : Below w.heap.size w (w.drewN n) := ⟨rfl, rfl, rfl, Nat.le_refl _, fun _ _ => rfl⟩
theorem Cut_any (r : List UInt8) (c : UInt8) (w : World) (h : Env w) (hr : r.length ≤ 65536) :
    Calls Tryz.prog 31 #[.string ⟨r.toArray⟩, .string ⟨#[c]⟩] w fun e w' => e = .returned (.tuple #[.string ⟨(Lib.cut r [c]).1.toArray⟩, .string ⟨(Lib.cut r [c]).2.1.toArray⟩, .bool (Lib.cut r [c]).2.2]) ∧ Below w.heap.size w w' := by
  obtain ⟨m, hm⟩ := h.ml
  refine (Tryz.strings_Cut ⟨r.toArray⟩ ⟨#[c]⟩ m w (by show r.toArray.size < _; simp; omega) hm).mono ?_
  rintro e w' ⟨rfl, n, rfl⟩
  exact ⟨rfl, below_drw2 _ _⟩
/-- What Atoi hands back: a number, or an error. -/
def AtoiR (s : List UInt8) (n : Int) (e : Value) : Prop := (e = .nilIface ∧ Lib.atoiAll s = .ok n) ∨ ((∃ p, e = .iface 145 p) ∧ ∀ v, Lib.atoiAll s ≠ .ok v)
theorem Atoi_any (s : List UInt8) (w : World) (h : Env w) (hs : s.length ≤ 65536) :
    Calls Tryz.prog 32 #[.string ⟨s.toArray⟩] w fun e w' => ∃ n x, e = .returned (.tuple #[.int .i64 n, x]) ∧ AtoiR s n x ∧ Below w.heap.size w w' := by
  have hz : (⟨s.toArray⟩ : ByteArray).size ≤ 65536 := by show s.toArray.size ≤ _; simpa using hs
  cases hc : Lib.atoiAll s with
  | ok v =>
    refine (Tryz.strconv_Atoi_ok ⟨s.toArray⟩ (by omega) v hc w).mono ?_
    rintro e w' ⟨rfl, hw⟩
    refine ⟨v, _, rfl, .inl ⟨rfl, hc⟩, ?_⟩
    rcases hw with rfl | ⟨t, rfl⟩
    · exact Below.refl _ _
    · exact Lib.bytesWorld_below _ _ _
  | «syntax» =>
    obtain ⟨t, p, he⟩ := h.es
    refine (Tryz.strconv_Atoi_syntax ⟨s.toArray⟩ (by omega) hc _ w he (.inr ⟨t, p, rfl⟩)).mono ?_
    rintro e w' ⟨N, rfl, _, _, hb⟩
    exact ⟨_, _, rfl, .inr ⟨⟨_, rfl⟩, fun v hv => by rw [hc] at hv; cases hv⟩, hb⟩
  | range =>
    obtain ⟨t, p, he⟩ := h.er
    refine (Tryz.strconv_Atoi_range ⟨s.toArray⟩ (by omega) hc _ w he (.inr ⟨t, p, rfl⟩)).mono ?_
    rintro e w' ⟨N, rfl, _, _, hb⟩
    exact ⟨_, _, rfl, .inr ⟨⟨_, rfl⟩, fun v hv => by rw [hc] at hv; cases hv⟩, hb⟩
def strLen : Value → Nat
  | .string b => b.size
  | _ => 0

end Go.Proofs.YteoaaphjbggobaaGreatDoor
