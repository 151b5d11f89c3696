/- The program's plain structs as Lean structures, their cells, and how an element of a slice of them is read. No condition. -/
import Derived.Test.YtfolgmcoggejbaaGreatBase
namespace Go.Proofs.YtfolgmcoggejbaaGreat
open Go.RowKit
set_option linter.unusedVariables false
set_option linter.unusedSimpArgs false

structure Clk where
  basis : Int
  kind : Int
structure Pls where
  basis : Int
  bit : Bool
  cls : Int
  ph : Int
  seen : Bool
structure Hrd where
  slot : Int
  basis : Int
structure Nte where
  slot : Int
  how : Int
  basis : Int
  bit : Bool

def Clk.enc (c : Clk) : List Value := [.int .i64 c.basis, .int .i64 c.kind]
def Pls.enc (c : Pls) : List Value := [.int .i64 c.basis, .bool c.bit, .int .i64 c.cls, .int .i64 c.ph, .bool c.seen]
def Hrd.enc (c : Hrd) : List Value := [.int .i64 c.slot, .int .i64 c.basis]
def Nte.enc (c : Nte) : List Value := [.int .i64 c.slot, .int .i64 c.how, .int .i64 c.basis, .bool c.bit]
def encI (n : Int) : List Value := [.int .i64 n]
def encB (b : Bool) : List Value := [.bool b]
theorem Clk.enc_len (c : Clk) : c.enc.length = 2 := rfl
theorem Pls.enc_len (c : Pls) : c.enc.length = 5 := rfl
theorem Hrd.enc_len (c : Hrd) : c.enc.length = 2 := rfl
theorem Nte.enc_len (c : Nte) : c.enc.length = 4 := rfl
theorem encI_len (c : Int) : (encI c).length = 1 := rfl
theorem encB_len (c : Bool) : (encB c).length = 1 := rfl

theorem Clk.one (c : Clk) : ∀ u ∈ c.enc, u.oneCell' = true := by simp [Clk.enc, Value.oneCell']
theorem Pls.one (c : Pls) : ∀ u ∈ c.enc, u.oneCell' = true := by simp [Pls.enc, Value.oneCell']
theorem Hrd.one (c : Hrd) : ∀ u ∈ c.enc, u.oneCell' = true := by simp [Hrd.enc, Value.oneCell']
theorem Nte.one (c : Nte) : ∀ u ∈ c.enc, u.oneCell' = true := by simp [Nte.enc, Value.oneCell']
theorem encI_one (c : Int) : ∀ u ∈ encI c, u.oneCell' = true := by simp [encI, Value.oneCell']
theorem encB_one (c : Bool) : ∀ u ∈ encB c, u.oneCell' = true := by simp [encB, Value.oneCell']

section
variable {w w' : World} {B : Nat} {A : Option Addr} {k : Nat}
theorem Arr.clk {l : List Clk} (h : Arr 2 Clk.enc w B A l) (hk : k < l.length) (hb : Below B w w') :
    ∃ b off qb qk, A = some ⟨b, off, none⟩ ∧ b < B ∧ Hid (l[k]? = some ⟨qb, qk⟩) ∧ w'.cell? ⟨b, off + k * 2, none⟩ = some (.int .i64 qb) ∧ w'.cell? ⟨b, off + k * 2 + 1, none⟩ = some (.int .i64 qk) := by
  obtain ⟨b, off, rfl, hbb, hc⟩ := h.get hk hb
  exact ⟨b, off, _, _, rfl, hbb, List.getElem?_eq_getElem hk, hc 0 _ rfl, hc 1 _ rfl⟩
theorem Arr.hrd {l : List Hrd} (h : Arr 2 Hrd.enc w B A l) (hk : k < l.length) (hb : Below B w w') :
    ∃ b off qs qb, A = some ⟨b, off, none⟩ ∧ b < B ∧ Hid (l[k]? = some ⟨qs, qb⟩) ∧ w'.cell? ⟨b, off + k * 2, none⟩ = some (.int .i64 qs) ∧ w'.cell? ⟨b, off + k * 2 + 1, none⟩ = some (.int .i64 qb) := by
  obtain ⟨b, off, rfl, hbb, hc⟩ := h.get hk hb
  exact ⟨b, off, _, _, rfl, hbb, List.getElem?_eq_getElem hk, hc 0 _ rfl, hc 1 _ rfl⟩
theorem Arr.pls {l : List Pls} (h : Arr 5 Pls.enc w B A l) (hk : k < l.length) (hb : Below B w w') :
    ∃ b off pb pbit pc pph ps, A = some ⟨b, off, none⟩ ∧ b < B ∧ Hid (l[k]? = some ⟨pb, pbit, pc, pph, ps⟩) ∧ w'.cell? ⟨b, off + k * 5, none⟩ = some (.int .i64 pb) ∧ w'.cell? ⟨b, off + k * 5 + 1, none⟩ = some (.bool pbit) ∧
      w'.cell? ⟨b, off + k * 5 + 2, none⟩ = some (.int .i64 pc) ∧ w'.cell? ⟨b, off + k * 5 + 3, none⟩ = some (.int .i64 pph) ∧ w'.cell? ⟨b, off + k * 5 + 4, none⟩ = some (.bool ps) := by
  obtain ⟨b, off, rfl, hbb, hc⟩ := h.get hk hb
  exact ⟨b, off, _, _, _, _, _, rfl, hbb, List.getElem?_eq_getElem hk, hc 0 _ rfl, hc 1 _ rfl, hc 2 _ rfl, hc 3 _ rfl, hc 4 _ rfl⟩
theorem Arr.nte {l : List Nte} (h : Arr 4 Nte.enc w B A l) (hk : k < l.length) (hb : Below B w w') :
    ∃ b off ns nh nb nbit, A = some ⟨b, off, none⟩ ∧ b < B ∧ Hid (l[k]? = some ⟨ns, nh, nb, nbit⟩) ∧ w'.cell? ⟨b, off + k * 4, none⟩ = some (.int .i64 ns) ∧ w'.cell? ⟨b, off + k * 4 + 1, none⟩ = some (.int .i64 nh) ∧
      w'.cell? ⟨b, off + k * 4 + 2, none⟩ = some (.int .i64 nb) ∧ w'.cell? ⟨b, off + k * 4 + 3, none⟩ = some (.bool nbit) := by
  obtain ⟨b, off, rfl, hbb, hc⟩ := h.get hk hb
  exact ⟨b, off, _, _, _, _, rfl, hbb, List.getElem?_eq_getElem hk, hc 0 _ rfl, hc 1 _ rfl, hc 2 _ rfl, hc 3 _ rfl⟩
theorem Arr.int {l : List Int} (h : Arr 1 encI w B A l) (hk : k < l.length) (hb : Below B w w') :
    ∃ b off x, A = some ⟨b, off, none⟩ ∧ b < B ∧ Hid (l[k]? = some x) ∧ w'.cell? ⟨b, off + k, none⟩ = some (.int .i64 x) := by
  obtain ⟨b, off, rfl, hbb, hc⟩ := h.get hk hb
  exact ⟨b, off, _, rfl, hbb, List.getElem?_eq_getElem hk, by have := hc 0 _ rfl; simpa using this⟩
theorem Arr.bool {l : List Bool} (h : Arr 1 encB w B A l) (hk : k < l.length) (hb : Below B w w') :
    ∃ b off x, A = some ⟨b, off, none⟩ ∧ b < B ∧ Hid (l[k]? = some x) ∧ w'.cell? ⟨b, off + k, none⟩ = some (.bool x) := by
  obtain ⟨b, off, rfl, hbb, hc⟩ := h.get hk hb
  exact ⟨b, off, _, rfl, hbb, List.getElem?_eq_getElem hk, by have := hc 0 _ rfl; simpa using this⟩
end

/-- A struct that was just laid reads so, now and in every later world. -/
theorem pls_new (w : World) (pb : Int) (pbit : Bool) (pc pph : Int) (ps : Bool) (T : TypeId) :
    (∀ x : Later (w.alloc (.cells #[.int .i64 pb, .bool pbit, .int .i64 pc, .int .i64 pph, .bool ps] T)), x.w.cell? ⟨w.heap.size, 0, none⟩ = some (.int .i64 pb)) ∧
    (∀ x : Later (w.alloc (.cells #[.int .i64 pb, .bool pbit, .int .i64 pc, .int .i64 pph, .bool ps] T)), x.w.cell? ⟨w.heap.size, 1, none⟩ = some (.bool pbit)) ∧
    (∀ x : Later (w.alloc (.cells #[.int .i64 pb, .bool pbit, .int .i64 pc, .int .i64 pph, .bool ps] T)), x.w.cell? ⟨w.heap.size, 2, none⟩ = some (.int .i64 pc)) ∧
    (∀ x : Later (w.alloc (.cells #[.int .i64 pb, .bool pbit, .int .i64 pc, .int .i64 pph, .bool ps] T)), x.w.cell? ⟨w.heap.size, 3, none⟩ = some (.int .i64 pph)) ∧
    (∀ x : Later (w.alloc (.cells #[.int .i64 pb, .bool pbit, .int .i64 pc, .int .i64 pph, .bool ps] T)), x.w.cell? ⟨w.heap.size, 4, none⟩ = some (.bool ps)) :=
  ⟨later_new rfl, later_new rfl, later_new rfl, later_new rfl, later_new rfl⟩
theorem clk_new (w : World) (qb qk : Int) (T : TypeId) :
    (∀ x : Later (w.alloc (.cells #[.int .i64 qb, .int .i64 qk] T)), x.w.cell? ⟨w.heap.size, 0, none⟩ = some (.int .i64 qb)) ∧
    (∀ x : Later (w.alloc (.cells #[.int .i64 qb, .int .i64 qk] T)), x.w.cell? ⟨w.heap.size, 1, none⟩ = some (.int .i64 qk)) :=
  ⟨later_new rfl, later_new rfl⟩
theorem nte_new (w : World) (ns nh nb : Int) (nbit : Bool) (T : TypeId) :
    (∀ x : Later (w.alloc (.cells #[.int .i64 ns, .int .i64 nh, .int .i64 nb, .bool nbit] T)), x.w.cell? ⟨w.heap.size, 0, none⟩ = some (.int .i64 ns)) ∧
    (∀ x : Later (w.alloc (.cells #[.int .i64 ns, .int .i64 nh, .int .i64 nb, .bool nbit] T)), x.w.cell? ⟨w.heap.size, 1, none⟩ = some (.int .i64 nh)) ∧
    (∀ x : Later (w.alloc (.cells #[.int .i64 ns, .int .i64 nh, .int .i64 nb, .bool nbit] T)), x.w.cell? ⟨w.heap.size, 2, none⟩ = some (.int .i64 nb)) ∧
    (∀ x : Later (w.alloc (.cells #[.int .i64 ns, .int .i64 nh, .int .i64 nb, .bool nbit] T)), x.w.cell? ⟨w.heap.size, 3, none⟩ = some (.bool nbit)) :=
  ⟨later_new rfl, later_new rfl, later_new rfl, later_new rfl⟩

/-! What the checks compute. -/
def betwB (n a b : Int) : Bool := decide (a ≤ n ∧ n ≤ b)
def singleB (k : Int) : Bool := decide (k = 1 ∨ k = 2)
def Clk.ok (c : Clk) : Bool := betwB c.basis 0 1 && betwB c.kind 0 3
def Pls.ok (c : Pls) : Bool := betwB c.basis 0 1 && betwB c.cls 0 2 && betwB c.ph 0 3
/-- The error of a list: too many, or one that is not valid. -/
def allE {α : Type} (ok : α → Bool) (l : List α) : Int := if 4096 < l.length then 5 else if l.all ok then 0 else 2
def bothE (p : List Pls) (c : List Clk) : Int := if allE Pls.ok p = 0 then allE Clk.ok c else allE Pls.ok p

theorem take_snoc {α : Type} {l : List α} {k : Nat} {x : α} (hx : l[k]? = some x) : l.take (k + 1) = l.take k ++ [x] := by
  obtain ⟨hk, rfl⟩ := List.getElem?_eq_some_iff.1 hx
  exact List.take_succ_eq_append_getElem hk
theorem all_take {α : Type} {ok : α → Bool} {l : List α} {k : Nat} {x : α} (hx : l[k]? = some x) (h : (l.take k).all ok = true) (ho : ok x = true) : (l.take (k+1)).all ok = true := by
  rw [take_snoc hx, List.all_append, h]; simp [ho]
theorem all_no {α : Type} {ok : α → Bool} {l : List α} {k : Nat} {x : α} (hx : l[k]? = some x) (ho : ok x = false) : l.all ok = false := by
  rw [List.all_eq_false]; exact ⟨x, List.mem_of_getElem? hx, by simp [ho]⟩
theorem allE_many {α : Type} {ok : α → Bool} {l : List α} (h : 4096 < l.length) : allE ok l = 5 := by simp [allE, h]
theorem allE_no {α : Type} {ok : α → Bool} {l : List α} (h : ¬ 4096 < l.length) {k : Nat} {x : α} (hk : l[k]? = some x) (hx : ok x = false) : allE ok l = 2 := by simp only [allE, if_neg h, all_no hk hx]; simp
theorem allE_yes {α : Type} {ok : α → Bool} {l : List α} (h : ¬ 4096 < l.length) {k : Nat} (hk : l.length ≤ k) (hx : (l.take k).all ok = true) : allE ok l = 0 := by
  rw [List.take_of_length_le hk] at hx; simp [allE, h, hx]
theorem allE_zero {α : Type} {ok : α → Bool} {l : List α} : allE ok l = 0 ↔ l.length ≤ 4096 ∧ l.all ok = true := by
  unfold allE
  by_cases h : 4096 < l.length
  · rw [if_pos h]; constructor
    · intro h'; cases h'
    · rintro ⟨h', _⟩; omega
  · rw [if_neg h]
    by_cases h2 : l.all ok = true
    · rw [if_pos h2]; exact ⟨fun _ => ⟨by omega, h2⟩, fun _ => rfl⟩
    · rw [if_neg h2]; constructor
      · intro h'; cases h'
      · rintro ⟨_, h'⟩; exact (h2 h').elim
theorem allE_cases {α : Type} (ok : α → Bool) (l : List α) : allE ok l = 0 ∨ allE ok l = 2 ∨ allE ok l = 5 := by
  unfold allE; split <;> (try split) <;> simp
theorem bothE_cases (p : List Pls) (c : List Clk) : bothE p c = 0 ∨ bothE p c = 2 ∨ bothE p c = 5 := by
  unfold bothE; split
  · exact allE_cases _ _
  · exact allE_cases _ _

end Go.Proofs.YtfolgmcoggejbaaGreat
