/- The course of a cascade in memory: its questions as a map's keys, its struct and its rows; contracts of its small functions. For a course that is valid. -/
import Derived.Test.YtfolgmcoggejbaaGreatCasP
import Derived.Test.YtfolgmcoggejbaaGreatOutB
import Derived.Test.YtfolgmcoggejbaaGreatMadeK
import Derived.Maps.Own
import Derived.Maps.OwnOps
import Derived.Maps.OwnSet
import Derived.DeepKeys4
namespace Go.Proofs.YtfolgmcoggejbaaGreat
open Go.RowKit Go.Maps
set_option linter.unusedVariables false
set_option linter.unusedSimpArgs false

def Qst.enc (q : Qst) : List Value := [.int .i64 (q.pass : Int), .int .i64 (q.fr : Int), .int .i64 (q.to : Int)]
def qv (q : Qst) : Value := .agg #[.int .i64 (q.pass : Int), .int .i64 (q.fr : Int), .int .i64 (q.to : Int)]
def encA (x : Qst × Bool) : List Value := [.int .i64 (x.1.pass : Int), .int .i64 (x.1.fr : Int), .int .i64 (x.1.to : Int), .bool x.2]
theorem Qst.enc_len (q : Qst) : q.enc.length = 3 := rfl
theorem encA_len (x : Qst × Bool) : (encA x).length = 4 := rfl
def Qst.low (q : Qst) : Prop := q.pass < 1099511627776 ∧ q.fr < 1099511627776 ∧ q.to < 1099511627776
def keyQ (q : Qst) : Lit := .string (keyBytes [.int .i64 (q.pass : Int), .int .i64 (q.fr : Int), .int .i64 (q.to : Int)])
theorem key_q : Keyed Tryz.prog 132 := Keyed.of_law (deep_law_laid (show laidOutB Tryz.prog = true by kernel_rfl) (m := 2) (by omega) (of_decide_eq_true (by kernel_rfl)) (by kernel_rfl) (by kernel_rfl))
theorem keyQ_mk {q : Qst} (h : q.low) : keyOf Tryz.prog 132 (qv q) = some (keyQ q) := by
  obtain ⟨h1, h2, h3⟩ := h
  have w1 : (Lit.int .i64 (q.pass : Int)).wf = true := WalkArith.wf_i64 (by omega)
  have w2 : (Lit.int .i64 (q.fr : Int)).wf = true := WalkArith.wf_i64 (by omega)
  have w3 : (Lit.int .i64 (q.to : Int)).wf = true := WalkArith.wf_i64 (by omega)
  have hu := Tryz.underlying132
  have hi := Tryz.underlying3
  have hk : Tryz.prog.keyType 132 = true := by kernel_rfl
  have hf : (qv q).formed Tryz.prog 132 = true := by kernel_rfl
  have hC : Tryz.prog.cellsOf 132 = 3 := by kernel_rfl
  have hD : Tryz.prog.cellsOf 3 = 1 := by kernel_rfl
  have one : ∀ (d : Nat) (n : Int), (Lit.int .i64 n).wf = true → Tryz.prog.keyLits (d + 1) 3 [.int .i64 n] = some [.int .i64 n] := fun d n hn => by
    unfold Program.keyLits
    rw [hi]
    simp [hn]
  have hl : ∀ M : Nat, 0 < M → Tryz.prog.keyLits (M + 1) 132 (qv q).cells.toList = some [.int .i64 (q.pass : Int), .int .i64 (q.fr : Int), .int .i64 (q.to : Int)] := fun M hM => by
    obtain ⟨N, rfl⟩ : ∃ N, M = N + 1 := ⟨M - 1, by omega⟩
    unfold Program.keyLits
    rw [hu]
    simp only [qv, Value.cells]
    simp [hC, hD, one _ _ w1, one _ _ w2, one _ _ w3]
  have hp : 0 < Tryz.prog.types.size := of_decide_eq_true (by kernel_rfl)
  unfold keyOf
  rw [hu]
  simp only [hk, hf, Bool.and_self, if_true]
  rw [hl _ hp]
  rfl
theorem zero_boolQ (w : World) : (zeroValue 4).run Tryz.prog w = .ok (.bool false) w := by kernel_rfl
theorem keyQ_inj {q r : Qst} (hq : q.low) (hr : r.low) (h : keyQ q = keyQ r) : q = r := by
  have e := key_q.inj (keyQ_mk hq) (h ▸ keyQ_mk hr)
  obtain ⟨a, b, c⟩ := q
  obtain ⟨x, y, z⟩ := r
  simp only [qv, Value.agg.injEq, Array.mk.injEq, List.cons.injEq, Value.int.injEq, true_and, and_true] at e
  obtain ⟨e1, e2, e3⟩ := e
  rw [Qst.mk.injEq]
  exact ⟨by exact_mod_cast e1, by exact_mod_cast e2, by exact_mod_cast e3⟩
/-- The map of the answers that were told. -/
structure KnwD (w : World) (mb : Nat) (told : List (Qst × Bool)) (D : DataW Unit) : Prop where
  own : w.ownsMap Tryz.prog 132 (plainElem Tryz.prog 4) mb told.length D
  has : ∀ q, q.low → (has D (keyQ q) = true ↔ q ∈ told.map (·.1))
  miss : ∀ q, q.low → q ∉ told.map (·.1) → ∀ z, D.atKey (keyQ q) z = z
  at_ : ∀ x ∈ told, ∀ z, D.atKey (keyQ x.1) z = .lit (.bool x.2)
  low : ∀ x ∈ told, x.1.low
  nod : (told.map (·.1)).Nodup
def Knw (w : World) (mb : Nat) (told : List (Qst × Bool)) : Prop := ∃ D, KnwD w mb told D
theorem Knw.kept {w w' : World} {mb : Nat} {told : List (Qst × Bool)} {row : Option Nat} (h : Knw w mb told) (hg : w.grownBy w' row) (hne : some mb ≠ row) : Knw w' mb told := by
  obtain ⟨D, h1, h2, h3, h4, h5, h6⟩ := h
  exact ⟨D, h1.kept hg hne, h2, h3, h4, h5, h6⟩
theorem Knw.lt {w : World} {mb : Nat} {told : List (Qst × Bool)} (h : Knw w mb told) : mb < w.heap.size := by
  obtain ⟨D, h1⟩ := h
  exact h1.own.lt
theorem Knw.new (w : World) : Knw (w.alloc (.map #[] 0)) w.heap.size [] :=
  ⟨.map [], World.ownsMap_made _ _ _ _, fun q _ => by simp [has_eq], fun q _ _ z => rfl, fun x hx => (by cases hx), fun x hx => (by cases hx), List.nodup_nil⟩
def lookT (told : List (Qst × Bool)) (q : Qst) : Option Bool := (told.find? fun x => decide (x.1 = q)).map (·.2)
theorem look_told (m : Mac) (q : Qst) : m.look q = lookT m.told q := rfl
theorem lookT_none {told : List (Qst × Bool)} {q : Qst} : lookT told q = none ↔ q ∉ told.map (·.1) := look_none (m := { mac0 [] with told := told })
theorem lookT_some {told : List (Qst × Bool)} {q : Qst} {a : Bool} (h : lookT told q = some a) : (q, a) ∈ told := look_some (m := { mac0 [] with told := told }) h
set_option maxRecDepth 100000 in
theorem Knw.look {w : World} {mb : Nat} {told : List (Qst × Bool)} (h : Knw w mb told) {q : Qst} (hq : q.low) :
    (Instr.lookup 130 (.map (some mb)) (qv q) false).run Tryz.prog w = .ok (.bool ((lookT told q).getD false)) w ∧
    (Instr.lookup 130 (.map (some mb)) (qv q) true).run Tryz.prog w = .ok (.tuple #[.bool ((lookT told q).getD false), .bool (lookT told q).isSome]) w := by
  obtain ⟨D, h⟩ := h
  have hz : plainElem (H := Unit) Tryz.prog 4 (.bool false) = some (.lit (.bool false), []) := plainElem_bool Tryz.underlying4 false
  have inv : ∀ {v : Value} {d : DataW Unit} {ps : List MemPlace} {b : Bool}, plainElem Tryz.prog 4 v = some (d, ps) → d = .lit (.bool b) → v = .bool b := fun {v d ps b} h1 h2 => by
    subst h2
    unfold plainElem at h1
    rw [Tryz.underlying4] at h1
    cases v <;> simp at h1
    obtain ⟨rfl, _⟩ := h1
    rfl
  have hv : D.atKey (keyQ q) (.lit (.bool false)) = .lit (.bool ((lookT told q).getD false)) := by
    cases hl : lookT told q with
    | none => exact h.miss q hq (lookT_none.1 hl) _
    | some a => exact h.at_ (q, a) (lookT_some hl) _
  have hh : has D (keyQ q) = (lookT told q).isSome := by
    cases hl : lookT told q with
    | none =>
      have := mt (h.has q hq).1 (lookT_none.1 hl)
      simpa using this
    | some a => exact (h.has q hq).2 (List.mem_map.2 ⟨_, lookT_some hl, rfl⟩)
  obtain ⟨v, ps, h1, h2⟩ := h.own.lookup key_q Tryz.underlying130 (zero_boolQ w) hz (keyQ_mk hq)
  obtain ⟨v', ps', h3, h4⟩ := h.own.look_ok key_q Tryz.underlying130 (zero_boolQ w) hz (keyQ_mk hq)
  rw [hv] at h2 h4
  obtain rfl := inv h2 rfl
  obtain rfl := inv h4 rfl
  rw [hh] at h3
  exact ⟨h1, h3⟩
theorem Knw.more {w : World} {mb : Nat} {told : List (Qst × Bool)} (h : Knw w mb told) {q : Qst} (hq : q.low) (hn : q ∉ told.map (·.1)) (hl : told.length < maxLen) (a : Bool) :
    ∃ w', (Instr.mapUpdate 130 (.map (some mb)) (qv q) (.bool a)).run Tryz.prog w = .ok () w' ∧ Knw w' mb (told ++ [(q, a)]) ∧ w.grownBy w' (some mb) := by
  obtain ⟨D, h⟩ := h
  obtain ⟨w', h1, h2, h3⟩ := h.own.update key_q Tryz.underlying130 hl (keyQ_mk hq) (plainElem_bool Tryz.underlying4 a)
  have hk := key_q.key (keyQ_mk hq)
  have hm := h.own.isMap
  have ne : ∀ r, r.low → r ≠ q → keyQ r ≠ keyQ q := fun r hr h e => h (keyQ_inj hr hq e)
  refine ⟨w', h1, ⟨D.put (keyQ q) (.lit (.bool a)), ?_, fun r hr => ?_, fun r hr hno z => ?_, fun x hx z => ?_, fun x hx => ?_, ?_⟩, h3⟩
  · rw [List.length_append]; exact h2
  · by_cases e : r = q
    · subst e
      rw [has_put_same hm hk]; simp
    · rw [has_put_other (ne r hr e), h.has r hr]
      simp only [List.map_append, List.mem_append, List.map_cons, List.map_nil, List.mem_singleton]
      exact ⟨.inl, fun h => h.resolve_right e⟩
  · have e : r ≠ q := by rintro rfl; exact hno (by simp)
    rw [atKey_put_other (ne r hr e)]
    exact h.miss r hr (fun hm => hno (by rw [List.map_append]; exact List.mem_append_left _ hm)) z
  · rcases List.mem_append.1 hx with hy | hy
    · have e : x.1 ≠ q := fun e => hn (e ▸ List.mem_map.2 ⟨x, hy, rfl⟩)
      rw [atKey_put_other (ne _ (h.low x hy) e)]
      exact h.at_ x hy z
    · obtain rfl : x = (q, a) := by simpa using hy
      exact atKey_put_same hm hk _ _
  · rcases List.mem_append.1 hx with hx | hx
    · exact h.low x hx
    · obtain rfl : x = (q, a) := by simpa using hx
      exact hq
  · rw [List.map_append, List.nodup_append]
    refine ⟨h.nod, by simp, fun x hx y hy => ?_⟩
    obtain rfl : y = q := by simpa using hy
    rintro rfl
    exact hn hx

end Go.Proofs.YtfolgmcoggejbaaGreat
