/- Plain words for memory that all texts of this seat share: a slice that reads as a list, a slice that the call owns, worlds in which all that lay still lies. No condition. -/
import Derived.WalkKit
import Derived.WalkSpells
import Derived.WalkLawsBesides
import Derived.Lib.Hide
import Derived.BigQuiet
import Derived.Laws.AppendOwnNone
namespace Go.Proofs.YtfolgmcoggejbaaGreat
open Go.RowKit

/-- A world in which all that lay in w still lies. -/
def Later (w : World) : Type := { w' : World // Below w.heap.size w w' }
instance later_some (w : World) : Nonempty (Later w) := ⟨⟨w, Below.refl _ _⟩⟩
def Later.w {w : World} (x : Later w) : World := x.1

theorem later_cell {w : World} {a : Addr} {v : Value} (h : w.cell? a = some v) : ∀ x : Later w, x.w.cell? a = some v :=
  fun x => (x.2.cell (World.block_lt_of_cell? w a h)).trans h

theorem later_alloc {w : World} {a : Addr} {v : Value} (h : w.cell? a = some v) (o : Obj) : ∀ x : Later (w.alloc o), x.w.cell? a = some v :=
  later_cell (by rw [World.cell?_alloc_lt w o a (World.block_lt_of_cell? w a h)]; exact h)
theorem later_new {w : World} {cs : Array Value} {T : TypeId} {j : Nat} {v : Value} (h : cs[j]? = some v) : ∀ x : Later (w.alloc (.cells cs T)), x.w.cell? ⟨w.heap.size, j, none⟩ = some v :=
  later_cell (by rw [cell_of_row _ _ _ cs T (0, 0) (heap_alloc_new w _)]; exact h)
theorem new_cell {w : World} {cs : Array Value} {T : TypeId} {j : Nat} {v : Value} (h : cs[j]? = some v) : (w.alloc (.cells cs T)).cell? ⟨w.heap.size, j, none⟩ = some v := by
  rw [cell_of_row _ _ _ cs T (0, 0) (heap_alloc_new w _)]; exact h
theorem bel_cell {w w' : World} {a : Addr} {v : Value} (hb : Below w.heap.size w w') (h : w.cell? a = some v) : w'.cell? a = some v :=
  (hb.cell (World.block_lt_of_cell? w a h)).trans h

theorem below_trans {a b c : World} (h : Below a.heap.size a b) (k : Below b.heap.size b c) : Below a.heap.size a c := h.trans (k.mono h.size)
theorem below_alloc {a w : World} (h : Below a.heap.size a w) (o : Obj) : Below a.heap.size a (w.alloc o) := h.alloc h.size o

/-- A region that draws its order, whose own operations only read and whose calls only make memory: one walk in the order of the text. -/
theorem wp_region_later {P : Program} {id : Nat} {Q : Exit → Act → World → Prop} {a : Act} {w : World} {l : List Oper} (hm : P.follows .mixedOrders = true) (hB : Region.lexB .any l.toArray = true)
    (h : wpQuiet P l.toArray (fun w' => ∃ x : Later w, w' = x.w) (fun a' => ∀ w', (∃ x : Later w, w' = x.w) → Q .normal a' w') l a) : (Code.region id l.toArray true).wp P Q a w :=
  wp_region_quiet (C := fun w' => ∃ x : Later w, w' = x.w) hm hB ⟨⟨w.drew, (Below.refl _ _).drew⟩, rfl⟩ (by simpa using h)

theorem calls_later {P : Program} {f : FuncId} {args : Array Value} {w : World} {x : Later w} {v : Value}
    (h : Calls P f args x.w fun e w' => e = .returned v ∧ Below x.w.heap.size x.w w') : Calls P f args x.w fun e w' => e = .returned v ∧ ∃ y : Later w, w' = y.w :=
  h.mono fun _ w' ⟨he, hb⟩ => ⟨he, ⟨w', below_trans x.2 hb⟩, rfl⟩
theorem calls_later_same {P : Program} {f : FuncId} {args : Array Value} {w : World} {x : Later w} {v : Value}
    (h : Calls P f args x.w fun e w' => e = .returned v ∧ x.w = w') : Calls P f args x.w fun e w' => e = .returned v ∧ ∃ y : Later w, w' = y.w :=
  h.mono fun _ _ ⟨he, hb⟩ => ⟨he, x, hb.symm⟩

/-- The slice at A reads as the list l, each element the cells 'enc x', 'sz' of them; it lies below block B. -/
def Arr {α : Type} (sz : Nat) (enc : α → List Value) (w : World) (B : Nat) (A : Option Addr) (l : List α) : Prop :=
  l ≠ [] → ∃ b off, A = some ⟨b, off, none⟩ ∧ b < B ∧ ∀ i x, l[i]? = some x → ∀ j u, (enc x)[j]? = some u → w.cell? ⟨b, off + i * sz + j, none⟩ = some u

section
variable {α : Type} {sz : Nat} {enc : α → List Value} {w w' : World} {B B' : Nat} {A : Option Addr} {l : List α}
theorem Arr.nil : Arr sz enc w B A [] := fun h => (h rfl).elim
theorem Arr.get (h : Arr sz enc w B A l) {k : Nat} (hk : k < l.length) (hb : Below B w w') :
    ∃ b off, A = some ⟨b, off, none⟩ ∧ b < B ∧ ∀ j u, (enc l[k])[j]? = some u → w'.cell? ⟨b, off + k * sz + j, none⟩ = some u := by
  obtain ⟨b, off, rfl, hbb, hc⟩ := h (by rintro rfl; simp at hk)
  exact ⟨b, off, rfl, hbb, fun j u hu => (hb.cell (p := ⟨b, off + k * sz + j, none⟩) hbb).trans (hc k _ (List.getElem?_eq_getElem hk) j u hu)⟩
theorem Arr.keep (h : Arr sz enc w B A l) (hb : Below B w w') : Arr sz enc w' B A l := fun hl => by
  obtain ⟨b, off, rfl, hbb, hc⟩ := h hl
  exact ⟨b, off, rfl, hbb, fun i x hx j u hu => (hb.cell (p := ⟨b, off + i * sz + j, none⟩) hbb).trans (hc i x hx j u hu)⟩
theorem Arr.up (h : Arr sz enc w B A l) (hB : B ≤ B') : Arr sz enc w B' A l := fun hl => by
  obtain ⟨b, off, rfl, hbb, hc⟩ := h hl
  exact ⟨b, off, rfl, by omega, hc⟩
/-- To a later world, at its own size. -/
theorem Arr.on (h : Arr sz enc w w.heap.size A l) (hb : Below w.heap.size w w') : Arr sz enc w' w'.heap.size A l := (h.keep hb).up hb.size

theorem flat_at (hs : ∀ x, (enc x).length = sz) : ∀ (l : List α) (i : Nat) (x : α), l[i]? = some x → ∀ j, j < sz → (l.flatMap enc)[i * sz + j]? = (enc x)[j]?
  | [], i, x, h, _, _ => by simp at h
  | y :: l, 0, x, h, j, hj => by
    obtain rfl : y = x := by simpa using h
    rw [List.flatMap_cons, Nat.zero_mul, Nat.zero_add, List.getElem?_append_left (by rw [hs]; exact hj)]
  | y :: l, i + 1, x, h, j, hj => by
    have h' : l[i]? = some x := by simpa using h
    have e : (i + 1) * sz + j = sz + (i * sz + j) := by rw [Nat.add_mul]; omega
    rw [List.flatMap_cons, e, List.getElem?_append_right (by rw [hs]; omega), hs]
    rw [show sz + (i * sz + j) - sz = i * sz + j from by omega]
    exact flat_at hs l i x h' j hj
theorem flat_len (hs : ∀ x, (enc x).length = sz) (l : List α) : (l.flatMap enc).length = l.length * sz := by
  induction l with
  | nil => simp
  | cons x l ih => rw [List.flatMap_cons, List.length_append, ih, hs, List.length_cons, Nat.add_mul]; omega

/-- The slice value v is the call's own (its block is from base on), and reads as l. -/
def Own (w : World) (base e sz : Nat) (enc : α → List Value) (v : Value) (l : List α) : Prop := w.ownsRow base e sz v l.length (l.flatMap enc)

theorem Own.nil {base e : Nat} : Own w base e sz enc (.slice none 0 0) ([] : List α) := World.ownsRow_nil _ _ _ _
theorem Own.form {base e : Nat} {v : Value} (h : Own w base e sz enc v l) (hs : ∀ x, (enc x).length = sz) :
    ∃ A c, v = .slice A l.length c ∧ l.length ≤ c ∧ c ≤ maxLen ∧ (A = none → c = 0) ∧ Arr sz enc w w.heap.size A l := by
  rcases h.2 with ⟨rfl, h0⟩ | ⟨g, cap, cur, rfl, _, hg, hn, hm, _, _⟩
  · have : l = [] := List.eq_nil_of_length_eq_zero h0
    subst this
    exact ⟨none, 0, rfl, Nat.le_refl _, Nat.zero_le _, fun _ => rfl, Arr.nil⟩
  · refine ⟨_, _, rfl, hn, hm, (fun h => by cases h), fun _ => ⟨g, 0, rfl, (Array.getElem?_eq_some_iff.1 hg).1, fun i x hx j u hu => ?_⟩⟩
    have hj : j < sz := by
      have := (List.getElem?_eq_some_iff.1 hu).1
      rwa [hs] at this
    have := World.ownsRow.cells (v := .slice (some ⟨g, 0, none⟩) l.length cap) h rfl (i * sz + j) u (by rw [flat_at hs l i x hx j hj]; exact hu)
    rw [Nat.zero_add]
    unfold Addr.add at this
    split at this
    · rename_i h0; rw [h0]; exact this
    · simpa using this
theorem flat_snoc (l : List α) (x : α) : (l ++ [x]).flatMap enc = l.flatMap enc ++ enc x := by simp [List.flatMap_append]
theorem Own.snoc {base e : Nat} {v : Value} {x : α} (h : w.ownsRow base e sz v (l.length + 1) (l.flatMap enc ++ enc x)) : Own w base e sz enc v (l ++ [x]) := by
  unfold Own
  rw [flat_snoc, List.length_append]
  exact h
theorem Own.keep {base e : Nat} {v : Value} {row : Option Nat} (h : Own w base e sz enc v l) (hg : w.grownBy w' row) (hne : v.ownBlock = none ∨ v.ownBlock ≠ row) : Own w' base e sz enc v l := World.ownsRow.kept h hg hne
theorem Own.alloc {base e : Nat} {v : Value} (h : Own w base e sz enc v l) (o : Obj) : Own (w.alloc o) base e sz enc v l := World.ownsRow.alloc h o
theorem grown_of_below (h : Below w.heap.size w w') : w.grownBy w' none := ⟨h.os, h.tape, h.output, h.size, fun k hk _ => h.block k hk⟩
theorem Own.below {base e : Nat} {v : Value} (h : Own w base e sz enc v l) (hb : Below w.heap.size w w') : Own w' base e sz enc v l := by
  refine World.ownsRow.kept h (grown_of_below hb) ?_
  cases v.ownBlock with
  | none => exact .inl rfl
  | some x => exact .inr (by simp)
end

/-- A slice over a block that was just laid. -/
theorem arr_lit {α : Type} {sz : Nat} {enc : α → List Value} (w : World) (l : List α) (cs : Array Value) (T : TypeId) (hcs : cs.toList = l.flatMap enc) (hs : ∀ x, (enc x).length = sz) :
    Arr sz enc (w.alloc (.cells cs T)) (w.alloc (.cells cs T)).heap.size (some ⟨w.heap.size, 0, none⟩) l := fun _ => by
  refine ⟨_, _, rfl, by simp, fun i x hx j u hu => ?_⟩
  have hj : j < sz := by
    have := (List.getElem?_eq_some_iff.1 hu).1
    rwa [hs] at this
  refine new_cell ?_
  rw [Nat.zero_add, ← Array.getElem?_toList, hcs, flat_at hs l i x hx j hj]
  exact hu

theorem below_grown {a w w' : World} {v : Value} {base : Nat} (h : Below a.heap.size a w) (hg : w.grownBy w' v.ownBlock) (hb : a.heap.size ≤ base) (hv : ∀ k, v.ownBlock = some k → base ≤ k) : Below a.heap.size a w' :=
  h.grown hg h.size (fun k hk => by have := hv k hk; omega)

/-- 'out = append(out, x)': out is the call's own. -/
theorem wpList_snoc {P : Program} {w0 : World} {ops : Array Oper} {rest : List Oper} {o : Oper} {a : Act} {Q : Exit → Act → World → Prop} (hgd : o.guard = none) (s x : Operand) (t : TypeId)
    (ho : o.op = .call { callee := .builtin .append, args := #[s, x], argTypes := #[t, t] })
    (base : Nat) (e : TypeId) (i : TypeInfo) (z : Value) (size bytes : Nat) (ht : P.underlying t = some (.slice e)) (hi : P.info? e = some i) (hz : i.zero = some z)
    (hsize : i.size = size) (hby : i.bytes = bytes) (hzs : z.cells.size = size) (hsz : 0 < size)
    {α : Type} {enc : α → List Value} (v : Value) (l : List α) (x0 : α) (cs : Array Value) (T : TypeId) (hs : a.eval s = v) (hown : Own w0 base e size enc v l)
    {g : Nat} (hx : a.eval x = .slice (some ⟨g, 0, none⟩) 1 1) (hcs : cs.toList = enc x0) (hlen : (enc x0).length = size) (h1 : ∀ u ∈ enc x0, u.oneCell' = true)
    (hbytes : (l.length + 1) * bytes ≤ 140737488355328) (hbp : 0 < bytes) (hbase : base ≤ w0.heap.size) (hg : g = w0.heap.size)
    (h : ∀ v' w', Own w' base e size enc v' (l ++ [x0]) → Below base w0 w' → wpList P ops Q rest (a.put o.dst v') w') : wpList P ops Q (o :: rest) a (w0.alloc (.cells cs T)) := by
  subst hg
  have h63 : l.length + 1 ≤ maxLen := by
    have := Nat.le_mul_of_pos_right (l.length + 1) hbp
    unfold maxLen; omega
  refine wpList_append_own _ hgd s x t ho base e i z size bytes ht hi hz hsize hby hzs hsz v l.length (l.flatMap enc) hs (World.ownsRow.alloc hown _) ⟨w0.heap.size, 0, none⟩ 1 1 (enc x0) hx (by rw [hlen, Nat.one_mul]) (fun j u hu => ?_) h1 h63 hbytes (by simp; omega) (fun v' w' h2 h3 _ => h v' w' (Own.snoc h2) ?_)
  · have hadd : (⟨w0.heap.size, 0, none⟩ : Addr).add j = ⟨w0.heap.size, j, none⟩ := by unfold Addr.add; split <;> simp_all
    rw [hadd]
    exact new_cell (by rw [← hu, ← hcs]; simp)
  · have hb : Below base w0 (w0.alloc (.cells cs T)) := (Below.refl _ _).alloc hbase _
    exact hb.grown h3 (by simp; omega) (fun k hk => (World.ownsRow.lt hown k hk).1)

theorem flat_cell {α : Type} {sz : Nat} {enc : α → List Value} {w : World} {b off : Nat} {l : List α} (hs : ∀ x, (enc x).length = sz) (hsz : 0 < sz)
    (hc : ∀ i x, l[i]? = some x → ∀ j u, (enc x)[j]? = some u → w.cell? ⟨b, off + i * sz + j, none⟩ = some u) : ∀ j u, (l.flatMap enc)[j]? = some u → w.cell? ((⟨b, off, none⟩ : Addr).add j) = some u := by
  intro j u hu
  have hlt : j < l.length * sz := by have := (List.getElem?_eq_some_iff.1 hu).1; rwa [flat_len hs] at this
  have hi : j / sz < l.length := Nat.div_lt_of_lt_mul (by rwa [Nat.mul_comm] at hlt)
  have hr : j % sz < sz := Nat.mod_lt _ hsz
  have hj : j / sz * sz + j % sz = j := by rw [Nat.mul_comm]; exact Nat.div_add_mod _ _
  have hx : l[j / sz]? = some l[j / sz] := List.getElem?_eq_getElem hi
  have h1 := flat_at hs l (j / sz) _ hx (j % sz) hr
  rw [hj, hu] at h1
  have h2 := hc _ _ hx _ _ h1.symm
  rw [Nat.add_assoc, hj] at h2
  have hadd : (⟨b, off, none⟩ : Addr).add j = ⟨b, off + j, none⟩ := by unfold Addr.add; split <;> simp_all
  rw [hadd]; exact h2

/-- 'out = append(out, xs...)': out is the call's own, xs reads as a list. -/
theorem wpList_app {P : Program} {w : World} {ops : Array Oper} {rest : List Oper} {o : Oper} {a : Act} {Q : Exit → Act → World → Prop} (hgd : o.guard = none) (s x : Operand) (t : TypeId)
    (ho : o.op = .call { callee := .builtin .append, args := #[s, x], argTypes := #[t, t] })
    (base : Nat) (e : TypeId) (i : TypeInfo) (z : Value) (size bytes : Nat) (ht : P.underlying t = some (.slice e)) (hi : P.info? e = some i) (hz : i.zero = some z)
    (hsize : i.size = size) (hby : i.bytes = bytes) (hzs : z.cells.size = size) (hsz : 0 < size)
    {α : Type} {enc : α → List Value} (hs' : ∀ x, (enc x).length = size) (h1 : ∀ x, ∀ u ∈ enc x, u.oneCell' = true) (v : Value) (l : List α) (l2 : List α) (A : Option Addr) (c B : Nat) (hs : a.eval s = v) (hown : Own w base e size enc v l)
    (hx : a.eval x = .slice A l2.length c) (hA : Arr size enc w B A l2) (hnil : A = none → c = 0)
    (hbytes : (l.length + l2.length) * bytes ≤ 140737488355328) (hbp : 0 < bytes) (hbase : base ≤ w.heap.size)
    (h : ∀ v' w', Own w' base e size enc v' (l ++ l2) → Below base w w' → wpList P ops Q rest (a.put o.dst v') w') : wpList P ops Q (o :: rest) a w := by
  have h63 : l.length + l2.length ≤ maxLen := by
    have := Nat.le_mul_of_pos_right (l.length + l2.length) hbp
    unfold maxLen; omega
  have hgo : ∀ ad, A = some ad → (∀ j u, (l2.flatMap enc)[j]? = some u → w.cell? (ad.add j) = some u) → wpList P ops Q (o :: rest) a w := by
    rintro ad rfl hnews
    refine wpList_append_own _ hgd s x t ho base e i z size bytes ht hi hz hsize hby hzs hsz v l.length (l.flatMap enc) hs hown ad l2.length c (l2.flatMap enc) hx (flat_len hs' l2) hnews (fun u hu => ?_) h63 hbytes hbase (fun v' w' h2 h3 _ => h v' w' ?_ ?_)
    · obtain ⟨y, _, hy⟩ := List.mem_flatMap.1 hu
      exact h1 y u hy
    · unfold Own; rw [List.length_append, List.flatMap_append]; exact h2
    · exact (Below.refl _ _).grown h3 hbase (fun k hk => (World.ownsRow.lt hown k hk).1)
  cases l2 with
  | nil =>
    cases A with
    | none =>
      obtain rfl : c = 0 := hnil rfl
      exact wpList_append_own_none hgd s x t ho base e i size ht hi v l.length (l.flatMap enc) hs hown hx (h v w (by simpa using hown) (Below.refl _ _))
    | some ad => exact hgo ad rfl (by simp)
  | cons y ys =>
    obtain ⟨b, off, rfl, _, hc⟩ := hA (by simp)
    exact hgo _ rfl (flat_cell hs' hsz hc)

theorem own_empty {α : Type} {sz : Nat} {enc : α → List Value} (w : World) (base : Nat) (e : TypeId) (hb : base ≤ w.heap.size) : Own (w.alloc (.cells #[] e)) base e sz enc (.slice (some ⟨w.heap.size, 0, none⟩) 0 0) ([] : List α) :=
  World.ownsRow_made w #[] 0 hb (Nat.zero_le _) (by simp)

/-- A contract at a call whose arguments are these: it fails at once where they are not. -/
theorem Calls.on {P : Program} {f : FuncId} {args args' : Array Value} {w : World} {Q : Ending → World → Prop} (h : args = args') (hc : Calls P f args' w Q) : Calls P f args w Q := h ▸ hc
theorem ret_int {k : IntKind} {a b : Int} (h : a = b) : Ending.returned (.int k a) = .returned (.int k b) := by rw [h]
theorem ret_bool {a b : Bool} (h : a = b) : Ending.returned (.bool a) = .returned (.bool b) := by rw [h]

end Go.Proofs.YtfolgmcoggejbaaGreat
