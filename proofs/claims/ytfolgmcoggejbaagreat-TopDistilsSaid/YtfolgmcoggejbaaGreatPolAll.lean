/- A pool in memory; contracts of the copy of a bit string, of NewPool, and of what asks a pool. For pools of the width 8, 16 or 32. Contracts of the sealing and the opening of a pool's messages. For pools of the width 8, 16 or 32 and messages of at most 100000 bits. Contract of the opening of a pool's messages. For pools of the width 8, 16 or 32. Contracts of what a pool says of its numbers. For pools of the width 8, 16 or 32. -/
import Derived.Test.YtfolgmcoggejbaaGreatProg
import Derived.Test.YtfolgmcoggejbaaGreatPolN
import Derived.Test.YtfolgmcoggejbaaGreatLenA
import Derived.Test.YtfolgmcoggejbaaGreatGfcAll
import Derived.Test.YtfolgmcoggejbaaGreatDrwA
import Derived.Deep.AppendLies
import Derived.Maps.Own
import Derived.Maps.OwnOps
import Derived.Maps.OwnSet
import Derived.Maps.RangeWalk
import Derived.Lib.LazyBuf
import Derived.Test.YtfolgmcoggejbaaGreatFrgAll
import Derived.Test.YtfolgmcoggejbaaGreatTail
namespace Go.Proofs.YtfolgmcoggejbaaGreat
open Go.RowKit Go.Maps
set_option linter.unusedVariables false
set_option linter.unusedSimpArgs false

theorem key_int : Keyed Tryz.prog 3 := int_keyed Tryz.underlying3
theorem zero_int (w : World) : (zeroValue 3).run Tryz.prog w = .ok (.int .i64 0) w := by kernel_rfl
/-- The map of the used numbers. -/
def Usd (w : World) (mb : Nat) (u : List Nat) : Prop :=
  ∃ D : DataW Unit, w.ownsMap Tryz.prog 3 (plainElem Tryz.prog 3) mb u.length D ∧ Tidy D ∧ ∀ c : Int, has D (.int .i64 c) = true ↔ ∃ n ∈ u, (n : Int) = c
theorem Usd.kept {w w' : World} {mb : Nat} {u : List Nat} {row : Option Nat} (h : Usd w mb u) (hg : w.grownBy w' row) (hne : some mb ≠ row) : Usd w' mb u := by
  obtain ⟨D, h1, h2, h3⟩ := h
  exact ⟨D, h1.kept hg hne, h2, h3⟩
theorem Usd.lt {w : World} {mb : Nat} {u : List Nat} (h : Usd w mb u) : mb < w.heap.size := by
  obtain ⟨D, h1, _⟩ := h
  exact h1.lt
theorem Usd.new (w : World) : Usd (w.alloc (.map #[] 0)) w.heap.size [] :=
  ⟨.map [], World.ownsMap_made _ _ _ _, tidy_empty, fun c => by simp [has_eq]⟩
/-- A pool: its struct is block b, its numbers block nb, its map block mb. -/
structure PoolAt (w : World) (b nb mb W : Nat) (bits : List Bool) (u : List Nat) : Prop where
  wd : W = 8 ∨ W = 16 ∨ W = 32
  c0 : w.cell? ⟨b, 0, none⟩ = some (.pointer (some ⟨nb, 0, none⟩))
  c1 : w.cell? ⟨b, 1, none⟩ = some (.int .i64 W)
  c2 : ∃ A c, w.cell? ⟨b, 2, none⟩ = some (.slice A bits.length c) ∧ Arr 1 encB w w.heap.size A bits ∧ bits.length ≤ c ∧ c ≤ maxLen ∧ (A = none → c = 0) ∧ ∀ a, A = some a → a.block ≠ mb ∧ a.block < w.heap.size
  d0 : w.cell? ⟨nb, 0, none⟩ = some (.map (some mb))
  us : Usd w mb u
  bm : b ≠ mb
  nm : nb ≠ mb
  bl : bits.length ≤ 65536
  un : u.Nodup
  ub : ∀ x ∈ u, x < bits.length / (2 * W)
  fr : w.frozen? ⟨b, 2, none⟩ = false
theorem nodup_le : ∀ (R : Nat) (u : List Nat), u.Nodup → (∀ x ∈ u, x < R) → u.length ≤ R
  | 0, [], _, _ => by simp
  | 0, x :: u, _, h => by have := h x (by simp); omega
  | R + 1, u, hn, h => by
    by_cases hr : R ∈ u
    · have h1 := nodup_le R (u.erase R) (hn.erase R) (fun x hx => by
        have h2 := h x (List.mem_of_mem_erase hx)
        have h3 : x ≠ R := fun e => by subst e; exact (hn.not_mem_erase) hx
        omega)
      rw [List.length_erase_of_mem hr] at h1
      omega
    · have h1 := nodup_le R u hn (fun x hx => by
        have h2 := h x hx
        have h3 : x ≠ R := fun e => hr (e ▸ hx)
        omega)
      omega
theorem PoolAt.ul {w : World} {b nb mb W : Nat} {bits : List Bool} {u : List Nat} (h : PoolAt w b nb mb W bits u) : u.length ≤ 65536 := by
  have h1 := nodup_le _ u h.un h.ub
  have h2 := Nat.div_le_self bits.length (2 * W)
  have := h.bl
  omega
theorem arr_kept {α : Type} {sz : Nat} {enc : α → List Value} {w w' : World} {A : Option Addr} {l : List α} {row : Option Nat} (h : Arr sz enc w w.heap.size A l) (hg : w.grownBy w' row) (hne : ∀ a, A = some a → some a.block ≠ row) : Arr sz enc w' w'.heap.size A l := fun hl => by
  obtain ⟨b, off, rfl, hbb, hc⟩ := h hl
  exact ⟨b, off, rfl, Nat.lt_of_lt_of_le hbb hg.size, fun i x hx j u hu => hg.cell (hc i x hx j u hu) (show some b ≠ row from hne _ rfl)⟩
theorem PoolAt.kept {w w' : World} {b nb mb W : Nat} {bits : List Bool} {u : List Nat} {row : Option Nat} (h : PoolAt w b nb mb W bits u) (hg : w.grownBy w' row) (h1 : some b ≠ row) (h2 : some nb ≠ row) (h3 : some mb ≠ row) (h4 : ∀ A c, w.cell? ⟨b, 2, none⟩ = some (.slice A bits.length c) → ∀ a, A = some a → some a.block ≠ row) : PoolAt w' b nb mb W bits u := by
  obtain ⟨wd, c0, c1, ⟨A, c, c2, ar, l1, l2, l3, l4⟩, d0, us, bm, nm, bl, un, ub, fr⟩ := h
  exact ⟨wd, hg.cell c0 h1, hg.cell c1 h1, ⟨A, c, hg.cell c2 h1, arr_kept ar hg (h4 A c c2), l1, l2, l3, fun a ha => ⟨(l4 a ha).1, Nat.lt_of_lt_of_le (l4 a ha).2 hg.size⟩⟩, hg.cell d0 h2, us.kept hg h3, bm, nm, bl, un, ub, (hg.frozen_far ⟨b, 2, none⟩ (World.block_lt_of_cell? _ _ c2) h1).trans fr⟩
theorem PoolAt.on {w w' : World} {b nb mb W : Nat} {bits : List Bool} {u : List Nat} (h : PoolAt w b nb mb W bits u) (hb : Below w.heap.size w w') : PoolAt w' b nb mb W bits u :=
  h.kept (grown_of_below hb) (by simp) (by simp) (by simp) (by simp)

theorem below_dn1 (w : World) (n : Nat) : Below w.heap.size w (w.drewN n) := ⟨rfl, rfl, rfl, Nat.le_refl _, fun _ _ => rfl⟩
set_option maxHeartbeats 400000 in
theorem pvalid_any (b nb : Nat) (w : World) (c0 : w.cell? ⟨b, 0, none⟩ = some (.pointer (some ⟨nb, 0, none⟩))) : Calls Tryz.prog 136 #[.pointer (some ⟨b, 0, none⟩)] w fun e w' => e = .returned (.bool true) ∧ w = w' := by
  go_enter Tryz.func136, Tryz.ntmps136
  go_wp2
  go_ret
  exact ⟨rfl, rfl⟩

set_option maxRecDepth 100000 in
set_option maxHeartbeats 2000000 in
theorem Room_any (b nb mb W : Nat) (bits : List Bool) (u : List Nat) (w : World) (h : PoolAt w b nb mb W bits u) : Calls Tryz.prog 172 #[.pointer (some ⟨b, 0, none⟩)] w fun e w' => e = .returned (.int .i64 ((bits.length / (2 * W) : Nat) : Int)) ∧ Below w.heap.size w w' := by
  obtain ⟨wd, c0, c1, ⟨A, c, c2, ar, l1, l2, l3, l4⟩, d0, us, bm, nm, bl, un, ub⟩ := h
  have cV := pvalid_any b nb w c0
  unfold maxLen at l2
  obtain ⟨R, hR⟩ : ∃ R : Nat, bits.length / (2 * W) = R := ⟨_, rfl⟩
  rw [hR]
  rcases wd with rfl | rfl | rfl
  all_goals (
    go_enter Tryz.func172, Tryz.ntmps172
    go_wp2_with (go_at_call 136; refine (cV).mono ?_; rintro e w' ⟨rfl, rfl⟩)
    go_quiet (fail)
    go_wp2
    go_ret
    exact ⟨ret_int (by rw [← hR]; simp), below_dn1 _ _⟩)

theorem eql_nil (A : Option Addr) (n c : Nat) (w : World) : (binOp .eql 22 (.slice A n c) (.slice none 0 0)).run Tryz.prog w = .ok (.bool A.isNone) w := Lib.run_eql_slice_nil w _ _ A n c 0 0 Tryz.underlying22
set_option maxRecDepth 100000 in
set_option maxHeartbeats 2000000 in
theorem Clone_any (A : Option Addr) (c : Nat) (l : List Bool) (w : World) (hA : Arr 1 encB w w.heap.size A l) (nA : A = none → c = 0) (hl : l.length ≤ c) (hc : c ≤ maxLen) (hl2 : l.length ≤ 100000) :
    Calls Tryz.prog 105 #[.slice A l.length c] w fun e w' => ∃ v, e = .returned v ∧ Own w' w.heap.size 4 1 encB v l ∧ Below w.heap.size w w' := by
  obtain ⟨i0, hi, hz0, hz1, hz2⟩ := info_parts bool_info3
  have Hi := Lib.hid hi; have Hz0 := Lib.hid hz0; have Hz1 := Lib.hid hz1; have Hz2 := Lib.hid hz2
  clear hi hz0 hz1 hz2
  have hn := fun w' => eql_nil A l.length c w'
  cases A with
  | none =>
    obtain rfl : c = 0 := nA rfl
    obtain rfl : l = [] := List.eq_nil_of_length_eq_zero (by omega)
    have hn0 : ∀ w', (binOp .eql 22 (.slice none 0 0) (.slice none 0 0)).run Tryz.prog w' = .ok (.bool true) w' := fun w' => hn w'
    clear hn
    go_enter Tryz.func105, Tryz.ntmps105
    go_wp2
    go_ret
    exact ⟨_, rfl, Own.nil, Below.refl _ _⟩
  | some a =>
    have hsome : ∀ w', (binOp .eql 22 (.slice (some a) l.length c) (.slice none 0 0)).run Tryz.prog w' = .ok (.bool false) w' := fun w' => hn w'
    have oe := own_empty (α := Bool) (sz := 1) (enc := encB) w w.heap.size 4 (Nat.le_refl _)
    have oA := hA.keep (below_alloc (Below.refl _ _) (.cells #[] 4))
    have oby : (([] : List Bool).length + l.length) * 1 ≤ 140737488355328 := by simp; omega
    have osz : w.heap.size ≤ (w.alloc (.cells #[] 4)).heap.size := by simp
    clear hn
    go_enter Tryz.func105, Tryz.ntmps105
    go_wp2_with (at_builtin; refine wpList_app rfl _ _ 22 rfl w.heap.size 4 i0 _ 1 1 Tryz.underlying22 Hi.out Hz0.out Hz1.out Hz2.out rfl (by decide) encB_len encB_one _ ([] : List Bool) l _ c w.heap.size rfl oe rfl oA nA oby (by decide) osz ?_; intro v1 w1 own1 hb1; rw [List.nil_append] at own1)
    go_ret
    exact ⟨_, rfl, own1, (below_alloc (Below.refl _ _) _).trans hb1⟩

set_option maxRecDepth 100000 in
set_option maxHeartbeats 2000000 in
theorem NewPool_any (W : Nat) (hW : W = 8 ∨ W = 16 ∨ W = 32) (A : Option Addr) (c : Nat) (l : List Bool) (w : World) (hA : Arr 1 encB w w.heap.size A l) (nA : A = none → c = 0) (hl : l.length ≤ c) (hc : c ≤ maxLen) (hl2 : l.length ≤ 65536) :
    Calls Tryz.prog 146 #[.int .i64 W, .slice A l.length c] w fun e w' => ∃ b nb mb, e = .returned (.tuple #[.pointer (some ⟨b, 0, none⟩), .int .i64 0]) ∧ PoolAt w' b nb mb W l [] ∧ w.heap.size ≤ b ∧ w.heap.size ≤ nb ∧ w.heap.size ≤ mb ∧ (∀ A' c', w'.cell? ⟨b, 2, none⟩ = some (.slice A' l.length c') → ∀ a, A' = some a → w.heap.size ≤ a.block) ∧ Below w.heap.size w w' := by
  have hmm := @run_makeMap Tryz.prog
  have d1 : decide (65536 < (l.length : Int)) = false := by simp; omega
  have cC := fun w' (hb : Below w.heap.size w w') => Clone_any A c l w' (hA.on hb) nA hl hc (by omega)
  rcases hW with rfl | rfl | rfl
  all_goals (
    go_enter Tryz.func146, Tryz.ntmps146
    have w0 : Below w.heap.size w (w.alloc (.map #[] 0)) := below_alloc (Below.refl _ _) _
    have u0 := Usd.new w
    have q1 : Below w.heap.size w ((w.alloc (.map #[] 0)).alloc (.cells #[.map (some w.heap.size)] 239)) := below_alloc w0 _
    have d0 : ((w.alloc (.map #[] 0)).alloc (.cells #[.map (some w.heap.size)] 239)).cell? ⟨w.heap.size + 1, 0, none⟩ = some (.map (some w.heap.size)) := by simp
    go_wp2_with fail
    refine (cC _ q1).mono ?_
    rintro e w2 ⟨v2, rfl, own2, hb2⟩
    have us2 := (u0.kept (grown_of_below (below_alloc (Below.refl _ _) _)) (by simp)).kept (grown_of_below hb2) (by simp)
    have d2 := bel_cell hb2 d0
    have lt2 : w.heap.size + 2 ≤ w2.heap.size := by have := hb2.size; simpa using this
    have q2 := q1.trans (hb2.mono q1.size)
    obtain ⟨A2, c2, rfl, l2, m2, n2, ar2⟩ := own2.form encB_len
    have hbase : ∀ a, A2 = some a → w.heap.size + 2 ≤ a.block ∧ a.block < w2.heap.size := fun a ha => by
      subst ha
      have := World.ownsRow.lt own2 a.block rfl
      simpa using this
    clear cC u0 d0
    go_wp2_with fail
    go_ret2
    refine ⟨w2.heap.size, w.heap.size + 1, w.heap.size, rfl, ⟨by decide, new_cell rfl, new_cell rfl, ⟨A2, c2, new_cell rfl, ar2.on (below_alloc (Below.refl _ _) _), l2, m2, n2, fun a ha => by have := hbase a ha; simp; omega⟩, bel_cell (below_alloc (Below.refl _ _) _) d2, us2.kept (grown_of_below (below_alloc (Below.refl _ _) _)) (by simp), by omega, by omega, hl2, by simp, by simp, frozen_of_row _ _ _ _ _ (heap_alloc_new _ _)⟩, by omega, by omega, Nat.le_refl _, ?_, q2.alloc (by omega) _⟩
    intro A' c' hc' a ha
    rw [new_cell (j := 2) rfl] at hc'
    cases hc'
    have := hbase a ha
    omega)

end Go.Proofs.YtfolgmcoggejbaaGreat

namespace Go.Proofs.YtfolgmcoggejbaaGreat
open Go.RowKit Go.Maps
set_option linter.unusedVariables false
set_option linter.unusedSimpArgs false

set_option maxHeartbeats 400000 in
theorem Word_any (A : Option Addr) (c : Nat) (l : List Bool) (w : World) (h : Arr 1 encB w w.heap.size A l) (hl : l.length ≤ 40) :
    Calls Tryz.prog 175 #[.slice A l.length c] w fun e w' => e = .returned (.tuple #[.int .u64 (bval l), .int .i64 0]) ∧ w = w' := by
  have d1 : decide (64 < (l.length : Int)) = false := by simp; omega
  go_enter Tryz.func175, Tryz.ntmps175
  go_wp2_with (go_at_call 162; refine (number_any A c l w h hl).mono ?_; rintro e w' ⟨rfl, rfl⟩)
  go_ret2
  exact ⟨rfl, rfl⟩
/-- The part of a pool's bits for a number; its key and its pad. -/
def pKey (W : Nat) (bits : List Bool) (n : Nat) : Nat := bval ((bits.drop (2 * W * n)).take W)
def pPad (W : Nat) (bits : List Bool) (n : Nat) : Nat := bval (((bits.drop (2 * W * n)).drop W).take W)
def plE (W : Nat) (bits : List Bool) (u : List Nat) (n : Int) (m : List Bool) : Int :=
  if n < 0 then 3 else if ((bits.length / (2 * W) : Nat) : Int) ≤ n then 14 else if n.toNat ∈ u then 16 else tgE W (pKey W bits n.toNat) (pPad W bits n.toNat) m
def plT (W : Nat) (bits : List Bool) (n : Int) (m : List Bool) : Nat := tgN W (pKey W bits n.toNat) (pPad W bits n.toNat) m
set_option maxHeartbeats 400000 in
theorem Seal1_any (T : Nat) (x : Nat) (v : Value) (w : World) (h : w.cell? ⟨x, 0, none⟩ = some v) (hf : w.frozen? ⟨x, 0, none⟩ = false) (hv : v.oneCell' = true) :
    Calls Tryz.prog 173 #[.int .u64 T, .pointer (some ⟨x, 0, none⟩)] w fun e w' => e = .returned (.int .i64 0) ∧ w' = w.setCell ⟨x, 0, none⟩ (.int .u64 T) := by
  go_enter Tryz.func173, Tryz.ntmps173
  go_wp2
  go_ret
  exact ⟨rfl, rfl⟩
set_option maxHeartbeats 400000 in
theorem Open1_any (T t : Nat) (x : Nat) (w : World) (h : w.cell? ⟨x, 0, none⟩ = some (.int .u64 t)) :
    Calls Tryz.prog 131 #[.int .u64 T, .pointer (some ⟨x, 0, none⟩)] w fun e w' => e = .returned (.int .i64 (if t = T then 0 else 15)) ∧ w = w' := by
  by_cases h2 : t = T
  · subst h2
    rw [if_pos rfl]
    go_enter Tryz.func131, Tryz.ntmps131
    go_wp2
    go_ret
    exact ⟨rfl, rfl⟩
  · rw [if_neg h2]
    have e1 : ((t : Int) != (T : Int)) = true := by simp; omega
    go_enter Tryz.func131, Tryz.ntmps131
    go_wp2
    go_ret
    exact ⟨rfl, rfl⟩
/-- 'len(m)', m a map, in a walk that only reads. -/
theorem wpQuiet_len_map {P : Program} {ops : Array Oper} {C : World → Prop} {Q : Act → Prop} {a : Act} {o : Oper} {rest : List Oper} (hg : o.guard = none) (m : Operand) (t : TypeId) (hop : o.op = Op.call { callee := .builtin .len, args := #[m], argTypes := #[t] })
    (v : Value) (mb : Nat) (hm : a.eval m = .map (some mb)) (hl : ∀ w, C w → (Builtin.len_ #[t] o.type #[.map (some mb)]).run P w = .ok v w) (h : wpQuiet P ops C Q rest (a.put o.dst v)) : wpQuiet P ops C Q (o :: rest) a := by
  refine BigFrame.wpQuiet_want (by simp [Region.wanted, hg]) fun K hK => ⟨v, fun w hw => ?_, hK _ h⟩
  unfold Oper.quietAt
  simp [execOp, hop, resolve, invoke, builtin, hm, hl w hw, Result.andThen]
  exact ⟨rfl, rfl⟩

/-- A pool with one more used number, behind a store into its map. -/
theorem PoolAt.more {w w' : World} {b nb mb W : Nat} {bits : List Bool} {u : List Nat} {k : Nat} {D : DataW Unit} {d : DataW Unit} (h : PoolAt w b nb mb W bits u) (hg : w.grownBy w' (some mb)) (own : w'.ownsMap Tryz.prog 3 (plainElem Tryz.prog 3) mb (u.length + 1) (D.put (.int .i64 (k : Int)) d))
    (tidy : Tidy D) (hhas : ∀ c : Int, has D (.int .i64 c) = true ↔ ∃ n ∈ u, (n : Int) = c) (hu : ¬ k ∈ u) (hk : k < bits.length / (2 * W)) (hkey : WideAt.IsKeyLit (.int .i64 (k : Int))) : PoolAt w' b nb mb W bits (k :: u) := by
  obtain ⟨wd, c0, c1, ⟨A, c, c2, ar, l1, l2, l3, l4⟩, d0, us, bm, nm, bl, un, ub, fr⟩ := h
  refine ⟨wd, hg.cell c0 (by simpa using bm), hg.cell c1 (by simpa using bm), ⟨A, c, hg.cell c2 (by simpa using bm), arr_kept ar hg (fun a ha => by simpa using (l4 a ha).1), l1, l2, l3, fun a ha => ⟨(l4 a ha).1, Nat.lt_of_lt_of_le (l4 a ha).2 hg.size⟩⟩, hg.cell d0 (by simpa using nm), ⟨_, own, tidy.put hkey d, fun c => ?_⟩, bm, nm, bl, List.nodup_cons.2 ⟨hu, un⟩, fun x hx => ?_, (hg.frozen_far ⟨b, 2, none⟩ (World.block_lt_of_cell? _ _ c2) (by simpa using bm)).trans fr⟩
  · by_cases hc : c = (k : Int)
    · subst hc
      rw [has_put_same tidy.isMap hkey]
      simp
    · rw [has_put_other (by simpa using hc), hhas]
      constructor
      · rintro ⟨n, hn, rfl⟩; exact ⟨n, by simp [hn], rfl⟩
      · rintro ⟨n, hn, rfl⟩
        rcases List.mem_cons.1 hn with rfl | hn
        · exact (hc rfl).elim
        · exact ⟨n, hn, rfl⟩
  · rcases List.mem_cons.1 hx with rfl | hx
    · exact hk
    · exact ub x hx

set_option maxRecDepth 100000 in
set_option maxHeartbeats 8000000 in
theorem withSeal_any (b nb mb W : Nat) (bits : List Bool) (u : List Nat) (n : Int) (M : Option Addr) (mc : Nat) (m : List Bool) (x : Nat) (w : World) (h : PoolAt w b nb mb W bits u) (hM : Arr 1 encB w w.heap.size M m) (lm : m.length ≤ mc) (mm : mc ≤ maxLen)
    (hx : w.cell? ⟨x, 0, none⟩ = some (.int .u64 0)) (hf : w.frozen? ⟨x, 0, none⟩ = false) (hb : b < x) (hnb : nb < x) (hmb : mb < x) (hbl : ∀ A c, w.cell? ⟨b, 2, none⟩ = some (.slice A bits.length c) → ∀ a, A = some a → a.block < x) :
    Calls Tryz.prog 130 #[.pointer (some ⟨b, 0, none⟩), .int .i64 n, .slice M m.length mc, .func (.func 173) #[] #[.pointer (some ⟨x, 0, none⟩)]] w fun e w' => e = .returned (.int .i64 (plE W bits u n m)) ∧
      ((plE W bits u n m ≠ 0 ∧ Below w.heap.size w w') ∨ (plE W bits u n m = 0 ∧ PoolAt w' b nb mb W bits (n.toNat :: u) ∧ w'.cell? ⟨x, 0, none⟩ = some (.int .u64 (plT W bits n m)) ∧ ∃ wm, Below x w wm ∧ wm.grownBy w' (some mb))) := by
  have cV := pvalid_any b nb w h.c0
  have cR := Room_any b nb mb W bits u w h
  have hR1 : bits.length / (2 * W) ≤ 65536 := Nat.le_trans (Nat.div_le_self _ _) h.bl
  obtain ⟨R, hR⟩ : ∃ R : Nat, bits.length / (2 * W) = R := ⟨_, rfl⟩
  rw [hR] at cR hR1
  by_cases h1 : n < 0
  · have e1 : plE W bits u n m = 3 := by unfold plE; rw [if_pos h1]
    rw [e1]
    have d1 : decide (n < 0) = true := by simpa using h1
    clear e1 h1
    go_enter Tryz.func130, Tryz.ntmps130
    go_wp2_with (go_at_call 136; refine (cV).mono ?_; rintro e w' ⟨rfl, rfl⟩)
    go_ret
    exact ⟨rfl, .inl ⟨by decide, Below.refl _ _⟩⟩
  have d1 : decide (n < 0) = false := by simpa using h1
  by_cases h2 : (R : Int) ≤ n
  · have e1 : plE W bits u n m = 14 := by unfold plE; rw [if_neg h1, hR, if_pos h2]
    rw [e1]
    have d2 : decide ((R : Int) ≤ n) = true := by simpa using h2
    clear e1 h1 h2
    go_enter Tryz.func130, Tryz.ntmps130
    go_wp2_with (first
      | (go_at_call 136; refine (cV).mono ?_; rintro e w' ⟨rfl, rfl⟩)
      | (go_at_call 172; refine cR.mono ?_; rintro e w1 ⟨rfl, hb1⟩))
    go_ret
    exact ⟨rfl, .inl ⟨by decide, hb1⟩⟩
  have d2 : decide ((R : Int) ≤ n) = false := by simpa using h2
  obtain ⟨k, rfl⟩ := Int.eq_ofNat_of_zero_le (show 0 ≤ n by omega)
  have kR : k < R := by omega
  have hk63 : k < 9223372036854775808 := by omega
  have hP := h
  obtain ⟨wd, c0, c1, ⟨A, c, c2, ar, l1, l2, l3, l4⟩, d0, us, bm, nm, bl, un, ub⟩ := h
  obtain ⟨D, own, tidy, hhas⟩ := us
  have hkey : keyOf Tryz.prog 3 (.int .i64 (k : Int)) = some (.int .i64 (k : Int)) := keyOf_int_mk Tryz.underlying3 (WalkArith.wf_i64 (by omega))
  by_cases hu : k ∈ u
  · have e1 : plE W bits u k m = 16 := by unfold plE; rw [if_neg (by omega), hR, if_neg h2]; simp [hu]
    rw [e1]
    have hh : has D (.int .i64 (k : Int)) = true := (hhas k).2 ⟨k, hu, rfl⟩
    clear e1 h1 h2 hhas
    go_enter Tryz.func130, Tryz.ntmps130
    go_wp2_with (first
      | (go_at_call 136; refine (cV).mono ?_; rintro e w' ⟨rfl, rfl⟩)
      | (go_at_call 172; refine cR.mono ?_; rintro e w1 ⟨rfl, hb1⟩; have z0 := bel_cell hb1 c0; have z1 := bel_cell hb1 d0; have ow1 := own.kept (grown_of_below hb1) (by simp))
      | (at_lookup; refine wpList_lookup_own_ok_int _ rfl _ _ 236 rfl 3 3 .i64 key_int Tryz.underlying236 Tryz.underlying3 (zero_int _) mb u.length D rfl ow1 _ _ rfl hkey ?_; intro c9 hat hwc; rw [hh]))
    go_ret
    exact ⟨rfl, .inl ⟨by decide, hb1⟩⟩
  · have hh : has D (.int .i64 (k : Int)) = false := by
      cases hc : has D (.int .i64 (k : Int)) with
      | false => rfl
      | true =>
        obtain ⟨n, hn, he⟩ := (hhas k).1 hc
        have : n = k := by omega
        exact (hu (this ▸ hn)).elim
    have e1 : plE W bits u k m = tgE W (pKey W bits k) (pPad W bits k) m := by unfold plE; rw [if_neg (by omega), hR, if_neg h2]; simp [hu]
    have e2 : plT W bits k m = tgN W (pKey W bits k) (pPad W bits k) m := rfl
    have hWn : 2 * W * k + 2 * W ≤ bits.length := by
      have h3 := Nat.div_mul_le_self bits.length (2 * W)
      rw [hR] at h3
      have h4 : (k + 1) * (2 * W) ≤ R * (2 * W) := Nat.mul_le_mul_right _ (by omega)
      rw [Nat.add_mul, Nat.one_mul, Nat.mul_comm k] at h4
      omega
    have W0 : 0 < W := by rcases wd with rfl | rfl | rfl <;> decide
    obtain ⟨ab, ao, rfl, hab, _⟩ := ar (by rintro rfl; simp at hWn; omega)
    have arD : Arr 1 encB w w.heap.size (some ⟨ab, ao + 2 * W * k, none⟩) (bits.drop (2 * W * k)) := by have := ar.drop (2 * W * k); rwa [Nat.mul_one] at this
    have lD : (bits.drop (2 * W * k)).length = bits.length - 2 * W * k := by simp
    have arK := arr_take arD W
    have lK : ((bits.drop (2 * W * k)).take W).length = W := by rw [List.length_take, lD]; omega
    have arD2 : Arr 1 encB w w.heap.size (some ⟨ab, ao + 2 * W * k + W, none⟩) ((bits.drop (2 * W * k)).drop W) := by have := arD.drop W; rwa [Nat.mul_one] at this
    have arP := arr_take arD2 W
    have lP : (((bits.drop (2 * W * k)).drop W).take W).length = W := by rw [List.length_take, List.length_drop, lD]; omega
    have cK := fun cc w' (hb : Below w.heap.size w w') => Word_any _ cc _ w' (arK.on hb) (by rw [lK]; rcases wd with rfl | rfl | rfl <;> decide)
    have cP := fun cc w' (hb : Below w.heap.size w w') => Word_any _ cc _ w' (arP.on hb) (by rw [lP]; rcases wd with rfl | rfl | rfl <;> decide)
    have cT := fun w' (hb : Below w.heap.size w w') => Tag_any W (pKey W bits k) (pPad W bits k) M mc m w' (hM.on hb) lm mm
    simp only [lK, lP] at cK cP
    rw [e1, e2]
    rw [show bval ((bits.drop (2 * W * k)).take W) = pKey W bits k from rfl] at cK
    rw [show bval (((bits.drop (2 * W * k)).drop W).take W) = pPad W bits k from rfl] at cP
    generalize pKey W bits k = key at *
    generalize pPad W bits k = pad at *
    generalize tgE W key pad m = E at *
    generalize tgN W key pad m = T at *
    unfold maxLen at l2
    have cB := fun w' (hb : Below x w w') => Seal1_any T x (.int .u64 0) w'
    have xlt : x < w.heap.size := World.block_lt_of_cell? w _ hx
    clear e1 e2 h1 h2 lD lK lP arD arK arP arD2
    rcases wd with rfl | rfl | rfl
    all_goals (
      simp only [Nat.reduceMul] at cK cP hWn
      go_enter Tryz.func130, Tryz.ntmps130
      go_wp2_with (first
        | (go_at_call 136; refine (cV).mono ?_; rintro e w' ⟨rfl, rfl⟩)
        | (go_at_call 172; refine cR.mono ?_; rintro e w1 ⟨rfl, hb1⟩; have z0 := bel_cell hb1 c0; have z1 := bel_cell hb1 d0; have z2 := bel_cell hb1 c1; have z3 := bel_cell hb1 c2; have ow1 := own.kept (grown_of_below hb1) (by simp))
        | (at_lookup; refine wpList_lookup_own_ok_int _ rfl _ _ 236 rfl 3 3 .i64 key_int Tryz.underlying236 Tryz.underlying3 (zero_int _) mb u.length D rfl ow1 _ _ rfl hkey ?_; intro c9 hat hwc; rw [hh]))
      go_quiet (fail)
      have bq : Below w.heap.size w (w1.drewN nq) := below_trans hb1 (below_dn1 _ _)
      have y0 : (w1.drewN nq).cell? ⟨b, 0, none⟩ = _ := bel_cell bq c0
      have y1 : (w1.drewN nq).cell? ⟨nb, 0, none⟩ = _ := bel_cell bq d0
      have y2 : (w1.drewN nq).cell? ⟨b, 1, none⟩ = _ := bel_cell bq c1
      clear z0 z1 z2 z3 ow1
      generalize w1.drewN nq = w2 at *
      go_wp2_with (go_at_call 175; refine (cK _ _ bq).mono ?_; rintro e w' ⟨rfl, rfl⟩)
      have L2 := later_cell y2
      have cPL := fun cc (x : Later w2) => calls_later_same (cP cc x.w (below_trans bq x.2))
      (refine wp_region_later (by kernel_rfl) (by kernel_rfl) ?_; (repeat (go_big_quiet_step (((go_at_call 175; exact cPL _ _))))); refine wpQuiet_nil ?_; rintro w3 ⟨⟨_, hb3⟩, rfl⟩)
      have q3 := below_trans bq hb3
      clear cP cPL cK L2 cR cV
      have x0 := bel_cell hb3 y0; have x1 := bel_cell hb3 y1; have x2 := bel_cell hb3 y2
      by_cases hE : E = 0
      · subst hE
        go_wp2_with (go_at_call 176; refine (cT _ q3).mono ?_; rintro e w4 ⟨rfl, hb4⟩; have q4 := below_trans q3 hb4)
        have f4 := (q4.frozen (p := ⟨x, 0, none⟩) xlt).trans hf
        refine (Seal1_any T x (.int .u64 0) w4 (bel_cell q4 hx) f4 rfl).mono ?_
        rintro e w5 ⟨rfl, hw5⟩
        have g5 : w4.grownBy w5 (some x) := by rw [hw5]; exact grown_setCell _ _ _ _
        have B5 : Below x w4 w5 := by rw [hw5]; exact (Below.refl _ _).setCell (p := ⟨x, 0, none⟩) (Nat.le_refl _) _
        have z5 : w5.cell? ⟨x, 0, none⟩ = some (.int .u64 T) := by rw [hw5]; exact World.cell?_setCell_same _ _ _ (bel_cell q4 hx)
        clear hw5 f4 cT
        have Q5 : Below x w w5 := (q4.mono (by omega)).trans B5
        have xa : ∀ A c, w4.cell? ⟨b, 2, none⟩ = some (.slice A bits.length c) → ∀ a, A = some a → some a.block ≠ some x := fun A' c' hc' a ha => by
          rw [bel_cell q4 c2] at hc'
          cases hc'
          cases ha
          have := hbl _ _ c2 _ rfl
          simp at this ⊢; omega
        have P5 := (hP.on q4).kept g5 (by simp; omega) (by simp; omega) (by simp; omega) xa
        have own5 := (own.kept (grown_of_below q4) (by simp)).kept g5 (by simp; omega)
        have k0 := later_cell P5.c0
        have k1 := later_cell P5.d0
        have hlen := fun (y : Later w5) => (own5.kept (grown_of_below y.2) (by simp)).len Tryz.underlying236 3
        go_wp2_with fail
        refine wp_region_tail 16 (by kernel_rfl) (by kernel_rfl) ?_
        simp only [List.take_succ_cons, List.take_zero, List.drop_succ_cons, List.drop_zero]
        repeat (go_big_quiet_step (fail))
        refine wpQuiet_len_map rfl _ _ rfl (.int .i64 (Maps.size D)) mb rfl (fun w' ⟨y, hy⟩ => by rw [hy]; exact hlen y) ?_
        try simp only [Act.put, List.setIfInBounds_toArray, List.set_cons_zero, List.set_cons_succ]
        refine wpQuiet_nil ?_
        rintro w6 ⟨⟨_, hb6⟩, rfl⟩
        have own6 := own5.kept (grown_of_below hb6) (by simp)
        have P6 := P5.on hb6
        have ul := hP.ul
        have sD := own.size_le
        have ulm : u.length < maxLen := by unfold maxLen; omega
        have wfs : (Lit.int .i64 (Maps.size D : Int)).wf = true := WalkArith.wf_i64 (by omega)
        have z6 := bel_cell hb6 z5
        go_wp2_with (at_mapUpdate; refine wpList_mapUpdate_own _ rfl _ _ _ 236 rfl 3 3 key_int Tryz.underlying236 _ mb u.length D rfl own6 ulm _ _ _ rfl rfl hkey _ [] (plainElem_int Tryz.underlying3 wfs) ?_; intro w7 own7 hg7)
        go_ret
        exact ⟨rfl, ⟨P6.more hg7 own7 tidy hhas hu (by rw [hR]; exact kR) (by simp [WideAt.IsKeyLit]), hg7.cell z6 (by simp; omega), _, Q5.trans (hb6.mono (by have := Q5.size; omega)), hg7⟩⟩
      · have hE' : (E == 0) = false := by simpa using hE
        go_wp2_with (go_at_call 176; refine (cT _ q3).mono ?_; rintro e w4 ⟨rfl, hb4⟩; have q4 := below_trans q3 hb4)
        go_ret
        exact ⟨rfl, .inl ⟨hE, q4⟩⟩)

theorem below_any {w w' : World} (h : Below w.heap.size w w') (row : Option Nat) : w.grownBy w' row := (grown_of_below h).but row
set_option maxRecDepth 100000 in
set_option maxHeartbeats 2000000 in
theorem Seal_any (b nb mb W : Nat) (bits : List Bool) (u : List Nat) (n : Int) (M : Option Addr) (mc : Nat) (m : List Bool) (w : World) (h : PoolAt w b nb mb W bits u) (hM : Arr 1 encB w w.heap.size M m) (lm : m.length ≤ mc) (mm : mc ≤ maxLen) :
    Calls Tryz.prog 125 #[.pointer (some ⟨b, 0, none⟩), .int .i64 n, .slice M m.length mc] w fun e w' => e = .returned (.tuple #[.int .u64 (if plE W bits u n m = 0 then plT W bits n m else 0), .int .i64 (plE W bits u n m)]) ∧
      ((plE W bits u n m ≠ 0 ∧ Below w.heap.size w w') ∨ (plE W bits u n m = 0 ∧ PoolAt w' b nb mb W bits (n.toNat :: u) ∧ w.grownBy w' (some mb))) := by
  have q1 : Below w.heap.size w (w.alloc (.cells #[.int .u64 0] 24)) := below_alloc (Below.refl _ _) _
  have z1 : (w.alloc (.cells #[.int .u64 0] 24)).cell? ⟨w.heap.size, 0, none⟩ = some (.int .u64 0) := new_cell rfl
  have lt : ∀ {a : Addr} {v : Value}, w.cell? a = some v → a.block < w.heap.size := fun hc => World.block_lt_of_cell? w _ hc
  have hbl : ∀ A c, (w.alloc (.cells #[.int .u64 0] 24)).cell? ⟨b, 2, none⟩ = some (.slice A bits.length c) → ∀ a, A = some a → a.block < w.heap.size := fun A c hc a ha => by
    obtain ⟨A0, c0', h2, _, _, _, _, h4⟩ := h.c2
    rw [bel_cell q1 h2] at hc
    cases hc
    exact (h4 a ha).2
  have cW := withSeal_any b nb mb W bits u n M mc m w.heap.size _ (h.on q1) (hM.on q1) lm mm z1 (by simp) (lt h.c0) (lt h.d0) h.us.lt hbl
  generalize plE W bits u n m = E at *
  generalize plT W bits n m = T at *
  by_cases hE : E = 0
  · subst hE
    simp only [ne_eq, not_true_eq_false, false_and, true_and, false_or, if_true] at cW ⊢
    go_enter Tryz.func125, Tryz.ntmps125
    go_wp2_with (go_at_call 130; refine cW.mono ?_; rintro e w2 ⟨rfl, P2, z2, wm, B2, g2⟩)
    go_ret2
    exact ⟨rfl, P2, (below_any (q1.trans B2) _).trans g2⟩
  · simp only [ne_eq, hE, not_false_eq_true, true_and, false_and, or_false, if_false] at cW ⊢
    go_enter Tryz.func125, Tryz.ntmps125
    go_wp2_with (go_at_call 130; refine cW.mono ?_; rintro e w2 ⟨rfl, hb2⟩; have z2 := bel_cell hb2 z1)
    go_ret2
    exact ⟨rfl, below_trans q1 hb2⟩

end Go.Proofs.YtfolgmcoggejbaaGreat

namespace Go.Proofs.YtfolgmcoggejbaaGreat
open Go.RowKit Go.Maps
set_option linter.unusedVariables false
set_option linter.unusedSimpArgs false

def opE (W : Nat) (bits : List Bool) (u : List Nat) (n : Int) (m : List Bool) (t : Nat) : Int := if plE W bits u n m = 0 then (if t = plT W bits n m then 0 else 15) else plE W bits u n m

set_option maxRecDepth 100000 in
set_option maxHeartbeats 8000000 in
theorem withOpen_any (b nb mb W : Nat) (bits : List Bool) (u : List Nat) (n : Int) (M : Option Addr) (mc : Nat) (m : List Bool) (x : Nat) (w : World) (h : PoolAt w b nb mb W bits u) (hM : Arr 1 encB w w.heap.size M m) (lm : m.length ≤ mc) (mm : mc ≤ maxLen)
    (t : Nat) (hx : w.cell? ⟨x, 0, none⟩ = some (.int .u64 t)) :
    Calls Tryz.prog 130 #[.pointer (some ⟨b, 0, none⟩), .int .i64 n, .slice M m.length mc, .func (.func 131) #[] #[.pointer (some ⟨x, 0, none⟩)]] w fun e w' => e = .returned (.int .i64 (opE W bits u n m t)) ∧
      ((opE W bits u n m t ≠ 0 ∧ Below w.heap.size w w') ∨ (opE W bits u n m t = 0 ∧ PoolAt w' b nb mb W bits (n.toNat :: u) ∧ w.grownBy w' (some mb))) := by
  have cV := pvalid_any b nb w h.c0
  have cR := Room_any b nb mb W bits u w h
  have hR1 : bits.length / (2 * W) ≤ 65536 := Nat.le_trans (Nat.div_le_self _ _) h.bl
  obtain ⟨R, hR⟩ : ∃ R : Nat, bits.length / (2 * W) = R := ⟨_, rfl⟩
  rw [hR] at cR hR1
  by_cases h1 : n < 0
  · have e1 : opE W bits u n m t = 3 := by unfold opE plE; rw [if_pos h1]; rfl
    rw [e1]
    have d1 : decide (n < 0) = true := by simpa using h1
    clear e1 h1
    go_enter Tryz.func130, Tryz.ntmps130
    go_wp2_with (go_at_call 136; refine (cV).mono ?_; rintro e w' ⟨rfl, rfl⟩)
    go_ret
    exact ⟨rfl, .inl ⟨by decide, Below.refl _ _⟩⟩
  have d1 : decide (n < 0) = false := by simpa using h1
  by_cases h2 : (R : Int) ≤ n
  · have e1 : opE W bits u n m t = 14 := by unfold opE plE; rw [if_neg h1, hR, if_pos h2]; rfl
    rw [e1]
    have d2 : decide ((R : Int) ≤ n) = true := by simpa using h2
    clear e1 h1 h2
    go_enter Tryz.func130, Tryz.ntmps130
    go_wp2_with (first
      | (go_at_call 136; refine (cV).mono ?_; rintro e w' ⟨rfl, rfl⟩)
      | (go_at_call 172; refine cR.mono ?_; rintro e w1 ⟨rfl, hb1⟩))
    go_ret
    exact ⟨rfl, .inl ⟨by decide, hb1⟩⟩
  have d2 : decide ((R : Int) ≤ n) = false := by simpa using h2
  obtain ⟨k, rfl⟩ := Int.eq_ofNat_of_zero_le (show 0 ≤ n by omega)
  have kR : k < R := by omega
  have hk63 : k < 9223372036854775808 := by omega
  have hP := h
  obtain ⟨wd, c0, c1, ⟨A, c, c2, ar, l1, l2, l3, l4⟩, d0, us, bm, nm, bl, un, ub⟩ := h
  obtain ⟨D, own, tidy, hhas⟩ := us
  have hkey : keyOf Tryz.prog 3 (.int .i64 (k : Int)) = some (.int .i64 (k : Int)) := keyOf_int_mk Tryz.underlying3 (WalkArith.wf_i64 (by omega))
  by_cases hu : k ∈ u
  · have e0 : plE W bits u k m = 16 := by unfold plE; rw [if_neg (by omega), hR, if_neg h2]; simp [hu]
    have e1 : opE W bits u k m t = 16 := by unfold opE; rw [e0]; rfl
    rw [e1]
    have hh : has D (.int .i64 (k : Int)) = true := (hhas k).2 ⟨k, hu, rfl⟩
    clear e0 e1 h1 h2 hhas
    go_enter Tryz.func130, Tryz.ntmps130
    go_wp2_with (first
      | (go_at_call 136; refine (cV).mono ?_; rintro e w' ⟨rfl, rfl⟩)
      | (go_at_call 172; refine cR.mono ?_; rintro e w1 ⟨rfl, hb1⟩; have z0 := bel_cell hb1 c0; have z1 := bel_cell hb1 d0; have ow1 := own.kept (grown_of_below hb1) (by simp))
      | (at_lookup; refine wpList_lookup_own_ok_int _ rfl _ _ 236 rfl 3 3 .i64 key_int Tryz.underlying236 Tryz.underlying3 (zero_int _) mb u.length D rfl ow1 _ _ rfl hkey ?_; intro c9 hat hwc; rw [hh]))
    go_ret
    exact ⟨rfl, .inl ⟨by decide, hb1⟩⟩
  · have hh : has D (.int .i64 (k : Int)) = false := by
      cases hc : has D (.int .i64 (k : Int)) with
      | false => rfl
      | true =>
        obtain ⟨n, hn, he⟩ := (hhas k).1 hc
        have : n = k := by omega
        exact (hu (this ▸ hn)).elim
    have e1 : plE W bits u k m = tgE W (pKey W bits k) (pPad W bits k) m := by unfold plE; rw [if_neg (by omega), hR, if_neg h2]; simp [hu]
    have e2 : plT W bits k m = tgN W (pKey W bits k) (pPad W bits k) m := rfl
    have e3 : opE W bits u k m t = if plE W bits u k m = 0 then (if t = plT W bits k m then 0 else 15) else plE W bits u k m := rfl
    have hWn : 2 * W * k + 2 * W ≤ bits.length := by
      have h3 := Nat.div_mul_le_self bits.length (2 * W)
      rw [hR] at h3
      have h4 : (k + 1) * (2 * W) ≤ R * (2 * W) := Nat.mul_le_mul_right _ (by omega)
      rw [Nat.add_mul, Nat.one_mul, Nat.mul_comm k] at h4
      omega
    have W0 : 0 < W := by rcases wd with rfl | rfl | rfl <;> decide
    obtain ⟨ab, ao, rfl, hab, _⟩ := ar (by rintro rfl; simp at hWn; omega)
    have arD : Arr 1 encB w w.heap.size (some ⟨ab, ao + 2 * W * k, none⟩) (bits.drop (2 * W * k)) := by have := ar.drop (2 * W * k); rwa [Nat.mul_one] at this
    have lD : (bits.drop (2 * W * k)).length = bits.length - 2 * W * k := by simp
    have arK := arr_take arD W
    have lK : ((bits.drop (2 * W * k)).take W).length = W := by rw [List.length_take, lD]; omega
    have arD2 : Arr 1 encB w w.heap.size (some ⟨ab, ao + 2 * W * k + W, none⟩) ((bits.drop (2 * W * k)).drop W) := by have := arD.drop W; rwa [Nat.mul_one] at this
    have arP := arr_take arD2 W
    have lP : (((bits.drop (2 * W * k)).drop W).take W).length = W := by rw [List.length_take, List.length_drop, lD]; omega
    have cK := fun cc w' (hb : Below w.heap.size w w') => Word_any _ cc _ w' (arK.on hb) (by rw [lK]; rcases wd with rfl | rfl | rfl <;> decide)
    have cP := fun cc w' (hb : Below w.heap.size w w') => Word_any _ cc _ w' (arP.on hb) (by rw [lP]; rcases wd with rfl | rfl | rfl <;> decide)
    have cT := fun w' (hb : Below w.heap.size w w') => Tag_any W (pKey W bits k) (pPad W bits k) M mc m w' (hM.on hb) lm mm
    simp only [lK, lP] at cK cP
    rw [e3, e1, e2]
    rw [show bval ((bits.drop (2 * W * k)).take W) = pKey W bits k from rfl] at cK
    rw [show bval (((bits.drop (2 * W * k)).drop W).take W) = pPad W bits k from rfl] at cP
    generalize pKey W bits k = key at *
    generalize pPad W bits k = pad at *
    generalize tgE W key pad m = E at *
    generalize tgN W key pad m = T at *
    obtain ⟨G, hG⟩ : ∃ G : Int, (if E = 0 then (if t = T then 0 else 15) else E) = G := ⟨_, rfl⟩
    rw [hG]
    have HG := Lib.hid hG
    clear hG
    unfold maxLen at l2
    have xlt : x < w.heap.size := World.block_lt_of_cell? w _ hx
    clear e1 e2 e3 h1 h2 lD lK lP arD arK arP arD2
    rcases wd with rfl | rfl | rfl
    all_goals (
      simp only [Nat.reduceMul] at cK cP hWn
      go_enter Tryz.func130, Tryz.ntmps130
      go_wp2_with (first
        | (go_at_call 136; refine (cV).mono ?_; rintro e w' ⟨rfl, rfl⟩)
        | (go_at_call 172; refine cR.mono ?_; rintro e w1 ⟨rfl, hb1⟩; have z0 := bel_cell hb1 c0; have z1 := bel_cell hb1 d0; have z2 := bel_cell hb1 c1; have z3 := bel_cell hb1 c2; have ow1 := own.kept (grown_of_below hb1) (by simp))
        | (at_lookup; refine wpList_lookup_own_ok_int _ rfl _ _ 236 rfl 3 3 .i64 key_int Tryz.underlying236 Tryz.underlying3 (zero_int _) mb u.length D rfl ow1 _ _ rfl hkey ?_; intro c9 hat hwc; rw [hh]))
      go_quiet (fail)
      have bq : Below w.heap.size w (w1.drewN nq) := below_trans hb1 (below_dn1 _ _)
      have y0 : (w1.drewN nq).cell? ⟨b, 0, none⟩ = _ := bel_cell bq c0
      have y1 : (w1.drewN nq).cell? ⟨nb, 0, none⟩ = _ := bel_cell bq d0
      have y2 : (w1.drewN nq).cell? ⟨b, 1, none⟩ = _ := bel_cell bq c1
      clear z0 z1 z2 z3 ow1
      generalize w1.drewN nq = w2 at *
      go_wp2_with (go_at_call 175; refine (cK _ _ bq).mono ?_; rintro e w' ⟨rfl, rfl⟩)
      have L2 := later_cell y2
      have cPL := fun cc (x : Later w2) => calls_later_same (cP cc x.w (below_trans bq x.2))
      (refine wp_region_later (by kernel_rfl) (by kernel_rfl) ?_; (repeat (go_big_quiet_step (((go_at_call 175; exact cPL _ _))))); refine wpQuiet_nil ?_; rintro w3 ⟨⟨_, hb3⟩, rfl⟩)
      have q3 := below_trans bq hb3
      clear cP cPL cK L2 cR cV
      have x0 := bel_cell hb3 y0; have x1 := bel_cell hb3 y1; have x2 := bel_cell hb3 y2
      by_cases hE : E = 0
      · subst hE
        go_wp2_with (go_at_call 176; refine (cT _ q3).mono ?_; rintro e w4 ⟨rfl, hb4⟩; have q4 := below_trans q3 hb4)
        refine (Open1_any T t x w4 (bel_cell q4 hx)).mono ?_
        rintro e w5 ⟨rfl, rfl⟩
        clear cT
        by_cases ht : t = T
        · have hG0 := Lib.hid (show G = 0 by rw [← HG.out]; simp [ht])
          rw [if_pos ht]
          have P5 := hP.on q4
          have own5 := own.kept (grown_of_below q4) (by simp)
          have k0 := later_cell P5.c0
          have k1 := later_cell P5.d0
          have hlen := fun (y : Later w4) => (own5.kept (grown_of_below y.2) (by simp)).len Tryz.underlying236 3
          clear ht
          go_wp2_with fail
          refine wp_region_tail 16 (by kernel_rfl) (by kernel_rfl) ?_
          simp only [List.take_succ_cons, List.take_zero, List.drop_succ_cons, List.drop_zero]
          repeat (go_big_quiet_step (fail))
          refine wpQuiet_len_map rfl _ _ rfl (.int .i64 (Maps.size D)) mb rfl (fun w' ⟨y, hy⟩ => by rw [hy]; exact hlen y) ?_
          try simp only [Act.put, List.setIfInBounds_toArray, List.set_cons_zero, List.set_cons_succ]
          refine wpQuiet_nil ?_
          rintro w6 ⟨⟨_, hb6⟩, rfl⟩
          have own6 := own5.kept (grown_of_below hb6) (by simp)
          have P6 := P5.on hb6
          have ul := hP.ul
          have sD := own.size_le
          have ulm : u.length < maxLen := by unfold maxLen; omega
          have wfs : (Lit.int .i64 (Maps.size D : Int)).wf = true := WalkArith.wf_i64 (by omega)
          go_wp2_with (at_mapUpdate; refine wpList_mapUpdate_own _ rfl _ _ _ 236 rfl 3 3 key_int Tryz.underlying236 _ mb u.length D rfl own6 ulm _ _ _ rfl rfl hkey _ [] (plainElem_int Tryz.underlying3 wfs) ?_; intro w7 own7 hg7)
          go_ret
          exact ⟨by rw [hG0.out]; rfl, .inr ⟨hG0.out, P6.more hg7 own7 tidy hhas hu (by rw [hR]; exact kR) (by simp [WideAt.IsKeyLit]), (below_any (below_trans q4 hb6) _).trans hg7⟩⟩
        · have hG0 := Lib.hid (show G = 15 by rw [← HG.out]; simp [ht])
          rw [if_neg ht]
          clear ht
          go_wp2_with fail
          go_ret
          exact ⟨by rw [hG0.out]; rfl, .inl ⟨by rw [hG0.out]; decide, q4⟩⟩
      · have hE' : (E == 0) = false := by simpa using hE
        go_wp2_with (go_at_call 176; refine (cT _ q3).mono ?_; rintro e w4 ⟨rfl, hb4⟩; have q4 := below_trans q3 hb4)
        have hG0 := Lib.hid (show G = E by rw [← HG.out]; simp [hE])
        go_ret
        exact ⟨by rw [hG0.out]; rfl, .inl ⟨by rw [hG0.out]; exact hE, q4⟩⟩)

set_option maxRecDepth 100000 in
set_option maxHeartbeats 2000000 in
theorem Open_any (b nb mb W : Nat) (bits : List Bool) (u : List Nat) (n : Int) (M : Option Addr) (mc : Nat) (m : List Bool) (t : Nat) (w : World) (h : PoolAt w b nb mb W bits u) (hM : Arr 1 encB w w.heap.size M m) (lm : m.length ≤ mc) (mm : mc ≤ maxLen) :
    Calls Tryz.prog 71 #[.pointer (some ⟨b, 0, none⟩), .int .i64 n, .slice M m.length mc, .int .u64 t] w fun e w' => e = .returned (.int .i64 (opE W bits u n m t)) ∧
      ((opE W bits u n m t ≠ 0 ∧ Below w.heap.size w w') ∨ (opE W bits u n m t = 0 ∧ PoolAt w' b nb mb W bits (n.toNat :: u) ∧ w.grownBy w' (some mb))) := by
  have q1 : Below w.heap.size w (w.alloc (.cells #[.int .u64 t] 24)) := below_alloc (Below.refl _ _) _
  have z1 : (w.alloc (.cells #[.int .u64 (t : Int)] 24)).cell? ⟨w.heap.size, 0, none⟩ = some (.int .u64 t) := new_cell rfl
  have cW := withOpen_any b nb mb W bits u n M mc m w.heap.size _ (h.on q1) (hM.on q1) lm mm t z1
  generalize opE W bits u n m t = E at *
  go_enter Tryz.func71, Tryz.ntmps71
  go_wp2_with (go_at_call 130; refine cW.mono ?_; rintro e w2 ⟨rfl, hres⟩)
  go_ret
  refine ⟨rfl, ?_⟩
  rcases hres with ⟨hE, hb⟩ | ⟨hE, hp, hg⟩
  · exact .inl ⟨hE, below_trans q1 hb⟩
  · exact .inr ⟨hE, hp, (below_any q1 _).trans hg⟩

end Go.Proofs.YtfolgmcoggejbaaGreat

namespace Go.Proofs.YtfolgmcoggejbaaGreat
open Go.RowKit Go.Maps
set_option linter.unusedVariables false
set_option linter.unusedSimpArgs false

/-- The number after the greatest used one of a side. -/
def nxtK (u : List Nat) (s : Nat) : Nat := u.foldr (fun i k => if i % 2 = s then max k (i + 2) else k) s
theorem nxtK_spec (s : Nat) : ∀ u : List Nat, s ≤ nxtK u s ∧ (nxtK u s = s ∨ ∃ i ∈ u, i % 2 = s ∧ nxtK u s = i + 2) ∧ ∀ i ∈ u, i % 2 = s → i + 2 ≤ nxtK u s
  | [] => ⟨Nat.le_refl _, .inl rfl, by simp⟩
  | i :: u => by
    obtain ⟨h1, h2, h3⟩ := nxtK_spec s u
    have e : nxtK (i :: u) s = if i % 2 = s then max (nxtK u s) (i + 2) else nxtK u s := rfl
    rw [e]
    by_cases hi : i % 2 = s
    · rw [if_pos hi]
      refine ⟨by omega, ?_, ?_⟩
      · rcases Nat.le_total (nxtK u s) (i + 2) with hm | hm
        · exact .inr ⟨i, by simp, hi, by omega⟩
        · rw [Nat.max_eq_left hm]
          rcases h2 with h2 | ⟨j, hj, h4, h5⟩
          · exact .inl h2
          · exact .inr ⟨j, by simp [hj], h4, h5⟩
      · intro j hj hjs
        rcases List.mem_cons.1 hj with rfl | hj
        · omega
        · have := h3 j hj hjs; omega
    · rw [if_neg hi]
      refine ⟨h1, ?_, ?_⟩
      · rcases h2 with h2 | ⟨j, hj, h4, h5⟩
        · exact .inl h2
        · exact .inr ⟨j, by simp [hj], h4, h5⟩
      · intro j hj hjs
        rcases List.mem_cons.1 hj with rfl | hj
        · exact (hi hjs).elim
        · exact h3 j hj hjs
/-- How far the greatest number of a side is known. -/
structure NxI (u : List Nat) (s : Nat) (left : Lit → Bool) (κ : Nat) : Prop where
  ge : s ≤ κ
  at_ : κ = s ∨ ∃ i ∈ u, i % 2 = s ∧ κ = i + 2
  up : ∀ i ∈ u, left (.int .i64 (i : Int)) = false → i % 2 = s → i + 2 ≤ κ
theorem NxI.done {u : List Nat} {s : Nat} {left : Lit → Bool} {κ : Nat} (h : NxI u s left κ) (h0 : ∀ k, left k = false) : κ = nxtK u s := by
  obtain ⟨s1, s2, s3⟩ := nxtK_spec s u
  obtain ⟨a, b, c⟩ := h
  have h1 : nxtK u s ≤ κ := by
    rcases s2 with s2 | ⟨i, hi, hs, he⟩
    · omega
    · have := c i hi (h0 _) hs; omega
  have h2 : κ ≤ nxtK u s := by
    rcases b with b | ⟨i, hi, hs, he⟩
    · omega
    · have := s3 i hi hs; omega
  omega
theorem NxI.step {u : List Nat} {s : Nat} {left : Lit → Bool} {κ n : Nat} (h : NxI u s left κ) (hn : n ∈ u) : NxI u s (fun z => left z && !z.sameKey (.int .i64 (n : Int))) (if n % 2 = s then max κ (n + 2) else κ) := by
  obtain ⟨a, b, c⟩ := h
  have key : ∀ i : Nat, (left (.int .i64 (i : Int)) && !(Lit.int .i64 (i : Int)).sameKey (.int .i64 (n : Int))) = false → i = n ∨ left (.int .i64 (i : Int)) = false := by
    intro i hi
    by_cases hin : i = n
    · exact .inl hin
    · right
      have : (Lit.int .i64 (i : Int)).sameKey (.int .i64 (n : Int)) = false := sameKey_ne (by simp; omega)
      rw [this] at hi
      simpa using hi
  by_cases hs : n % 2 = s
  · rw [if_pos hs]
    refine ⟨by omega, ?_, fun i hi hl his => ?_⟩
    · rcases Nat.le_total κ (n + 2) with hm | hm
      · exact .inr ⟨n, hn, hs, by omega⟩
      · rw [Nat.max_eq_left hm]; exact b
    · rcases key i hl with rfl | hl
      · omega
      · have := c i hi hl his; omega
  · rw [if_neg hs]
    refine ⟨a, b, fun i hi hl his => ?_⟩
    rcases key i hl with rfl | hl
    · exact (hs his).elim
    · exact c i hi hl his

set_option maxRecDepth 100000 in
set_option maxHeartbeats 2000000 in
theorem pnext_any (nb mb : Nat) (u : List Nat) (s : Nat) (w : World) (hs : s ≤ 1) (d0 : w.cell? ⟨nb, 0, none⟩ = some (.map (some mb))) (us : Usd w mb u) (ub : ∀ x ∈ u, x < 70000) :
    Calls Tryz.prog 171 #[.pointer (some ⟨nb, 0, none⟩), .int .i64 s] w fun e w' => e = .returned (.int .i64 (nxtK u s : Nat)) ∧ Below w.heap.size w w' := by
  obtain ⟨D, own, tidy, hhas⟩ := us
  go_enter Tryz.func171, Tryz.ntmps171
  go_wp2_with (at_range; refine wpList_range_own _ rfl _ 236 rfl 3 3 key_int Tryz.underlying236 _ mb u.length D rfl own ?_; intro w0 hrg0 hg0 hs0)
  go_frame
  go_loopw [5, 6] (fun kv _ wr => ∃ (left : Lit → Bool) (cnt κ : Nat), kv = .int .i64 κ ∧ κ ≤ 70010 ∧ Hid (NxI u s left κ) ∧ wr.ranges Tryz.prog 3 (plainElem Tryz.prog 3) mb w.heap.size u.length D left cnt ∧ Below w.heap.size w wr) (fun _ _ wr => wr.rangeLeft mb w.heap.size)
  case atStart =>
    refine ⟨_, _, s, rfl, by omega, Lib.hid ⟨Nat.le_refl _, .inl rfl, fun i hi hl => ?_⟩, hrg0, (Below.refl _ _).grown hg0 (Nat.le_refl _) (by simp)⟩
    have := (hhas i).2 ⟨i, hi, rfl⟩
    rw [this] at hl; cases hl
  case round =>
    obtain ⟨left, cnt, κ, rfl, hκ, inv, hrg, hb⟩ := hrel
    go_wp2_with (first
      | (at_next; refine wpList_next_ranges_ii _ rfl _ rfl 3 3 .i64 .i64 key_int Tryz.underlying3 Tryz.underlying3 mb w.heap.size u.length _ _ _ rfl hrg ?_ ?_)
      | go_in)
    · intro _ hl0
      have hd := Lib.hid (inv.out.done hl0)
      go_wp2
      go_ret
      exact ⟨ret_int (by rw [hd.out]), hb⟩
    · intro x c w1 cnt1 hwx hwc hlx hat hrg1 hlt hg1 hs1 hen
      obtain ⟨n, hn, rfl⟩ := (hhas x).1 (has_true_of_atKey hat)
      have hn7 := ub n hn
      have inv2 := Lib.hid (inv.out.step hn)
      have hb1 : Below w.heap.size w w1 := hb.grown hg1 hb.size (by simp)
      by_cases hp : n % 2 = s
      · have e1 : ((n : Int) % 2 == (s : Int)) = true := by simp; omega
        rw [if_pos hp] at inv2
        have hmx : (if (κ : Int) < (n : Int) + 2 then (n : Int) + 2 else (κ : Int)) = ((max κ (n + 2) : Nat) : Int) := by split <;> omega
        go_wp2
        exact ⟨⟨_, cnt1, max κ (n + 2), rfl, by omega, inv2, hrg1, hb1⟩, by rw [hrg1.left_eq, hrg.left_eq]; exact hlt⟩
      · have e1 : ((n : Int) % 2 == (s : Int)) = false := by simp; omega
        rw [if_neg hp] at inv2
        go_wp2
        exact ⟨⟨_, cnt1, κ, rfl, by omega, inv2, hrg1, hb1⟩, by rw [hrg1.left_eq, hrg.left_eq]; exact hlt⟩

/-- What a pool answers when it is asked for the next number of a side. -/
def nxE (W : Nat) (bits : List Bool) (u : List Nat) (s : Int) : Int := if s = 0 ∨ s = 1 then (if bits.length / (2 * W) ≤ nxtK u s.toNat then 14 else 0) else 2
def nxI (W : Nat) (bits : List Bool) (u : List Nat) (s : Int) : Nat := if nxE W bits u s = 0 then nxtK u s.toNat else 0
set_option maxRecDepth 100000 in
set_option maxHeartbeats 2000000 in
theorem Next_pool (b nb mb W : Nat) (bits : List Bool) (u : List Nat) (s : Int) (w : World) (h : PoolAt w b nb mb W bits u) :
    Calls Tryz.prog 124 #[.pointer (some ⟨b, 0, none⟩), .int .i64 s] w fun e w' => e = .returned (.tuple #[.int .i64 (nxI W bits u s : Nat), .int .i64 (nxE W bits u s)]) ∧ Below w.heap.size w w' := by
  have cV := pvalid_any b nb w h.c0
  have c0 := h.c0
  by_cases hs : s = 0 ∨ s = 1
  · obtain ⟨k, rfl, hk⟩ : ∃ k : Nat, s = (k : Int) ∧ k ≤ 1 := by
      rcases hs with rfl | rfl
      · exact ⟨0, rfl, by decide⟩
      · exact ⟨1, rfl, by decide⟩
    have ub : ∀ x ∈ u, x < 70000 := fun x hx => by
      have h1 := h.ub x hx
      have h2 := Nat.div_le_self bits.length (2 * W)
      have := h.bl
      omega
    have cN := pnext_any nb mb u k w hk h.d0 h.us ub
    have cR := fun w' (hb : Below w.heap.size w w') => Room_any b nb mb W bits u w' (h.on hb)
    have eE : nxE W bits u (k : Int) = if bits.length / (2 * W) ≤ nxtK u k then 14 else 0 := by unfold nxE; rw [if_pos hs]; rfl
    have eI : nxI W bits u (k : Int) = if nxE W bits u (k : Int) = 0 then nxtK u k else 0 := rfl
    rw [eI, eE]
    generalize bits.length / (2 * W) = R at *
    generalize nxtK u k = K at *
    clear eI eE
    have ways : (((k : Int) != 0) = false) ∨ (((k : Int) != 0) = true ∧ ((k : Int) != 1) = false) := by
      rcases hs with h | h
      · left; simp; omega
      · right; simp; omega
    clear hs
    by_cases hr : R ≤ K
    · have d1 : decide (R ≤ K) = true := by simpa using hr
      rw [if_pos hr]
      rcases ways with hw | ⟨hw, hw2⟩
      all_goals (
        go_enter Tryz.func124, Tryz.ntmps124
        go_wp2_with (first
          | (go_at_call 136; refine (cV).mono ?_; rintro e w' ⟨rfl, rfl⟩)
          | (go_at_call 171; refine cN.mono ?_; rintro e w1 ⟨rfl, hb1⟩)
          | (go_at_call 172; refine (cR _ hb1).mono ?_; rintro e w2 ⟨rfl, hb2⟩))
        go_ret2
        exact ⟨rfl, below_trans hb1 hb2⟩)
    · have d1 : decide (R ≤ K) = false := by simpa using hr
      rw [if_neg hr]
      rcases ways with hw | ⟨hw, hw2⟩
      all_goals (
        go_enter Tryz.func124, Tryz.ntmps124
        go_wp2_with (first
          | (go_at_call 136; refine (cV).mono ?_; rintro e w' ⟨rfl, rfl⟩)
          | (go_at_call 171; refine cN.mono ?_; rintro e w1 ⟨rfl, hb1⟩)
          | (go_at_call 172; refine (cR _ hb1).mono ?_; rintro e w2 ⟨rfl, hb2⟩))
        go_ret2
        exact ⟨rfl, below_trans hb1 hb2⟩)
  · have eE : nxE W bits u s = 2 := by unfold nxE; rw [if_neg hs]
    have eI : nxI W bits u s = 0 := by unfold nxI; rw [eE]; rfl
    rw [eE, eI]
    have h1 : (s != 0) = true := by simp; omega
    have h2 : (s != 1) = true := by simp; omega
    clear eE eI hs
    go_enter Tryz.func124, Tryz.ntmps124
    go_wp2_with (go_at_call 136; refine (cV).mono ?_; rintro e w' ⟨rfl, rfl⟩)
    go_ret2
    exact ⟨rfl, Below.refl _ _⟩

end Go.Proofs.YtfolgmcoggejbaaGreat
