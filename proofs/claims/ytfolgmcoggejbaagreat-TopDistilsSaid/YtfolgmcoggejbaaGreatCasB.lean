/- A course of a cascade in memory; contracts of parity, isOdd, knows. For a course that is valid. -/
import Derived.Test.YtfolgmcoggejbaaGreatCasA
namespace Go.Proofs.YtfolgmcoggejbaaGreat
open Go.RowKit Go.Maps
set_option linter.unusedVariables false
set_option linter.unusedSimpArgs false

/-- Where a course lies. -/
structure Mem where
  g : Nat
  lo : Nat
  hi : Nat
  ob : Nat
  oc : Nat
  kb : Nat
  kc : Nat
  bv : Value
  mb : Nat
  tv : Value
def Mem.cs (M : Mem) (c : Cas) (m : Mac) : Array Value := #[.bool true, .int .i64 (c.P : Int), .int .i64 (c.K : Int), .int .u64 (c.sd : Int), .slice (some ⟨M.ob, 0, none⟩) c.P M.oc, .slice (some ⟨M.kb, 0, none⟩) c.P M.kc, M.bv, .map (some M.mb), M.tv,
  .int .i64 (m.flips : Int), .bool m.failed, .int .i64 (m.pass : Int), .int .i64 (m.block : Int), .bool m.srch, .int .i64 (m.odd.pass : Int), .int .i64 (m.odd.fr : Int), .int .i64 (m.odd.to : Int), .bool m.ans,
  .int .i64 (m.next.pass : Int), .int .i64 (m.next.fr : Int), .int .i64 (m.next.to : Int), .bool m.opn]
/-- Its orders and its blocks. -/
structure RowsAt (w : World) (c : Cas) (M : Mem) : Prop where
  hi : M.hi ≤ w.heap.size
  ob : M.lo ≤ M.ob ∧ M.ob < M.hi
  kb : M.lo ≤ M.kb ∧ M.kb < M.hi
  oc : c.P ≤ M.oc ∧ M.oc ≤ maxLen
  kc : c.P ≤ M.kc ∧ M.kc ≤ maxLen
  ord : ∀ p, p < c.P → ∃ A k, w.cell? ⟨M.ob, p, none⟩ = some (.slice A c.n k) ∧ c.n ≤ k ∧ k ≤ maxLen ∧ Rw 1 encI w M.lo M.hi A (c.ord p)
  blk : ∀ p, p < c.P → ∃ A k, w.cell? ⟨M.kb, p, none⟩ = some (.slice A (c.blk p).length k) ∧ (c.blk p).length ≤ k ∧ k ≤ maxLen ∧ Rw 3 Qst.enc w M.lo M.hi A (c.blk p)
def Mem.off (M : Mem) (k : Nat) : Prop := k < M.lo ∨ M.hi ≤ k
theorem RowsAt.keep {w w' : World} {c : Cas} {M : Mem} {S : Nat → Prop} (h : RowsAt w c M) (ho : OutS S w w') (hS : ∀ k, S k → M.off k) : RowsAt w' c M := by
  have hk : ∀ k, M.lo ≤ k → k < M.hi → w'.heap[k]? = w.heap[k]? := fun k h1 h2 => ho.block k (Nat.lt_of_lt_of_le h2 h.hi) (fun e => by rcases hS k e with h3 | h3 <;> omega)
  refine ⟨Nat.le_trans h.hi ho.size, h.ob, h.kb, h.oc, h.kc, fun p hp => ?_, fun p hp => ?_⟩
  · obtain ⟨A, k, h1, h2, h3, h4⟩ := h.ord p hp
    exact ⟨A, k, (World.cell?_of_block (a := ⟨M.ob, p, none⟩) (hk _ h.ob.1 h.ob.2)).trans h1, h2, h3, h4.keep hk⟩
  · obtain ⟨A, k, h1, h2, h3, h4⟩ := h.blk p hp
    exact ⟨A, k, (World.cell?_of_block (a := ⟨M.kb, p, none⟩) (hk _ h.kb.1 h.kb.2)).trans h1, h2, h3, h4.keep hk⟩
structure MacAt (w : World) (c : Cas) (m : Mac) (M : Mem) : Prop where
  row : w.heap[M.g]? = some (.cells (M.cs c m) 134 (0, 0))
  rows : RowsAt w c M
  b : Own w 0 4 1 encB M.bv m.b
  tv : Own w 0 202 4 encA M.tv m.told
  kn : Knw w M.mb m.told
  og : M.off M.g
  om : M.off M.mb
  obv : ∀ k, M.bv.ownBlock = some k → M.off k
  otv : ∀ k, M.tv.ownBlock = some k → M.off k
theorem own_row {α : Type} {w : World} {base e sz : Nat} {enc : α → List Value} {v : Value} {l : List α} (h : Own w base e sz enc v l) {k : Nat} (hk : v.ownBlock = some k) : ∃ cs, w.heap[k]? = some (.cells cs e (0, 0)) := by
  rcases h.2 with ⟨rfl, _⟩ | ⟨g, cap, cur, rfl, _, hg, _⟩
  · simp [Value.ownBlock] at hk
  · simp only [Value.ownBlock, Option.map_some, Option.some.injEq] at hk
    subst hk
    exact ⟨_, hg⟩
section
variable {w w' : World} {c : Cas} {m m' : Mac} {M : Mem}
theorem MacAt.cel (h : MacAt w c m M) (j : Nat) : w.cell? ⟨M.g, j, none⟩ = (M.cs c m)[j]? := cell_of_row w M.g j _ _ _ h.row
theorem MacAt.fr (h : MacAt w c m M) (j : Nat) : w.frozen? ⟨M.g, j, none⟩ = false := frozen_of_row w M.g j _ _ h.row
theorem MacAt.nb (h : MacAt w c m M) {k : Nat} (hk : M.bv.ownBlock = some k) : k ≠ M.g ∧ k ≠ M.mb ∧ M.tv.ownBlock ≠ some k := by
  obtain ⟨cs, h1⟩ := own_row h.b hk
  refine ⟨?_, ?_, ?_⟩
  · rintro rfl
    rw [h.row] at h1
    simp at h1
  · rintro rfl
    obtain ⟨D, hD⟩ := h.kn
    obtain ⟨es, clock, hb, _⟩ := hD.own
    rw [hb] at h1
    simp at h1
  · intro e
    obtain ⟨cs2, h2⟩ := own_row h.tv e
    rw [h1] at h2
    simp at h2
theorem MacAt.nm (h : MacAt w c m M) : M.mb ≠ M.g := by
  intro e
  obtain ⟨D, hD⟩ := h.kn
  obtain ⟨es, clock, hb, _⟩ := hD.own
  rw [e, h.row] at hb
  simp at hb
theorem MacAt.nt (h : MacAt w c m M) {k : Nat} (hk : M.tv.ownBlock = some k) : k ≠ M.g ∧ k ≠ M.mb := by
  obtain ⟨cs, h1⟩ := own_row h.tv hk
  refine ⟨?_, ?_⟩
  · rintro rfl
    rw [h.row] at h1
    simp at h1
  · rintro rfl
    obtain ⟨D, hD⟩ := h.kn
    obtain ⟨es, clock, hb, _⟩ := hD.own
    rw [hb] at h1
    simp at h1
/-- What keeps all the course's blocks keeps the course. -/
theorem MacAt.keep {S : Nat → Prop} (h : MacAt w c m M) (ho : OutS S w w') (hg : ¬ S M.g) (hm : ¬ S M.mb) (hb : ∀ k, M.bv.ownBlock = some k → ¬ S k) (ht : ∀ k, M.tv.ownBlock = some k → ¬ S k) (hr : ∀ k, S k → M.off k) : MacAt w' c m M := by
  obtain ⟨D, hD⟩ := h.kn
  obtain ⟨es, clock, hbk, r⟩ := hD.own
  exact ⟨ho.row h.row hg, h.rows.keep ho hr, ho.own h.b hb, ho.own h.tv ht, ⟨D, ⟨es, clock, ho.row hbk hm, r⟩, hD.has, hD.miss, hD.at_, hD.low, hD.nod⟩, h.og, h.om, h.obv, h.otv⟩
theorem MacAt.on (h : MacAt w c m M) (hb : Below w.heap.size w w') : MacAt w' c m M :=
  h.keep (S := fun _ => False) (OutS.of hb) (fun h => h) (fun h => h) (fun _ _ h => h) (fun _ _ h => h) (fun _ h => h.elim)
/-- The store of a number, or of a truth value, into the struct. -/
theorem MacAt.set (h : MacAt w c m M) (j : Nat) (v : Value) (hs : (M.cs c m).setIfInBounds j v = M.cs c m') (hb : m'.b = m.b) (ht : m'.told = m.told) : MacAt (w.setCell ⟨M.g, j, none⟩ v) c m' M := by
  have ho : OutS (fun k => k = M.g) w (w.setCell ⟨M.g, j, none⟩ v) := OutS.set rfl
  obtain ⟨D, hD⟩ := h.kn
  obtain ⟨es, clock, hbk, r⟩ := hD.own
  refine ⟨?_, h.rows.keep ho (fun k hk => by subst hk; exact h.og), ?_, ?_, ?_, h.og, h.om, h.obv, h.otv⟩
  · rw [← hs]; exact heap_setCell_same w M.g j _ _ v h.row
  · rw [hb]; exact ho.own h.b (fun k hk => (h.nb hk).1)
  · rw [ht]; exact ho.own h.tv (fun k hk => (h.nt hk).1)
  · rw [ht]; exact ⟨D, ⟨es, clock, ho.row hbk h.nm, r⟩, hD.has, hD.miss, hD.at_, hD.low, hD.nod⟩
end

theorem parity_any (B : Option Addr) (cb : Nat) (b : List Bool) (A : Option Addr) (ca : Nat) (l : List Int) (w : World) (hB : Arr 1 encB w w.heap.size B b) (hA : Arr 1 encI w w.heap.size A l) (hb : b.length ≤ 100000) (hl : l.length ≤ 100000) (hin : ∀ x ∈ l, ∃ i : Nat, x = (i : Int) ∧ i < b.length) :
    Calls Tryz.prog 47 #[.slice B b.length cb, .slice A l.length ca] w fun e w' => e = .returned (.bool (par b l)) ∧ w = w' := by
  have Hin := Lib.hid hin
  clear hin
  go_enter Tryz.func47, Tryz.ntmps47
  go_wp2_with fail
  go_loopw [5, 10] (fun o i wr => ∃ k : Nat, k ≤ l.length ∧ i = .int .i64 k ∧ o = .bool (par b (l.take k)) ∧ w = wr) (fun _ i _ => l.length - (intOf i).toNat)
  case atStart => exact ⟨0, by omega, rfl, rfl, rfl⟩
  case round =>
    obtain ⟨k, hk, rfl, rfl, rfl⟩ := hrel
    by_cases hlt : k < l.length
    · obtain ⟨a, o1, x, rfl, _, hx, c1⟩ := hA.int hlt (Below.refl _ _)
      obtain ⟨i, rfl, hi⟩ := Hin.out x (List.mem_of_getElem? hx.out)
      obtain ⟨a2, o2, y, rfl, _, hy, c2⟩ := hB.bool hi (Below.refl _ _)
      have hst : Hid (par b (l.take (k + 1)) = (par b (l.take k) != y)) := Lib.hid (by
        rw [take_snoc hx.out, par_snoc, Int.toNat_natCast, List.getD_eq_getElem?_getD, hy.out]; rfl)
      generalize par b (l.take k) = p at *
      go_wp2_with fail
      go_roundw
      case rel => exact ⟨k + 1, by omega, by go_num, by rw [hst.out]; cases p <;> cases y <;> rfl, trivial⟩
      case measure => simp [intOf]; omega
    · have e1 : Hid (l.take k = l) := Lib.hid (List.take_of_length_le (by omega))
      go_wp2_with fail
      go_ret
      exact ⟨ret_bool (by rw [e1.out]), rfl⟩

end Go.Proofs.YtfolgmcoggejbaaGreat
