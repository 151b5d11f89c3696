/- Contracts of sameNat and sameFrac, and the walk of the law SiftBounds. For any arrangement, gains and number. -/
import Derived.Test.YteoaaphjbggobaaGreatDoorSngD
import Derived.Test.YteoaaphjbggobaaGreatDoorKnown
namespace Go.Proofs.YteoaaphjbggobaaGreatDoor
open Go.RowKit
set_option linter.unusedVariables false
set_option linter.unusedSimpArgs false

set_option maxHeartbeats 1000000 in
theorem sameNat_same (A B : Option Addr) (c d : Nat) (l : List Nat) (w : World) (hA : Nt w A c l) (hB : Nt w B d l) (hl : l.length ≤ 1000000) :
    Calls Tryz.prog 46 #[.slice A l.length c, .slice B l.length d] w fun e w' => e = .returned (.bool true) ∧ Below w.heap.size w w' := by
  have aA := hA.arr
  have aB := hB.arr
  clear hA hB
  go_enter Tryz.func46, Tryz.ntmps46
  go_wp2
  go_loopw [5] (fun i wr => ∃ k : Nat, k ≤ l.length ∧ i = .int .i64 k ∧ Below w.heap.size w wr) (fun i _ => l.length - (intOf i).toNat)
  case atStart => exact ⟨0, Nat.zero_le _, rfl, Below.refl _ _⟩
  case round =>
    obtain ⟨k, hk, rfl, hb⟩ := hrel
    by_cases hlt : k < l.length
    · obtain ⟨b1, o1, x, rfl, hb1, hx, c1⟩ := aA.u32 hlt hb
      obtain ⟨b2, o2, y, rfl, hb2, hy, c2⟩ := aB.u32 hlt hb
      obtain rfl : x = y := by have := hx.out.symm.trans hy.out; simpa using this
      have d0 := later_cell c1; have d1 := later_cell c2
      go_wp2
      refine wp_region_later (by kernel_rfl) (by kernel_rfl) ?_
      repeat (go_big_quiet_step (fail))
      refine wpQuiet_nil ?_
      rintro w1 ⟨⟨_, hb1⟩, rfl⟩
      go_wp2
      go_roundw
      case rel => exact ⟨k + 1, by omega, by go_num, below_trans hb hb1⟩
      case measure => simp [intOf]; omega
    · go_wp2
      go_ret
      exact ⟨rfl, hb⟩

set_option maxHeartbeats 1000000 in
theorem sameFrac_same (A B C D : Option Addr) (a b c d N M : Nat) (w : World) (h1 : Nt w A a (limbs N)) (h2 : Nt w B b (limbs M)) (h3 : Nt w C c (limbs N)) (h4 : Nt w D d (limbs M)) (hN : N < B32 ^ 4) (hM : M < B32 ^ 4) :
    Calls Tryz.prog 18 #[.agg #[.slice A (limbs N).length a, .slice B (limbs M).length b], .agg #[.slice C (limbs N).length c, .slice D (limbs M).length d]] w fun e w' => e = .returned (.bool true) ∧ Below w.heap.size w w' := by
  have l1 := limbs_4 hN
  have l2 := limbs_4 hM
  have hb0 := below_alloc (below_alloc (Below.refl w.heap.size w) (.cells #[.slice A (limbs N).length a, .slice B (limbs M).length b] 53)) (.cells #[.slice C (limbs N).length c, .slice D (limbs M).length d] 53)
  have c1 := sameNat_same A C a c (limbs N) _ (h1.on hb0) (h3.on hb0) (by omega)
  have c2 := fun w' (hb : Below w.heap.size w w') => sameNat_same B D b d (limbs M) w' (h2.on hb) (h4.on hb) (by omega)
  clear hN hM h1 h2 h3 h4
  go_enter Tryz.func18, Tryz.ntmps18
  go_wp2_with fail
  refine c1.mono ?_
  rintro e w1 ⟨rfl, hb1⟩
  have k0 := bel_cell hb1 (show (((w.alloc (.cells #[.slice A (limbs N).length a, .slice B (limbs M).length b] 53)).alloc (.cells #[.slice C (limbs N).length c, .slice D (limbs M).length d] 53))).cell? ⟨w.heap.size, 1, none⟩ = some (.slice B (limbs M).length b) by go_simp)
  have k1 := bel_cell hb1 (show (((w.alloc (.cells #[.slice A (limbs N).length a, .slice B (limbs M).length b] 53)).alloc (.cells #[.slice C (limbs N).length c, .slice D (limbs M).length d] 53))).cell? ⟨w.heap.size + 1, 1, none⟩ = some (.slice D (limbs M).length d) by go_simp)
  have q1 := below_trans hb0 hb1
  go_wp2_with fail
  refine (c2 w1 q1).mono ?_
  rintro e w2 ⟨rfl, hb2⟩
  have q2 := below_trans q1 hb2
  go_wp2_with fail
  go_ret
  exact ⟨rfl, q2⟩

theorem load_row {P : Program} {S : World → Prop} {o : Oper} {a : Act} (ty : TypeId) (x : Operand) (ho : o.op = .load ty x) (g : Nat) (hx : a.eval x = .pointer (some ⟨g, 0, none⟩)) (t : TypeId) (cs : Array Value) (fr : Nat × Nat) (d : TypeDesc) (hg : ∀ w, S w → w.heap[g]? = some (.cells cs t fr))
    (hu : P.underlying ty = some d) (hd : (match d with | .struct _ | .array _ _ => true | _ => false) = true) (hi : (P.info? ty).map (·.size) = some cs.size) :
    ∀ w, S w → (execOp a.eval o).run P w = .ok (.value (.agg cs)) w := by
  intro w hS
  unfold execOp
  simp only [ho, hx, Instr.loadAt, Instr.sureAddr, Sem.run_bind, Sem.run_pure, Result.andThen_ok, run_loadVar_row w g t ty cs fr d (hg w hS) hu hd hi]
theorem brx_small {E num den : Int} (h : E = 0 → den.toNat < B32 ^ 4) : brN E num den < B32 ^ 4 ∧ brD E num den < B32 ^ 4 := by
  unfold brN brD
  by_cases hE : E = 0
  · rw [if_pos hE, if_pos hE]
    have hb := h hE
    have h1 := rd_le (brtN num den.toNat) den.toNat
    exact ⟨Nat.lt_of_le_of_lt (Nat.le_trans h1.1 (brt_le _ _)) hb, Nat.lt_of_le_of_lt h1.2 hb⟩
  · rw [if_neg hE, if_neg hE]
    exact ⟨by decide, by decide⟩
theorem fden_small {o : Opt} {g : Gn} (h : gainsE o g = 0) : (fDen o g).toNat < B32 ^ 4 := by
  obtain ⟨_, oE, pos, _⟩ := gains_opt h
  obtain ⟨a0, h0, x0, a1, h1, x1, a2, h2, x2, rfl, ⟨m1, m2, m3, m4⟩, ⟨m5, m6, m7, m8⟩, m9, m10, m11, m12⟩ := gains_nat h
  obtain ⟨⟨p0, p1, p2⟩, p3, p4, p5⟩ := row_bounds oE
  obtain ⟨d, hd⟩ : ∃ d : Nat, o.w1 = (d : Int) := ⟨o.w1.toNat, by omega⟩
  rw [fDen_mk o a0 h0 x0 a1 h1 x1 a2 h2 x2 d hd]
  have b1 := prod3_le m2 m6 (show d ≤ 4096 by omega)
  exact Nat.lt_of_le_of_lt b1 (by decide)

/-- A fraction in a box. -/
def Gq (w : World) (q : Nat) (A B : Option Addr) (a b N D : Nat) : Prop := (w.cell? ⟨q, 0, none⟩ = some (.slice A (limbs N).length a) ∧ w.cell? ⟨q, 1, none⟩ = some (.slice B (limbs D).length b)) ∧ Nt w A a (limbs N) ∧ Nt w B b (limbs D)
theorem Gq.on {w w' : World} {q : Nat} {A B : Option Addr} {a b N D : Nat} (h : Gq w q A B a b N D) (hb : Below w.heap.size w w') : Gq w' q A B a b N D := ⟨⟨bel_cell hb h.1.1, bel_cell hb h.1.2⟩, h.2.1.on hb, h.2.2.on hb⟩
theorem gq_new (w : World) {A B : Option Addr} {a b N D : Nat} (h1 : Nt w A a (limbs N)) (h2 : Nt w B b (limbs D)) (T : TypeId) : Gq (w.alloc (.cells #[.slice A (limbs N).length a, .slice B (limbs D).length b] T)) w.heap.size A B a b N D :=
  ⟨⟨new_cell rfl, new_cell rfl⟩, h1.on (below_alloc (Below.refl _ _) _), h2.on (below_alloc (Below.refl _ _) _)⟩

end Go.Proofs.YteoaaphjbggobaaGreatDoor
