/- Short names for lemmas of the library, and two words for walks. No condition. -/
import Derived.BigQuiet
import Derived.Deep.RegionHeld
import Derived.Laws.AppendOwnNone
import Derived.Lib.Hide
import Derived.WalkKit
import Derived.WalkLawsBesides
import Derived.WalkSpells
import Derived.Test.YtjpidgffdkjjeaaGreatProg
namespace Go.Proofs.YtjpidgffdkjjeaaGreat
open Go.RowKit Go.Maps
set_option linter.defProp false
def F:=@Lib.hid
def Ae:=@Below.refl
def Bm:=@Array.getElem?_eq_some_iff
def AX:=@cell_of_row
def Bg:=@Nat.le_refl
def Ch:=@World.block_lt_of_cell?
def Br:=@Nat.le_trans
def CH:=@List.getElem?_eq_getElem
def Ck:=@Nat.lt_of_lt_of_le
def BM:=@Nat.zero_le
def AU:=@if_neg
def Cp:=@World.ownsRow.lt
def EF:=@List.getElem?_eq_some_iff
def Bd:=@if_pos
def DV:=@Int.eq_ofNat_of_zero_le
def CM:=@heap_setCell_same
def DI:=@List.mem_of_getElem?
def CB:=@heap_alloc_new
def EG:=@List.take_of_length_le
def Do:=@Nat.lt_of_le_of_lt
def CJ:=@frozen_of_row
def Fg:=@Nat.le_of_ble_eq_true
def DC:=@List.length_take
def Ds:=@decide_eq_false
def Dz:=@List.length_map
def Dj:=@AllReadyH.cons
def GY:=@World.cell?_setCell_other
def Fx:=@World.cell?_of_block
def Fd:=@Below.heap_setCell
def Fz:=@wp_region_held_drew
def D4:=@Nat.lt_or_ge
def EA:=@List.all_eq_true
def De:=@bodyPost_ret
def Er:=@decide_eq_true
def GX:=@World.frozen?_setCell
def Ib:=@of_decide_eq_true
def KF:=@World.cell?_setCell_far
def GU:=@List.take_add_one
def JH:=@World.grownBy_alloc
def EE:=@Nat.zero_add
def EO:=@Nat.le_of_lt
def Jo:=@heap_setCell_other
def Ia:=@List.take_length
def PI:=@List.drop_eq_getElem_cons
def LT:=@Nat.pow_le_pow_right
def Jg:=@results_cell_tmp
def KZ:=@List.length_append
def LQ:=@Nat.mul_le_mul_left
def GQ:=@AllReadyH.nil
def Wu:=@List.take_succ_eq_append_getElem
def Lg:=@IntWalk.wrap64_in
def G3:=@wpAnyH_take
def Nc:=@Nat.eq_zero_or_pos
def LN:=@List.length_set
def GP:=@wpQuiet_nil
def PX:=@Nat.mul_le_mul_right
def Mc:=@wpList_store_row
def JU:=@callsIn_wide
def QO:=@List.getElem?_eq_none
def QV:=@List.length_singleton
def TK:=@World.cell?_setCell_same'
def GS:=@setRow_heap
def I9:=@Nat.mul_pos
def Oo:=@Nat.min_eq_left
def OV:=@List.mem_append
def Nd:=@Nat.mul_le_mul
def Ro:=@Int.toNat_natCast
def JK:=@Nat.mul_one
def WC:=@List.eq_nil_of_length_eq_zero
def Xe:=@List.getElem?_append_left
def IA:=@info_parts
def Lc:=@Nat.sub_self
def PO:=@Bool.eq_iff_iff
def IB:=@Nat.mod_lt
def Ue:=@List.length_replicate
def Ld:=@List.mem_map
def LS:=@Nat.pow_succ
def WK:=@Nat.mul_lt_mul_of_pos_right
def Vt:=@Nat.le_mul_of_pos_right
def XN:=@List.getElem?_append_right
def Ui:=@List.mem_of_mem_take
def Sx:=@Nat.mul_lt_mul''
def SI:=@List.length_drop
def TM:=@Below.heap_alloc
def Xg:=@Classical.byContradiction
def Om:=@Nat.mul_comm
def Sy:=@Nat.div_le_self
def SQ:=@List.map_append
def UG:=@List.pairwise_cons
def JQ:=@And.intro
def WB:=@List.drop_of_length_le
def WU:=@World.frozen?_of_block
def X6:=@List.drop_eq_nil_of_le
def YE:=@List.getD_eq_getElem?_getD
def Ol:=@Nat.add_mul
def Su:=@List.all_append
def Ou:=@Nat.pow_add
def Ow:=@Nat.pow_pos
def OD:=@Nat.le_succ
def XV:=@Nat.add_mul_mod_self_left
def VF:=@Nat.xor_lt_two_pow
def WE:=@Nat.pow_lt_pow_right
def Uq:=@heap_alloc2_old
def Ur:=@heap_alloc2_new
def Uy:=@List.nil_append
def Sz:=@Nat.add_zero
def VI:=@WalkArith.wf_i64
def aJ:=@Int.tmod_eq_emod_of_nonneg
def Xc:=@of_decide_eq_false
def Vg:=@heap_alloc_old
def XU:=@List.take_append_drop
def XW:=@Nat.add_mul_div_left
def PQ:=@Exists.intro
def Xh:=@Nat.gcd_dvd_right
def Xk:=@Decidable.not_not
def av:=@wpList_lookup_own_ok_int
def XO:=@World.ownsRow.alloc
def YP:=@beq_eq_false_iff_ne
def Ww:=@Nat.div_eq_of_lt
def WG:=@Nat.lt_of_not_le
def WX:=@results_cell_row
def ZM:=@World.frozen?_alloc_at
def UY:=@Nat.ne_of_gt
def da:=@List.getElem?_set_self
def Wv:=@Nat.mod_add_div
def WR:=@wpList_make_own
def dq:=@List.length_filter_le
def dG:=@List.contains_iff_mem
theorem Q.{u} {α : Sort u} {a : α} : a = a := rfl
instance : CoeOut World Nat := ⟨fun w => w.heap.size⟩
def TakeAt (_ : Nat) (q p : Prop) : Prop := q → p
section
variable {P : Program} {md : Region.Mode} {ops : Array Oper} {Q : Exit → Act → World → Prop} {S : World → Prop}
theorem tR {i : Nat} {oi : Oper} {v : Value} {fuel : Nat} {listed : Array Bool} {a : Act} {w : World} {q : Prop} (hi : ops[i]? = some oi := by exact rfl)
    (hs : Region.noSelect ops = true := by kernel_rfl) (hf : Region.free md ops listed i = true := by kernel_rfl) (hr : (Region.ready md ops listed).contains i = true := by kernel_rfl)
    (hQ : ∀ c a w, Q (.panic c) (a.put oi.dst v) w → Q (.panic c) a w := by exact fun _ _ _ h => h) (hy : YieldsIf P ops S oi v a := by (refine Or.inl ⟨by rfl, ?_⟩; intro wz hSz; (try dsimp only at hSz); go_simp; (try with_reducible rfl)))
    (hS : S w := by assumption) (e : q → wpAnyH P md ops Q S fuel (listed.setIfInBounds i true) (a.put oi.dst v) w := by intro h; (try simp only [Act.put, List.getElem_toArray, List.getElem_cons_succ, List.getElem_cons_zero, List.setIfInBounds_toArray, List.set_cons_zero, List.set_cons_succ]); exact h) : TakeAt i q (wpAnyH P md ops Q S (fuel + 1) listed a w) :=
  fun h => wpAnyH_take hi hs hf hr hQ hy hS (e h)
theorem oR {i : Nat} {oi : Oper} {fuel : Nat} {listed : Array Bool} {a : Act} {w : World} {q : Prop} (hi : ops[i]? = some oi := by exact rfl)
    (hs : Region.noSelect ops = true := by kernel_rfl) (hf : Region.free md ops listed i = true := by kernel_rfl) (hr : (Region.ready md ops listed).contains i = true := by kernel_rfl)
    (hQ : ∀ c a w, Q (.panic c) (a.put oi.dst undef) w → Q (.panic c) a w := by exact fun _ _ _ h => h) (hy : YieldsIf P ops S oi undef a := by exact Or.inr ⟨by rfl, rfl⟩)
    (hS : S w := by assumption) (e : q → wpAnyH P md ops Q S fuel (listed.setIfInBounds i true) (a.put oi.dst undef) w := by intro h; (try simp only [Act.put, List.getElem_toArray, List.getElem_cons_succ, List.getElem_cons_zero, List.setIfInBounds_toArray, List.set_cons_zero, List.set_cons_succ]); exact h) : TakeAt i q (wpAnyH P md ops Q S (fuel + 1) listed a w) :=
  fun h => wpAnyH_take hi hs hf hr hQ hy hS (e h)
end
theorem tQ2 (i : Nat) {p q r : Prop} (h : r) (e1 : TakeAt i q p := by exact tR) (e2 : TakeAt (i + 1) r q := by exact tR) : p := e1 (e2 h)
theorem tQ4 (i : Nat) {p q r s t : Prop} (h : t) (e1 : TakeAt i q p := by exact tR) (e2 : TakeAt (i + 1) r q := by exact tR) (e3 : TakeAt (i + 2) s r := by exact tR) (e4 : TakeAt (i + 3) t s := by exact tR) : p := e1 (e2 (e3 (e4 h)))
theorem oQ2 (i : Nat) {p q r : Prop} (h : r) (e1 : TakeAt i q p := by exact oR) (e2 : TakeAt (i + 1) r q := by exact oR) : p := e1 (e2 h)
theorem oQ4 (i : Nat) {p q r s t : Prop} (h : t) (e1 : TakeAt i q p := by exact oR) (e2 : TakeAt (i + 1) r q := by exact oR) (e3 : TakeAt (i + 2) s r := by exact oR) (e4 : TakeAt (i + 3) t s := by exact oR) : p := e1 (e2 (e3 (e4 h)))
theorem qbc {w : World} {a : Addr} {v : Value} (h : w.cell? a = some v) : ∀ w', Below w.heap.size w w' → w'.cell? a = some v := fun _ hb => (hb.cell (World.block_lt_of_cell? w a h)).trans h
theorem qbw (w : World) {P : World → Prop} (h : ∀ w', Below w.heap.size w w' → P w') : ∀ w', Below w.heap.size w w' → P w' := h
theorem qgn.{u} {α : Sort u} (a : α) : ∃ y, y = a := ⟨a, rfl⟩
theorem qrh {P : Program} {ops : Array Oper} {Q : Exit → Act → World → Prop} {id : Nat} {a : Act} {w : World} (x : World) (hS : Below x.heap.size x w.drew) (h : Below x.heap.size x w.drew → wpAnyH P .any ops Q (fun y => Below x.heap.size x y) ops.size (Array.replicate ops.size false) a w.drew) (hm : P.follows .mixedOrders = true := by kernel_rfl) : (Code.region id ops true).wp P Q a w := wp_region_held_drew hm hS h
theorem qlr {P : Program} {ops : Array Oper} {rest : List Oper} {o : Oper} {a : Act} {w : World} {Q : Exit → Act → World → Prop} (ty : TypeId) {g : Nat} {t : TypeId} {cs : Array Value} {fr : Nat × Nat} {d : TypeDesc} (hg : w.heap[g]? = some (.cells cs t fr)) (hu : P.underlying ty = some d) (h : wpList P ops Q rest (a.put o.dst (.agg cs)) w) {x : Operand} (hgd : o.guard = none := by exact rfl) (ho : o.op = .load ty x := by exact rfl) (hx : a.eval x = .pointer (some ⟨g, 0, none⟩) := by exact rfl) (hd : (match d with | .struct _ | .array _ _ => true | _ => false) = true := by exact rfl) (hi : (P.info? ty).map (·.size) = some cs.size := by kernel_rfl) : wpList P ops Q (o :: rest) a w := wpList_load_row hgd ty x ho g hx t cs fr d hg hu hd hi h
theorem qgm {p : Prop} (h : p := by go_num) : p := h
theorem qsm {p : Prop} (h : p := by (simp; omega)) : p := h
theorem qsu {p q : Prop} (h : q) (e : q → p := by (intro h; simpa using h)) : p := e h
theorem qrf {p q r : Prop} (h : r) (g : q) (e : r → q → p := by (intro h g; rw [h]; exact g)) : p := e h g
theorem qrb {p q r : Prop} (h : r) (g : q) (e : r → q → p := by (intro h g; rw [← h]; exact g)) : p := e h g
theorem qti {p q : Prop} (h : q) (e : q → p := by (intro h; (try simp only [Exit.inBlock, Exit.then]); exact h)) : p := e h
theorem qio {p : Prop} (h : p := by (simp [intOf]; omega)) : p := h
theorem qiz (t n : Nat) (h : (Tryz.prog.info? t).map (·.size) = some n := by kernel_rfl) : (Tryz.prog.info? t).map (·.size) = some n := h
section
variable {P : Program} {md : Region.Mode} {ops : Array Oper} {Q : Exit → Act → World → Prop} {S : World → Prop}
theorem oQ (i : Nat) {oi : Oper} {fuel : Nat} {listed : Array Bool} {a : Act} {w : World} {q : Prop} (h : q) (hi : ops[i]? = some oi := by exact rfl)
    (hs : Region.noSelect ops = true := by kernel_rfl) (hf : Region.free md ops listed i = true := by kernel_rfl) (hr : (Region.ready md ops listed).contains i = true := by kernel_rfl)
    (hQ : ∀ c a w, Q (.panic c) (a.put oi.dst undef) w → Q (.panic c) a w := by exact fun _ _ _ h => h) (hy : YieldsIf P ops S oi undef a := by exact Or.inr ⟨by rfl, rfl⟩)
    (hS : S w := by assumption) (e : q → wpAnyH P md ops Q S fuel (listed.setIfInBounds i true) (a.put oi.dst undef) w := by intro h; (try simp only [Act.put, List.getElem_toArray, List.getElem_cons_succ, List.getElem_cons_zero, List.setIfInBounds_toArray, List.set_cons_zero, List.set_cons_succ]); exact h) : wpAnyH P md ops Q S (fuel + 1) listed a w :=
  wpAnyH_take hi hs hf hr hQ hy hS (e h)
end
theorem mqv {P : Program} {f : FuncId} {args : Array Value} {w : World} {v : Value} {Q : Ending → World → Prop} (h : Calls P f args w fun e w' => e = .returned v ∧ w = w') (k : Q (.returned v) w) : Calls P f args w Q := h.mono fun _ _ ⟨a, b⟩ => a ▸ b ▸ k
theorem gqm {P : Program} {f : FuncId} {args : Array Value} {w : World} {Q K : Ending → World → Prop} {p : Prop} (c : Calls P f args w Q) (h : ∀ e w', Q e w' → K e w') (e : Calls P f args w K → p := by (intro h; go_wp2_with fail; exact h)) : p := e (c.mono h)
theorem gqr {P : Program} {f : FuncId} {args : Array Value} {w : World} {E : Ending} {R : World → Prop} {K : Ending → World → Prop} {p : Prop} (c : Calls P f args w fun e w' => e = E ∧ R w') (h : ∀ w', R w' → K E w') (e : Calls P f args w K → p := by (intro h; go_wp2_with fail; exact h)) : p := e (c.mono fun _ _ ⟨a, b⟩ => a ▸ h _ b)
theorem gqz {P : Program} {n : Nat} {a : Array Value} {w : World} {R : Ending} {Q : World → Prop} {K : Ending → World → Prop} (h : Calls P n a w fun e w' => e = R ∧ Q w') (k : ∀ w', Q w' → K R w') : Calls P n a w K := h.mono (by rintro _ _ ⟨rfl, q⟩; exact k _ q)
end Go.Proofs.YtjpidgffdkjjeaaGreat
