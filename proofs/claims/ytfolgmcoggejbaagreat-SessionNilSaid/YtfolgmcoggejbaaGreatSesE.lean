/- Contracts of slices.Clone at several types, of keep, of NewPool for a pool that is too long. For lists of at most 10 million elements. -/
import Derived.Test.YtfolgmcoggejbaaGreatSesA
import Derived.Test.YtfolgmcoggejbaaGreatPolAll
import Derived.Test.YtfolgmcoggejbaaGreatRulA
namespace Go.Proofs.YtfolgmcoggejbaaGreat
open Go.RowKit
set_option linter.unusedVariables false
set_option linter.unusedSimpArgs false

theorem clone_info_nat : (Tryz.prog.info? 117).map (fun i => (i.zero, i.size, i.bytes)) = some (some (.int .u32 0), 1, 4) := by kernel_rfl
theorem eql_nil_nat (A : Option Addr) (n c : Nat) (w : World) : (binOp .eql 30 (.slice A n c) (.slice none 0 0)).run Tryz.prog w = .ok (.bool A.isNone) w := Lib.run_eql_slice_nil w _ _ A n c 0 0 Tryz.underlying30
set_option maxRecDepth 100000 in
set_option maxHeartbeats 2000000 in
theorem Clone_nat (A : Option Addr) (c : Nat) (l : List Nat) (w : World) (hA : Arr 1 enc32 w w.heap.size A l) (nA : A = none → c = 0) (hl : l.length ≤ c) (hl2 : l.length ≤ 3000000000) :
    Calls Tryz.prog 201 #[.slice A l.length c] w fun e w' => ∃ v, e = .returned v ∧ Own w' w.heap.size 117 1 enc32 v l ∧ Below w.heap.size w w' := by
  obtain ⟨i0, hi, hz0, hz1, hz2⟩ := info_parts clone_info_nat
  have Hi := Lib.hid hi; have Hz0 := Lib.hid hz0; have Hz1 := Lib.hid hz1; have Hz2 := Lib.hid hz2
  clear hi hz0 hz1 hz2
  have hn := fun w' => eql_nil_nat A l.length c w'
  cases A with
  | none =>
    obtain rfl : c = 0 := nA rfl
    obtain rfl : l = [] := List.eq_nil_of_length_eq_zero (by omega)
    have hn0 : ∀ w', (binOp .eql 30 (.slice none 0 0) (.slice none 0 0)).run Tryz.prog w' = .ok (.bool true) w' := fun w' => hn w'
    clear hn
    go_enter Tryz.func201, Tryz.ntmps201
    go_wp2
    go_ret
    exact ⟨_, rfl, Own.nil, Below.refl _ _⟩
  | some a =>
    have hsome : ∀ w', (binOp .eql 30 (.slice (some a) l.length c) (.slice none 0 0)).run Tryz.prog w' = .ok (.bool false) w' := fun w' => hn w'
    have oe := own_empty (α := Nat) (sz := 1) (enc := enc32) w w.heap.size 117 (Nat.le_refl _)
    have oA := hA.keep (below_alloc (Below.refl _ _) (.cells #[] 117))
    have oby : (([] : List Nat).length + l.length) * 4 ≤ 140737488355328 := by simp; omega
    have osz : w.heap.size ≤ (w.alloc (.cells #[] 117)).heap.size := by simp
    clear hn
    go_enter Tryz.func201, Tryz.ntmps201
    go_wp2_with (at_builtin; refine wpList_app rfl _ _ 30 rfl w.heap.size 117 i0 _ 1 4 Tryz.underlying30 Hi.out Hz0.out Hz1.out Hz2.out rfl (by decide) enc32_len enc32_one _ ([] : List Nat) l _ c w.heap.size rfl oe rfl oA nA oby (by decide) osz ?_; intro v1 w1 own1 hb1; rw [List.nil_append] at own1)
    go_ret
    exact ⟨_, rfl, own1, (below_alloc (Below.refl _ _) _).trans hb1⟩

theorem clone_info_int : (Tryz.prog.info? 3).map (fun i => (i.zero, i.size, i.bytes)) = some (some (.int .i64 0), 1, 8) := by kernel_rfl
theorem eql_nil_int (A : Option Addr) (n c : Nat) (w : World) : (binOp .eql 76 (.slice A n c) (.slice none 0 0)).run Tryz.prog w = .ok (.bool A.isNone) w := Lib.run_eql_slice_nil w _ _ A n c 0 0 Tryz.underlying76
set_option maxRecDepth 100000 in
set_option maxHeartbeats 2000000 in
theorem Clone_int (A : Option Addr) (c : Nat) (l : List Int) (w : World) (hA : Arr 1 encI w w.heap.size A l) (nA : A = none → c = 0) (hl : l.length ≤ c) (hl2 : l.length ≤ 3000000000) :
    Calls Tryz.prog 73 #[.slice A l.length c] w fun e w' => ∃ v, e = .returned v ∧ Own w' w.heap.size 3 1 encI v l ∧ Below w.heap.size w w' := by
  obtain ⟨i0, hi, hz0, hz1, hz2⟩ := info_parts clone_info_int
  have Hi := Lib.hid hi; have Hz0 := Lib.hid hz0; have Hz1 := Lib.hid hz1; have Hz2 := Lib.hid hz2
  clear hi hz0 hz1 hz2
  have hn := fun w' => eql_nil_int A l.length c w'
  cases A with
  | none =>
    obtain rfl : c = 0 := nA rfl
    obtain rfl : l = [] := List.eq_nil_of_length_eq_zero (by omega)
    have hn0 : ∀ w', (binOp .eql 76 (.slice none 0 0) (.slice none 0 0)).run Tryz.prog w' = .ok (.bool true) w' := fun w' => hn w'
    clear hn
    go_enter Tryz.func73, Tryz.ntmps73
    go_wp2
    go_ret
    exact ⟨_, rfl, Own.nil, Below.refl _ _⟩
  | some a =>
    have hsome : ∀ w', (binOp .eql 76 (.slice (some a) l.length c) (.slice none 0 0)).run Tryz.prog w' = .ok (.bool false) w' := fun w' => hn w'
    have oe := own_empty (α := Int) (sz := 1) (enc := encI) w w.heap.size 3 (Nat.le_refl _)
    have oA := hA.keep (below_alloc (Below.refl _ _) (.cells #[] 3))
    have oby : (([] : List Int).length + l.length) * 8 ≤ 140737488355328 := by simp; omega
    have osz : w.heap.size ≤ (w.alloc (.cells #[] 3)).heap.size := by simp
    clear hn
    go_enter Tryz.func73, Tryz.ntmps73
    go_wp2_with (at_builtin; refine wpList_app rfl _ _ 76 rfl w.heap.size 3 i0 _ 1 8 Tryz.underlying76 Hi.out Hz0.out Hz1.out Hz2.out rfl (by decide) encI_len encI_one _ ([] : List Int) l _ c w.heap.size rfl oe rfl oA nA oby (by decide) osz ?_; intro v1 w1 own1 hb1; rw [List.nil_append] at own1)
    go_ret
    exact ⟨_, rfl, own1, (below_alloc (Below.refl _ _) _).trans hb1⟩

theorem Rul.one (c : Rul) : ∀ u ∈ c.enc, u.oneCell' = true := by simp [Rul.enc, Value.oneCell']
theorem clone_info_rule : (Tryz.prog.info? 334).map (fun i => (i.zero, i.size, i.bytes)) = some (some (.agg #[.int .i64 0, .int .i64 0, .int .i64 0, .int .i64 0, .int .i64 0]), 5, 40) := by kernel_rfl
theorem eql_nil_rule (A : Option Addr) (n c : Nat) (w : World) : (binOp .eql 97 (.slice A n c) (.slice none 0 0)).run Tryz.prog w = .ok (.bool A.isNone) w := Lib.run_eql_slice_nil w _ _ A n c 0 0 Tryz.underlying97
theorem clone_info_pulse : (Tryz.prog.info? 156).map (fun i => (i.zero, i.size, i.bytes)) = some (some (.agg #[.int .i64 0, .bool false, .int .i64 0, .int .i64 0, .bool false]), 5, 40) := by kernel_rfl
theorem eql_nil_pulse (A : Option Addr) (n c : Nat) (w : World) : (binOp .eql 74 (.slice A n c) (.slice none 0 0)).run Tryz.prog w = .ok (.bool A.isNone) w := Lib.run_eql_slice_nil w _ _ A n c 0 0 Tryz.underlying74
set_option maxRecDepth 100000 in
set_option maxHeartbeats 2000000 in
theorem Clone_pulse (A : Option Addr) (c : Nat) (l : List Pls) (w : World) (hA : Arr 5 Pls.enc w w.heap.size A l) (nA : A = none → c = 0) (hl : l.length ≤ c) (hl2 : l.length ≤ 3000000000) :
    Calls Tryz.prog 65 #[.slice A l.length c] w fun e w' => ∃ v, e = .returned v ∧ Own w' w.heap.size 156 5 Pls.enc v l ∧ Below w.heap.size w w' := by
  obtain ⟨i0, hi, hz0, hz1, hz2⟩ := info_parts clone_info_pulse
  have Hi := Lib.hid hi; have Hz0 := Lib.hid hz0; have Hz1 := Lib.hid hz1; have Hz2 := Lib.hid hz2
  clear hi hz0 hz1 hz2
  have hn := fun w' => eql_nil_pulse A l.length c w'
  cases A with
  | none =>
    obtain rfl : c = 0 := nA rfl
    obtain rfl : l = [] := List.eq_nil_of_length_eq_zero (by omega)
    have hn0 : ∀ w', (binOp .eql 74 (.slice none 0 0) (.slice none 0 0)).run Tryz.prog w' = .ok (.bool true) w' := fun w' => hn w'
    clear hn
    go_enter Tryz.func65, Tryz.ntmps65
    go_wp2
    go_ret
    exact ⟨_, rfl, Own.nil, Below.refl _ _⟩
  | some a =>
    have hsome : ∀ w', (binOp .eql 74 (.slice (some a) l.length c) (.slice none 0 0)).run Tryz.prog w' = .ok (.bool false) w' := fun w' => hn w'
    have oe := own_empty (α := Pls) (sz := 5) (enc := Pls.enc) w w.heap.size 156 (Nat.le_refl _)
    have oA := hA.keep (below_alloc (Below.refl _ _) (.cells #[] 156))
    have oby : (([] : List Pls).length + l.length) * 40 ≤ 140737488355328 := by simp; omega
    have osz : w.heap.size ≤ (w.alloc (.cells #[] 156)).heap.size := by simp
    clear hn
    go_enter Tryz.func65, Tryz.ntmps65
    go_wp2_with (at_builtin; refine wpList_app rfl _ _ 74 rfl w.heap.size 156 i0 _ 5 40 Tryz.underlying74 Hi.out Hz0.out Hz1.out Hz2.out rfl (by decide) Pls.enc_len Pls.one _ ([] : List Pls) l _ c w.heap.size rfl oe rfl oA nA oby (by decide) osz ?_; intro v1 w1 own1 hb1; rw [List.nil_append] at own1)
    go_ret
    exact ⟨_, rfl, own1, (below_alloc (Below.refl _ _) _).trans hb1⟩

theorem clone_info_click : (Tryz.prog.info? 153).map (fun i => (i.zero, i.size, i.bytes)) = some (some (.agg #[.int .i64 0, .int .i64 0]), 2, 16) := by kernel_rfl
theorem eql_nil_click (A : Option Addr) (n c : Nat) (w : World) : (binOp .eql 75 (.slice A n c) (.slice none 0 0)).run Tryz.prog w = .ok (.bool A.isNone) w := Lib.run_eql_slice_nil w _ _ A n c 0 0 Tryz.underlying75
set_option maxRecDepth 100000 in
set_option maxHeartbeats 2000000 in
theorem Clone_click (A : Option Addr) (c : Nat) (l : List Clk) (w : World) (hA : Arr 2 Clk.enc w w.heap.size A l) (nA : A = none → c = 0) (hl : l.length ≤ c) (hl2 : l.length ≤ 3000000000) :
    Calls Tryz.prog 64 #[.slice A l.length c] w fun e w' => ∃ v, e = .returned v ∧ Own w' w.heap.size 153 2 Clk.enc v l ∧ Below w.heap.size w w' := by
  obtain ⟨i0, hi, hz0, hz1, hz2⟩ := info_parts clone_info_click
  have Hi := Lib.hid hi; have Hz0 := Lib.hid hz0; have Hz1 := Lib.hid hz1; have Hz2 := Lib.hid hz2
  clear hi hz0 hz1 hz2
  have hn := fun w' => eql_nil_click A l.length c w'
  cases A with
  | none =>
    obtain rfl : c = 0 := nA rfl
    obtain rfl : l = [] := List.eq_nil_of_length_eq_zero (by omega)
    have hn0 : ∀ w', (binOp .eql 75 (.slice none 0 0) (.slice none 0 0)).run Tryz.prog w' = .ok (.bool true) w' := fun w' => hn w'
    clear hn
    go_enter Tryz.func64, Tryz.ntmps64
    go_wp2
    go_ret
    exact ⟨_, rfl, Own.nil, Below.refl _ _⟩
  | some a =>
    have hsome : ∀ w', (binOp .eql 75 (.slice (some a) l.length c) (.slice none 0 0)).run Tryz.prog w' = .ok (.bool false) w' := fun w' => hn w'
    have oe := own_empty (α := Clk) (sz := 2) (enc := Clk.enc) w w.heap.size 153 (Nat.le_refl _)
    have oA := hA.keep (below_alloc (Below.refl _ _) (.cells #[] 153))
    have oby : (([] : List Clk).length + l.length) * 16 ≤ 140737488355328 := by simp; omega
    have osz : w.heap.size ≤ (w.alloc (.cells #[] 153)).heap.size := by simp
    clear hn
    go_enter Tryz.func64, Tryz.ntmps64
    go_wp2_with (at_builtin; refine wpList_app rfl _ _ 75 rfl w.heap.size 153 i0 _ 2 16 Tryz.underlying75 Hi.out Hz0.out Hz1.out Hz2.out rfl (by decide) Clk.enc_len Clk.one _ ([] : List Clk) l _ c w.heap.size rfl oe rfl oA nA oby (by decide) osz ?_; intro v1 w1 own1 hb1; rw [List.nil_append] at own1)
    go_ret
    exact ⟨_, rfl, own1, (below_alloc (Below.refl _ _) _).trans hb1⟩


/-- The same setup, its fractions elsewhere. -/
def Kep (s s' : Stp) : Prop := ∃ A1 c1 A2 c2 A3 c3 A4 c4, s' = { s with eps := ⟨A1, c1, s.eps.l, A2, c2, s.eps.m⟩, lim := ⟨A3, c3, s.lim.l, A4, c4, s.lim.m⟩ }
theorem Nt.low {w : World} {A : Option Addr} {c : Nat} {l : List Nat} {base : Nat} {v : Value} (h : Own w base 117 1 enc32 v l) (hd : Dig B32 l) : ∃ A c, v = .slice A l.length c ∧ Nt w A c l := own_nt h hd
theorem NewPool_long (W : Nat) (hW : W = 8 ∨ W = 16 ∨ W = 32) (A : Option Addr) (n c : Nat) (w : World) (hn : 65536 < n) :
    Calls Tryz.prog 146 #[.int .i64 W, .slice A n c] w fun e w' => e = .returned (.tuple #[.pointer none, .int .i64 4]) ∧ w = w' := by
  have d1 : decide (65536 < (n : Int)) = true := by simp; omega
  rcases hW with rfl | rfl | rfl
  all_goals (
    go_enter Tryz.func146, Tryz.ntmps146
    go_wp2_with fail
    go_ret2
    exact ⟨rfl, rfl⟩)
theorem own_low {α : Type} {w : World} {base base' e z : Nat} {enc : α → List Value} {v : Value} {l : List α} (h : Own w base e z enc v l) (hb : base' ≤ base) : Own w base' e z enc v l := by
  refine ⟨h.1, ?_⟩
  rcases h.2 with hn | ⟨g, cap, cur, hv, hbg, rest⟩
  · exact .inl hn
  · exact .inr ⟨g, cap, cur, hv, Nat.le_trans hb hbg, rest⟩
theorem grown_setP (x : World) (b o : Nat) (v : Value) : x.grownBy (x.setCell ⟨b, o, none⟩ v) (some b) :=
  ⟨(Below.refl 0 x |>.setCell (Nat.zero_le _) v).os, (Below.refl 0 x |>.setCell (Nat.zero_le _) v).tape, (Below.refl 0 x |>.setCell (Nat.zero_le _) v).output, (Below.refl 0 x |>.setCell (Nat.zero_le _) v).size, fun j _ hn => Below.heap_setCell x _ _ j (by simpa using hn)⟩
/-- The zero setup. -/
def stp0 : Stp := ⟨⟨0, 0, 0, 0, 0, 0, 0, 0, 0, 0, 0, 0, 0, 0, 0, 0, 0, 0⟩, 0, 0, 0, 0, 0, ⟨none, 0, [], none, 0, []⟩, ⟨none, 0, [], none, 0, []⟩, 0, 0, 0, 0, 0, 0, 0⟩
theorem StpAt.set {w : World} {b : Nat} {s s' : Stp} (j : Nat) (v : Value) (h : StpAt w b s) (hs : s.cs.setIfInBounds j v = s'.cs) : StpAt (w.setCell ⟨b, j, none⟩ v) b s' := by
  unfold StpAt
  rw [← hs]
  exact heap_setCell_same w b j _ _ v h
theorem StpAt.fr {w : World} {b : Nat} {s : Stp} (h : StpAt w b s) (j : Nat) : w.frozen? ⟨b, j, none⟩ = false := frozen_of_row w b j _ _ h
/-- A fraction's half in the setup: cloned, or as it was. -/
def Fld (w : World) (base : Nat) (d : Bool) (A : Option Addr) (c : Nat) (A0 : Option Addr) (c0 : Nat) (l : List Nat) : Prop := if d = true then Own w base 117 1 enc32 (.slice A l.length c) l else (A = A0 ∧ c = c0)
theorem Fld.no {w : World} {base : Nat} {A A0 : Option Addr} {c c0 : Nat} {l : List Nat} (h : Fld w base false A c A0 c0 l) : A = A0 ∧ c = c0 := h
theorem Fld.keep {w w' : World} {base g : Nat} {d : Bool} {A A0 : Option Addr} {c c0 : Nat} {l : List Nat} (h : Fld w base d A c A0 c0 l) (hg : w.grownBy w' (some g)) (hlt : g < base) : Fld w' base d A c A0 c0 l := by
  cases d
  · exact h
  · refine Own.keep (show Own w base 117 1 enc32 (.slice A l.length c) l from h) hg ?_
    cases hv : (Value.slice A l.length c).ownBlock with
    | none => exact .inl rfl
    | some x => exact .inr (by have := (World.ownsRow.lt (show Own w base 117 1 enc32 (.slice A l.length c) l from h) x hv).1; simp; omega)
theorem Fld.below {w w' : World} {base : Nat} {d : Bool} {A A0 : Option Addr} {c c0 : Nat} {l : List Nat} (h : Fld w base d A c A0 c0 l) (hb : Below w.heap.size w w') : Fld w' base d A c A0 c0 l := by
  cases d
  · exact h
  · exact Own.below (show Own w base 117 1 enc32 (.slice A l.length c) l from h) hb
theorem Fld.nt {w : World} {base : Nat} {A A0 : Option Addr} {c c0 : Nat} {l : List Nat} (h : Fld w base true A c A0 c0 l) (hd : Dig B32 l) : Nt w A c l := by
  obtain ⟨A', c', e, hn⟩ := own_nt (show Own w base 117 1 enc32 (.slice A l.length c) l from h) hd
  cases e; exact hn
/-- The setup in its box while its fractions are cloned, k of the four halves done. -/
structure KpAt (w : World) (b base k : Nat) (s s' : Stp) : Prop where
  at_ : StpAt w b s'
  kep : Kep s s'
  f0 : Fld w base (decide (0 < k)) s'.eps.A s'.eps.c s.eps.A s.eps.c s.eps.l
  f1 : Fld w base (decide (1 < k)) s'.eps.C s'.eps.d s.eps.C s.eps.d s.eps.m
  f2 : Fld w base (decide (2 < k)) s'.lim.A s'.lim.c s.lim.A s.lim.c s.lim.l
  f3 : Fld w base (decide (3 < k)) s'.lim.C s'.lim.d s.lim.C s.lim.d s.lim.m
theorem KpAt.below {w w' : World} {b base k : Nat} {s s' : Stp} (h : KpAt w b base k s s') (hb : Below w.heap.size w w') : KpAt w' b base k s s' := ⟨h.at_.on hb, h.kep, h.f0.below hb, h.f1.below hb, h.f2.below hb, h.f3.below hb⟩
def ptrs (b : Nat) : Array Value := #[.pointer (some ⟨b, 23, none⟩), .pointer (some ⟨b, 24, none⟩), .pointer (some ⟨b, 25, none⟩), .pointer (some ⟨b, 26, none⟩)]
set_option maxRecDepth 100000 in
set_option maxHeartbeats 8000000 in
theorem keep_any (s : Stp) (w : World) (h : s.In w) (hl : s.eps.l.length ≤ 1000 ∧ s.eps.m.length ≤ 1000 ∧ s.lim.l.length ≤ 1000 ∧ s.lim.m.length ≤ 1000) :
    Calls Tryz.prog 147 #[s.val] w fun e w' => ∃ s', e = .returned s'.val ∧ Kep s s' ∧ s'.In w' ∧ Below w.heap.size w w' := by
  have q0 := below_alloc (below_alloc (below_alloc (Below.refl w.heap.size w) (.cells s.cs 69)) (.cells stp0.cs 69)) (.cells (ptrs w.heap.size) 298)
  have At0 := ((StpAt.new w s).on (below_alloc (Below.refl _ _) (.cells stp0.cs 69))).on (below_alloc (Below.refl _ _) (.cells (ptrs w.heap.size) 298))
  have R0 := (StpAt.new (w.alloc (.cells s.cs 69)) stp0).on (below_alloc (Below.refl _ _) (.cells (ptrs w.heap.size) 298))
  have p0 : (((w.alloc (.cells s.cs 69)).alloc (.cells stp0.cs 69)).alloc (.cells (ptrs w.heap.size) 298)).heap[((w.alloc (.cells s.cs 69)).alloc (.cells stp0.cs 69)).heap.size]? = some (.cells (ptrs w.heap.size) 298 (0, 0)) := heap_alloc_new _ _
  have s1 : (w.alloc (.cells s.cs 69)).heap.size = w.heap.size + 1 := by simp
  have s2 : ((w.alloc (.cells s.cs 69)).alloc (.cells stp0.cs 69)).heap.size = w.heap.size + 1 + 1 := by simp
  rw [s1] at R0
  rw [s2] at p0
  clear s1 s2
  unfold Stp.val
  go_enter Tryz.func147, Tryz.ntmps147
  go_upto_region 2 with fail
  change Code.wp _ _ _ _ (((w.alloc (.cells s.cs 69)).alloc (.cells stp0.cs 69)).alloc (.cells (ptrs w.heap.size) 298))
  have kz : w.heap.size + 3 ≤ (((w.alloc (.cells s.cs 69)).alloc (.cells stp0.cs 69)).alloc (.cells (ptrs w.heap.size) 298)).heap.size := by simp
  obtain ⟨w1, hw1⟩ : ∃ w1, ((w.alloc (.cells s.cs 69)).alloc (.cells stp0.cs 69)).alloc (.cells (ptrs w.heap.size) 298) = w1 := ⟨_, rfl⟩
  rw [hw1] at q0 At0 R0 p0 kz ⊢
  clear hw1
  have K0 : KpAt w1 w.heap.size (w.heap.size + 3) 0 s s := ⟨At0, ⟨_, _, _, _, _, _, _, _, rfl⟩, by simp [Fld], by simp [Fld], by simp [Fld], by simp [Fld]⟩
  go_loopw [15] (fun i wr => ∃ (k : Nat) (s' : Stp), k ≤ 4 ∧ i = .int .i64 k ∧ KpAt wr w.heap.size (w.heap.size + 3) k s s' ∧ StpAt wr (w.heap.size + 1) stp0 ∧ wr.heap[w.heap.size + 1 + 1]? = some (.cells (ptrs w.heap.size) 298 (0, 0)) ∧ Below w.heap.size w wr ∧ w.heap.size + 3 ≤ wr.heap.size) (fun i _ => 4 - (intOf i).toNat)
  case atStart => exact ⟨0, s, by omega, rfl, K0, R0, p0, q0, kz⟩
  case round =>
    obtain ⟨k, s', hk, rfl, K, R, pz, hb, sz⟩ := hrel
    obtain ⟨w2, rfl⟩ : ∃ w2, w2 = wr := ⟨_, rfl⟩
    have hcl := hl
    rcases (show k = 0 ∨ k = 1 ∨ k = 2 ∨ k = 3 ∨ k = 4 by omega) with rfl | rfl | rfl | rfl | rfl
    · obtain ⟨eA, ec⟩ := Fld.no K.f0
      have y0 : w2.cell? ⟨w.heap.size + 1 + 1, 0, none⟩ = some (.pointer (some ⟨w.heap.size, 23, none⟩)) := cell_of_row w2 _ 0 _ _ _ pz
      have x0 : w2.cell? ⟨w.heap.size, 23, none⟩ = some (.slice s.eps.A s.eps.l.length s.eps.c) := by
        have hx : w2.cell? ⟨w.heap.size, 23, none⟩ = some (.slice s'.eps.A s'.eps.l.length s'.eps.c) := K.at_.c 23
        obtain ⟨_, _, _, _, _, _, _, _, hkp⟩ := K.kep
        rw [eA, ec] at hx
        rw [hx, hkp]
      have nt := (h.on hb).e.n
      have cC := Clone_nat s.eps.A s.eps.c s.eps.l w2 nt.arr nt.nil nt.len (by have := hl.1; omega)
      have K' := Lib.hid K; have R' := Lib.hid R; have P' := Lib.hid pz; have El := Lib.hid (And.intro eA ec)
      clear K R pz eA ec nt
      simp only [show ((0 : Nat) : Int) = 0 from rfl]
      go_wp2_with fail
      refine cC.mono ?_
      rintro e w3 ⟨v, rfl, ow, hb3⟩
      obtain ⟨A', c', rfl, _, _, _, _⟩ := ow.form enc32_len
      have K3 := K'.out.below hb3
      have x1 := bel_cell hb3 x0
      have f1 := K3.at_.fr 23
      clear cC x0 y0
      go_wp2_with fail
      have g := grown_setP w3 w.heap.size 23 (.slice A' s.eps.l.length c')
      obtain ⟨a1, b1, a2, b2, a3, b3, a4, b4, hkp⟩ := K3.kep
      refine ⟨⟨1, { s' with eps := { s'.eps with A := A', c := c' } }, by omega, rfl, ⟨K3.at_.set 23 _ ?_, ?_, ?_, ?_, ?_, ?_⟩, ?_, ?_, ?_, ?_⟩, by simp [intOf]⟩
      · subst hkp; rfl
      · subst hkp; exact ⟨_, _, _, _, _, _, _, _, rfl⟩
      · refine Own.keep (w := w3) (own_low (w := w3) ow (by omega)) g ?_
        cases A' with
        | none => exact .inl rfl
        | some a =>
          refine .inr ?_
          have h9 := (World.ownsRow.lt ow a.block rfl).1
          simp [Value.ownBlock]; omega
      · exact Fld.keep (w := w3) K3.f1 g (by omega)
      · exact Fld.keep (w := w3) K3.f2 g (by omega)
      · exact Fld.keep (w := w3) K3.f3 g (by omega)
      · exact (g.block _ (by have := hb3.size; omega) (by simp)).trans ((R'.out.on hb3))
      · exact (g.block _ (by have := hb3.size; omega) (by simp; omega)).trans ((hb3.block _ (by omega)).trans P'.out)
      · exact (below_trans hb hb3).setCell (Nat.le_refl _) _
      · have := hb3.size; have := g.size; omega
    · obtain ⟨eA, ec⟩ := Fld.no K.f1
      have y0 : w2.cell? ⟨w.heap.size + 1 + 1, 1, none⟩ = some (.pointer (some ⟨w.heap.size, 24, none⟩)) := cell_of_row w2 _ 1 _ _ _ pz
      have x0 : w2.cell? ⟨w.heap.size, 24, none⟩ = some (.slice s.eps.C s.eps.m.length s.eps.d) := by
        have hx : w2.cell? ⟨w.heap.size, 24, none⟩ = some (.slice s'.eps.C s'.eps.m.length s'.eps.d) := K.at_.c 24
        obtain ⟨_, _, _, _, _, _, _, _, hkp⟩ := K.kep
        rw [eA, ec] at hx
        rw [hx, hkp]
      have nt := (h.on hb).e.d
      have cC := Clone_nat s.eps.C s.eps.d s.eps.m w2 nt.arr nt.nil nt.len (by have := hl.2.1; omega)
      have K' := Lib.hid K; have R' := Lib.hid R; have P' := Lib.hid pz; have El := Lib.hid (And.intro eA ec)
      clear K R pz eA ec nt
      simp only [show ((1 : Nat) : Int) = 1 from rfl]
      go_wp2_with fail
      refine cC.mono ?_
      rintro e w3 ⟨v, rfl, ow, hb3⟩
      obtain ⟨A', c', rfl, _, _, _, _⟩ := ow.form enc32_len
      have K3 := K'.out.below hb3
      have x1 := bel_cell hb3 x0
      have f1 := K3.at_.fr 24
      clear cC x0 y0
      go_wp2_with fail
      have g := grown_setP w3 w.heap.size 24 (.slice A' s.eps.m.length c')
      obtain ⟨a1, b1, a2, b2, a3, b3, a4, b4, hkp⟩ := K3.kep
      refine ⟨⟨2, { s' with eps := { s'.eps with C := A', d := c' } }, by omega, rfl, ⟨K3.at_.set 24 _ ?_, ?_, ?_, ?_, ?_, ?_⟩, ?_, ?_, ?_, ?_⟩, by simp [intOf]⟩
      · subst hkp; rfl
      · subst hkp; exact ⟨_, _, _, _, _, _, _, _, rfl⟩
      · exact Fld.keep (w := w3) K3.f0 g (by omega)
      · refine Own.keep (w := w3) (own_low (w := w3) ow (by omega)) g ?_
        cases A' with
        | none => exact .inl rfl
        | some a =>
          refine .inr ?_
          have h9 := (World.ownsRow.lt ow a.block rfl).1
          simp [Value.ownBlock]; omega
      · exact Fld.keep (w := w3) K3.f2 g (by omega)
      · exact Fld.keep (w := w3) K3.f3 g (by omega)
      · exact (g.block _ (by have := hb3.size; omega) (by simp)).trans ((R'.out.on hb3))
      · exact (g.block _ (by have := hb3.size; omega) (by simp; omega)).trans ((hb3.block _ (by omega)).trans P'.out)
      · exact (below_trans hb hb3).setCell (Nat.le_refl _) _
      · have := hb3.size; have := g.size; omega
    · obtain ⟨eA, ec⟩ := Fld.no K.f2
      have y0 : w2.cell? ⟨w.heap.size + 1 + 1, 2, none⟩ = some (.pointer (some ⟨w.heap.size, 25, none⟩)) := cell_of_row w2 _ 2 _ _ _ pz
      have x0 : w2.cell? ⟨w.heap.size, 25, none⟩ = some (.slice s.lim.A s.lim.l.length s.lim.c) := by
        have hx : w2.cell? ⟨w.heap.size, 25, none⟩ = some (.slice s'.lim.A s'.lim.l.length s'.lim.c) := K.at_.c 25
        obtain ⟨_, _, _, _, _, _, _, _, hkp⟩ := K.kep
        rw [eA, ec] at hx
        rw [hx, hkp]
      have nt := (h.on hb).l.n
      have cC := Clone_nat s.lim.A s.lim.c s.lim.l w2 nt.arr nt.nil nt.len (by have := hl.2.2.1; omega)
      have K' := Lib.hid K; have R' := Lib.hid R; have P' := Lib.hid pz; have El := Lib.hid (And.intro eA ec)
      clear K R pz eA ec nt
      simp only [show ((2 : Nat) : Int) = 2 from rfl]
      go_wp2_with fail
      refine cC.mono ?_
      rintro e w3 ⟨v, rfl, ow, hb3⟩
      obtain ⟨A', c', rfl, _, _, _, _⟩ := ow.form enc32_len
      have K3 := K'.out.below hb3
      have x1 := bel_cell hb3 x0
      have f1 := K3.at_.fr 25
      clear cC x0 y0
      go_wp2_with fail
      have g := grown_setP w3 w.heap.size 25 (.slice A' s.lim.l.length c')
      obtain ⟨a1, b1, a2, b2, a3, b3, a4, b4, hkp⟩ := K3.kep
      refine ⟨⟨3, { s' with lim := { s'.lim with A := A', c := c' } }, by omega, rfl, ⟨K3.at_.set 25 _ ?_, ?_, ?_, ?_, ?_, ?_⟩, ?_, ?_, ?_, ?_⟩, by simp [intOf]⟩
      · subst hkp; rfl
      · subst hkp; exact ⟨_, _, _, _, _, _, _, _, rfl⟩
      · exact Fld.keep (w := w3) K3.f0 g (by omega)
      · exact Fld.keep (w := w3) K3.f1 g (by omega)
      · refine Own.keep (w := w3) (own_low (w := w3) ow (by omega)) g ?_
        cases A' with
        | none => exact .inl rfl
        | some a =>
          refine .inr ?_
          have h9 := (World.ownsRow.lt ow a.block rfl).1
          simp [Value.ownBlock]; omega
      · exact Fld.keep (w := w3) K3.f3 g (by omega)
      · exact (g.block _ (by have := hb3.size; omega) (by simp)).trans ((R'.out.on hb3))
      · exact (g.block _ (by have := hb3.size; omega) (by simp; omega)).trans ((hb3.block _ (by omega)).trans P'.out)
      · exact (below_trans hb hb3).setCell (Nat.le_refl _) _
      · have := hb3.size; have := g.size; omega
    · obtain ⟨eA, ec⟩ := Fld.no K.f3
      have y0 : w2.cell? ⟨w.heap.size + 1 + 1, 3, none⟩ = some (.pointer (some ⟨w.heap.size, 26, none⟩)) := cell_of_row w2 _ 3 _ _ _ pz
      have x0 : w2.cell? ⟨w.heap.size, 26, none⟩ = some (.slice s.lim.C s.lim.m.length s.lim.d) := by
        have hx : w2.cell? ⟨w.heap.size, 26, none⟩ = some (.slice s'.lim.C s'.lim.m.length s'.lim.d) := K.at_.c 26
        obtain ⟨_, _, _, _, _, _, _, _, hkp⟩ := K.kep
        rw [eA, ec] at hx
        rw [hx, hkp]
      have nt := (h.on hb).l.d
      have cC := Clone_nat s.lim.C s.lim.d s.lim.m w2 nt.arr nt.nil nt.len (by have := hl.2.2.2; omega)
      have K' := Lib.hid K; have R' := Lib.hid R; have P' := Lib.hid pz; have El := Lib.hid (And.intro eA ec)
      clear K R pz eA ec nt
      simp only [show ((3 : Nat) : Int) = 3 from rfl]
      go_wp2_with fail
      refine cC.mono ?_
      rintro e w3 ⟨v, rfl, ow, hb3⟩
      obtain ⟨A', c', rfl, _, _, _, _⟩ := ow.form enc32_len
      have K3 := K'.out.below hb3
      have x1 := bel_cell hb3 x0
      have f1 := K3.at_.fr 26
      clear cC x0 y0
      go_wp2_with fail
      have g := grown_setP w3 w.heap.size 26 (.slice A' s.lim.m.length c')
      obtain ⟨a1, b1, a2, b2, a3, b3, a4, b4, hkp⟩ := K3.kep
      refine ⟨⟨4, { s' with lim := { s'.lim with C := A', d := c' } }, by omega, rfl, ⟨K3.at_.set 26 _ ?_, ?_, ?_, ?_, ?_, ?_⟩, ?_, ?_, ?_, ?_⟩, by simp [intOf]⟩
      · subst hkp; rfl
      · subst hkp; exact ⟨_, _, _, _, _, _, _, _, rfl⟩
      · exact Fld.keep (w := w3) K3.f0 g (by omega)
      · exact Fld.keep (w := w3) K3.f1 g (by omega)
      · exact Fld.keep (w := w3) K3.f2 g (by omega)
      · refine Own.keep (w := w3) (own_low (w := w3) ow (by omega)) g ?_
        cases A' with
        | none => exact .inl rfl
        | some a =>
          refine .inr ?_
          have h9 := (World.ownsRow.lt ow a.block rfl).1
          simp [Value.ownBlock]; omega
      · exact (g.block _ (by have := hb3.size; omega) (by simp)).trans ((R'.out.on hb3))
      · exact (g.block _ (by have := hb3.size; omega) (by simp; omega)).trans ((hb3.block _ (by omega)).trans P'.out)
      · exact (below_trans hb hb3).setCell (Nat.le_refl _) _
      · have := hb3.size; have := g.size; omega
    · have At4 := K.at_
      have hsz : (Tryz.prog.info? 69).map (·.size) = some s'.cs.size := (show (Tryz.prog.info? 69).map (·.size) = some 34 by kernel_rfl)
      go_wp2_with (first | (refine wpList_load_at 69 _ rfl w.heap.size 0 rfl s'.cs _ (fun j v hv => by rw [Nat.zero_add]; exact (At4.c j).trans hv) Tryz.underlying69 rfl hsz (by rfl) ?_) | (refine wpList_store_row rfl 69 _ _ rfl (w.heap.size + 1) s'.cs (by kernel_rfl) (by kernel_rfl) 69 stp0.cs R hsz (by kernel_rfl) (by kernel_rfl) ?_))
      have gr := grown_setRow w2 (w.heap.size + 1) s'.cs
      have rh := setRow_heap w2 (w.heap.size + 1) _ s'.cs _ (0, 0) R
      obtain ⟨a1, b1, a2, b2, a3, b3, a4, b4, hkp⟩ := K.kep
      refine bodyPost_ret (v := .agg s'.cs) ?_ rfl ⟨s', rfl, K.kep, ?_, hb.grown gr hb.size (fun k hk => by cases hk; omega)⟩
      · exact results_cell_row rfl _ _ (w.heap.size + 1) 69 s'.cs (0, 0) _ (by rfl) rh Tryz.underlying69 rfl hsz
      · have g0 := (K.f0.keep gr (by omega)).nt h.e.n.dig
        have g1 := (K.f1.keep gr (by omega)).nt h.e.d.dig
        have g2 := (K.f2.keep gr (by omega)).nt h.l.n.dig
        have g3 := (K.f3.keep gr (by omega)).nt h.l.d.dig
        subst hkp
        exact ⟨⟨g0, g1⟩, ⟨g2, g3⟩⟩

end Go.Proofs.YtfolgmcoggejbaaGreat
