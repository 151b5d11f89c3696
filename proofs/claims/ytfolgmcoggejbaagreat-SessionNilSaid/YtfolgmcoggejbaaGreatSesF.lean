/- A station in memory; contracts of NewStation of both sides. For any setup, side and pool of at most 100000 bits. -/
import Derived.Test.YtfolgmcoggejbaaGreatSesE
namespace Go.Proofs.YtfolgmcoggejbaaGreat
open Go.RowKit
set_option linter.unusedVariables false
set_option linter.unusedSimpArgs false

/-- What a station has in a session. -/
structure Wrk where
  phase : Int
  reason : Int
  pulses : Value
  clicks : Value
  wait : Value
  sent : Value
  took : Value
  waited : Int
  ledger : Value
  shift : Int
  kept : Value
  slots : Value
  decoys : Value
  block : Value
  n : Int
  t : Int
  course : Value
  has : Bool
def wrk0 : Wrk := ⟨0, 0, .slice none 0 0, .slice none 0 0, .slice none 0 0, .pointer none, .pointer none, 0, .slice none 0 0, 0, .slice none 0 0, .slice none 0 0, .slice none 0 0, .slice none 0 0, 0, 0, .pointer none, false⟩
def Wrk.cs (k : Wrk) : Array Value := #[.int .i64 k.phase, .int .i64 k.reason, k.pulses, k.clicks, k.wait, k.sent, k.took, .int .i64 k.waited, k.ledger, .int .i64 k.shift, k.kept, k.slots, k.decoys, k.block, .int .i64 k.n, .int .i64 k.t, k.course, .bool k.has]
/-- A station. -/
structure Sta where
  s : Stp
  side : Int
  pool : Nat
  recs : Value
  last : Int
  k : Wrk
def Sta.cs (x : Sta) : Array Value := #[.bool true, .int .i64 x.s.o.k, .int .i64 x.s.o.c0, .int .i64 x.s.o.c1, .int .i64 x.s.o.c2, .int .i64 x.s.o.v0, .int .i64 x.s.o.v1, .int .i64 x.s.o.v2, .int .i64 x.s.o.v3, .int .i64 x.s.o.w0, .int .i64 x.s.o.w1, .int .i64 x.s.o.w2, .int .i64 x.s.o.w3, .int .i64 x.s.o.s0, .int .i64 x.s.o.s1, .int .i64 x.s.o.s2, .int .i64 x.s.o.s3, .int .i64 x.s.o.eta, .int .i64 x.s.o.dark, .int .i64 x.s.slots, .int .i64 x.s.head, .int .i64 x.s.need, .int .i64 x.s.block, .int .i64 x.s.sample, .slice x.s.eps.A x.s.eps.l.length x.s.eps.c, .slice x.s.eps.C x.s.eps.m.length x.s.eps.d, .slice x.s.lim.A x.s.lim.l.length x.s.lim.c, .slice x.s.lim.C x.s.lim.m.length x.s.lim.d, .int .i64 x.s.passes, .int .i64 x.s.pblk, .int .u64 x.s.pseed, .int .i64 x.s.width, .int .i64 x.s.margin, .int .i64 x.s.tries, .int .u64 x.s.seed, .int .i64 x.side, .pointer (some ⟨x.pool, 0, none⟩), x.recs, .int .i64 x.last, .int .i64 x.k.phase, .int .i64 x.k.reason, x.k.pulses, x.k.clicks, x.k.wait, x.k.sent, x.k.took, .int .i64 x.k.waited, x.k.ledger, .int .i64 x.k.shift, x.k.kept, x.k.slots, x.k.decoys, x.k.block, .int .i64 x.k.n, .int .i64 x.k.t, x.k.course, .bool x.k.has]
def StaAt (w : World) (b : Nat) (x : Sta) : Prop := w.heap[b]? = some (.cells x.cs 82 (0, 0))
theorem StaAt.on {w w' : World} {b : Nat} {x : Sta} (h : StaAt w b x) (hb : Below w.heap.size w w') : StaAt w' b x :=
  (hb.block b (Array.getElem?_eq_some_iff.1 h).1).trans h
theorem StaAt.new (w : World) (x : Sta) : StaAt (w.alloc (.cells x.cs 82)) w.heap.size x := heap_alloc_new w _
theorem StaAt.c {w : World} {b : Nat} {x : Sta} (h : StaAt w b x) (j : Nat) : w.cell? ⟨b, j, none⟩ = x.cs[j]? := cell_of_row w b j _ _ _ h
theorem StaAt.set {w : World} {b : Nat} {x x' : Sta} (j : Nat) (v : Value) (h : StaAt w b x) (hs : x.cs.setIfInBounds j v = x'.cs) : StaAt (w.setCell ⟨b, j, none⟩ v) b x' := by
  unfold StaAt
  rw [← hs]
  exact heap_setCell_same w b j _ _ v h
theorem StaAt.fr {w : World} {b : Nat} {x : Sta} (h : StaAt w b x) (j : Nat) : w.frozen? ⟨b, j, none⟩ = false := frozen_of_row w b j _ _ h

theorem wpList_buildAs {P : Program} {ops : Array Oper} {rest : List Oper} {o : Oper} {a : Act} {w : World} {Q : Exit → Act → World → Prop} (hgd : o.guard = none) (ty : TypeId) (parts : Array (Nat × Operand)) (ho : o.op = .build ty parts)
    (vals : Array (Nat × Value)) (hv : (parts.map fun p => (p.1, a.eval p.2)) = vals) (cs : Array Value) (hc : P.built ty vals.toList = some cs) (h : wpList P ops Q rest (a.put o.dst (.agg cs)) w) : wpList P ops Q (o :: rest) a w :=
  wpList_plain hgd fun K hK => by
    unfold Oper.wp execOp
    simp only [ho, Sem.run_bind]
    have e : (parts.map fun (i, x) => (i, a.eval x)) = vals := hv
    rw [e, run_build w ty vals cs hc]
    simp only [Sem.run_pure, Result.andThen_ok]
    exact hK _ _ h
def nsE (s : Stp) (side : Int) (n : Nat) : Int := if (stpE s == 0 && betwB side 0 1) = true then (if 65536 < n then 4 else 0) else 2
/-- What NewStation leaves. -/
structure Made (w w' : World) (b : Nat) (s s' : Stp) (side : Int) (W pb nb mb : Nat) (l : List Bool) : Prop where
  at_ : StaAt w' b ⟨s', side, pb, .slice none 0 0, 0, wrk0⟩
  kep : Kep s s'
  wid : s.width = (W : Int)
  lo : w.heap.size ≤ b ∧ w.heap.size ≤ pb ∧ w.heap.size ≤ nb ∧ w.heap.size ≤ mb
  low : ∃ y : World, y.heap.size = b ∧ PoolAt y pb nb mb W l [] ∧ s'.In y ∧ Below y.heap.size y w'
def NsR (w w' : World) (s : Stp) (side : Int) (l : List Bool) (e : Ending) : Prop :=
  ∃ v, e = .returned (.tuple #[v, .int .i64 (nsE s side l.length)]) ∧ Below w.heap.size w w' ∧
    (nsE s side l.length = 0 → ∃ b s' W pb nb mb, v = .pointer (some ⟨b, 0, none⟩) ∧ Made w w' b s s' side W pb nb mb l) ∧ (nsE s side l.length ≠ 0 → v = .pointer none)
theorem stp_wide {s : Stp} (h : stpE s = 0) : ∃ W : Nat, s.width = (W : Int) ∧ (W = 8 ∨ W = 16 ∨ W = 32) := by
  have hb : stpB s = true := by unfold stpE at h; split at h <;> simp_all
  unfold stpB restB at hb
  simp only [Bool.and_eq_true] at hb
  rcases (show s.width = 8 ∨ s.width = 16 ∨ s.width = 32 by have := hb.2.2.1.2.1; unfold wideB at this; simp at this; omega) with h | h | h
  · exact ⟨8, h, .inl rfl⟩
  · exact ⟨16, h, .inr (.inl rfl)⟩
  · exact ⟨32, h, .inr (.inr rfl)⟩

set_option maxRecDepth 100000 in
set_option maxHeartbeats 8000000 in
theorem NewStation_any (s : Stp) (side : Int) (A : Option Addr) (c : Nat) (l : List Bool) (w : World) (h : s.In w) (hA : Arr 1 encB w w.heap.size A l) (nA : A = none → c = 0) (hl : l.length ≤ c) (hc : c ≤ maxLen) (hl2 : l.length ≤ 100000)
    (hf : s.eps.l.length ≤ 1000 ∧ s.eps.m.length ≤ 1000 ∧ s.lim.l.length ≤ 1000 ∧ s.lim.m.length ≤ 1000) :
    Calls Tryz.prog 93 #[s.val, .int .i64 side, .slice A l.length c] w fun e w' => NsR w w' s side l e := by
  have q0 := below_alloc (Below.refl w.heap.size w) (.cells s.cs 69)
  have At0 := StpAt.new w s
  have hsz : (Tryz.prog.info? 69).map (·.size) = some s.cs.size := (show (Tryz.prog.info? 69).map (·.size) = some 34 by kernel_rfl)
  have cO := fun w' (hb : Below w.heap.size w w') => oStp_any s w' (h.on hb)
  have hE : Hid (nsE s side l.length = if (stpE s == 0 && betwB side 0 1) = true then (if 65536 < l.length then 4 else 0) else 2) := Lib.hid rfl
  obtain ⟨E, hEq⟩ : ∃ E, stpE s = E := ⟨_, rfl⟩
  have hwd : Hid (E = 0 → ∃ W : Nat, s.width = (W : Int) ∧ (W = 8 ∨ W = 16 ∨ W = 32)) := Lib.hid (fun h0 => stp_wide (hEq.trans h0))
  rw [hEq] at hE
  simp only [hEq] at cO
  have fin2 : ∀ w' v, nsE s side l.length = 2 → Below w.heap.size w w' → v = Value.pointer none → NsR w w' s side l (.returned (.tuple #[v, .int .i64 2])) := fun w' v h2 hb hv => ⟨v, by rw [h2], hb, fun h0 => absurd (h2.symm.trans h0) (by decide), fun _ => hv⟩
  have fin4 : ∀ w' v, nsE s side l.length = 4 → Below w.heap.size w w' → v = Value.pointer none → NsR w w' s side l (.returned (.tuple #[v, .int .i64 4])) := fun w' v h2 hb hv => ⟨v, by rw [h2], hb, fun h0 => absurd (h2.symm.trans h0) (by decide), fun _ => hv⟩
  have Fin2 := Lib.hid fin2; have Fin4 := Lib.hid fin4
  clear hEq fin2 fin4
  unfold Stp.val at cO ⊢
  go_enter Tryz.func93, Tryz.ntmps93
  go_upto_region 1 with fail
  obtain ⟨w1, hw1⟩ : ∃ w1, w.alloc (.cells s.cs 69) = w1 := ⟨_, rfl⟩
  have sz1 : w.heap.size < w1.heap.size := by rw [← hw1]; simp
  rw [hw1] at q0 At0 ⊢
  clear hw1
  go_wp2_with (refine wpList_load_at 69 _ rfl w.heap.size 0 rfl s.cs _ (fun j v hv => by rw [Nat.zero_add]; exact (At0.c j).trans hv) Tryz.underlying69 rfl hsz (by rfl) ?_)
  refine (cO _ q0).mono ?_
  rintro e w2 ⟨rfl, hb2⟩
  have At2 := At0.on hb2
  have q2 := below_trans q0 hb2
  by_cases e0 : E = 0
  case neg =>
    have g1 : (E != 0) = true := by simpa using e0
    have g2 := Lib.hid (show nsE s side l.length = 2 by rw [hE.out, show (E == 0) = false by simpa using e0]; rfl)
    clear e0
    go_wp2_with fail
    go_ret2
    exact Fin2.out _ _ g2.out q2 rfl
  subst e0
  cases c1 : betwB side 0 1
  · go_wp2_with (go_at_call 61; refine (ssane_any _ _ _ _).mono ?_; rintro e w' ⟨rfl, rfl⟩; rw [c1])
    go_ret2
    exact Fin2.out _ _ (by rw [hE.out, c1]; rfl) q2 rfl
  obtain ⟨W, hW, hW3⟩ := hwd.out rfl
  have x30 : w2.cell? ⟨w.heap.size, 30, none⟩ = some (.int .i64 (W : Int)) := by rw [← hW]; exact At2.c 30
  by_cases hlong : 65536 < l.length
  · have cP := fun w' => NewPool_long W hW3 A l.length c w' hlong
    have HL := Lib.hid (show nsE s side l.length = 4 by rw [hE.out, c1]; simp [hlong])
    clear hlong hW3
    go_wp2_with (first | (go_at_call 61; refine (ssane_any _ _ _ _).mono ?_; rintro e w' ⟨rfl, rfl⟩; rw [c1]) | (go_at_call 146; refine (cP _).mono ?_; rintro e w' ⟨rfl, rfl⟩))
    go_ret2
    exact Fin4.out _ _ HL.out q2 rfl
  have cP := NewPool_any W hW3 A c l w2 (hA.on q2) nA hl hc (by omega)
  have HL := Lib.hid (show nsE s side l.length = 0 by rw [hE.out, c1, if_neg hlong]; rfl)
  clear hlong
  go_wp2_with (first | (go_at_call 61; refine (ssane_any _ _ _ _).mono ?_; rintro e w' ⟨rfl, rfl⟩; rw [c1]))
  refine cP.mono ?_
  rintro e w3 ⟨pb, nb, mb, rfl, pool, l1, l2, l3, l4, hb3⟩
  have At3 := At2.on hb3
  have q3 := below_trans q2 hb3
  clear cP x30 l4
  go_wp2_with (refine wpList_load_at 69 _ rfl w.heap.size 0 rfl s.cs _ (fun j v hv => by rw [Nat.zero_add]; exact (At3.c j).trans hv) Tryz.underlying69 rfl hsz (by rfl) ?_)
  refine (keep_any s w3 (h.on q3) hf).mono ?_
  rintro e w4 ⟨s', rfl, kep, in4, hb4⟩
  have q4 := below_trans q3 hb4
  unfold Stp.val
  go_wp2_with (first | (refine wpList_buildAs rfl 73 _ rfl #[(0, .pointer (some ⟨pb, 0, none⟩))] (by kernel_rfl) #[.pointer (some ⟨pb, 0, none⟩), .slice none 0 0, .int .i64 0] (by kernel_rfl) ?_) | (refine wpList_buildAs rfl 82 _ rfl #[(0, .bool true), (1, .agg s'.cs), (2, .int .i64 side), (3, .agg #[.pointer (some ⟨pb, 0, none⟩), .slice none 0 0, .int .i64 0])] (by kernel_rfl) (Sta.mk s' side pb (.slice none 0 0) 0 wrk0).cs (by kernel_rfl) ?_))
  go_ret2
  exact ⟨.pointer (some ⟨w4.heap.size, 0, none⟩), by rw [HL.out]; rfl, below_alloc q4 _, fun _ => ⟨w4.heap.size, s', W, pb, nb, mb, rfl, ⟨StaAt.new w4 _, kep, hW, ⟨q4.size, Nat.le_trans q2.size l1, Nat.le_trans q2.size l2, Nat.le_trans q2.size l3⟩, ⟨w4, rfl, pool.on hb4, in4, below_alloc (Below.refl _ _) _⟩⟩⟩, fun hn => absurd HL.out hn⟩

/-- The cells of a new station of the reference. -/
def rstCs (s : Stp) (side : Int) (p : Value) : Array Value := #[.int .i64 s.o.k, .int .i64 s.o.c0, .int .i64 s.o.c1, .int .i64 s.o.c2, .int .i64 s.o.v0, .int .i64 s.o.v1, .int .i64 s.o.v2, .int .i64 s.o.v3, .int .i64 s.o.w0, .int .i64 s.o.w1, .int .i64 s.o.w2, .int .i64 s.o.w3, .int .i64 s.o.s0, .int .i64 s.o.s1, .int .i64 s.o.s2, .int .i64 s.o.s3, .int .i64 s.o.eta, .int .i64 s.o.dark, .int .i64 s.slots, .int .i64 s.head, .int .i64 s.need, .int .i64 s.block, .int .i64 s.sample, .slice s.eps.A s.eps.l.length s.eps.c, .slice s.eps.C s.eps.m.length s.eps.d, .slice s.lim.A s.lim.l.length s.lim.c, .slice s.lim.C s.lim.m.length s.lim.d, .int .i64 s.passes, .int .i64 s.pblk, .int .u64 s.pseed, .int .i64 s.width, .int .i64 s.margin, .int .i64 s.tries, .int .u64 s.seed, .int .i64 side, p, .slice none 0 0, .slice none 0 0, .int .i64 0, .int .i64 0, .int .i64 0, .slice none 0 0, .slice none 0 0, .slice none 0 0, .slice none 0 0, .slice none 0 0, .int .i64 0, .slice none 0 0, .int .i64 0, .slice none 0 0, .slice none 0 0, .slice none 0 0, .slice none 0 0, .int .i64 0, .int .i64 0, .slice none 0 0, .bool false]
/-- Whatever the reference's NewStation leaves. -/
def RnR (w w' : World) (s : Stp) (side : Int) (n : Nat) (e : Ending) : Prop :=
  ∃ v, e = .returned (.tuple #[v, .int .i64 (nsE s side n)]) ∧ Below w.heap.size w w' ∧ (∃ p, v = .pointer p)
end Go.Proofs.YtfolgmcoggejbaaGreat
