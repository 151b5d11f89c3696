/- Contracts of NewPair of both sides. For any setup and rules, and pools of at most 100000 bits. -/
import Derived.Test.YthcjlfnkpmeonaaSesF
import Derived.Test.YthcjlfnkpmeonaaRulB
namespace Go.Proofs.Ythcjlfnkpmeonaa
open Go.RowKit
set_option linter.unusedVariables false
set_option linter.unusedSimpArgs false

/-- A pair of stations. -/
structure Par where
  s : Stp
  rules : Value
  light : Nat
  x0 : Value
  x1 : Value
  way : Value
  f0 : Value
  f1 : Value
  f2 : Value
  shift : Int
def Par.cs (x : Par) : Array Value := #[.bool true, .int .i64 x.s.o.k, .int .i64 x.s.o.c0, .int .i64 x.s.o.c1, .int .i64 x.s.o.c2, .int .i64 x.s.o.v0, .int .i64 x.s.o.v1, .int .i64 x.s.o.v2, .int .i64 x.s.o.v3, .int .i64 x.s.o.w0, .int .i64 x.s.o.w1, .int .i64 x.s.o.w2, .int .i64 x.s.o.w3, .int .i64 x.s.o.s0, .int .i64 x.s.o.s1, .int .i64 x.s.o.s2, .int .i64 x.s.o.s3, .int .i64 x.s.o.eta, .int .i64 x.s.o.dark, .int .i64 x.s.slots, .int .i64 x.s.head, .int .i64 x.s.need, .int .i64 x.s.block, .int .i64 x.s.sample, .slice x.s.eps.A x.s.eps.l.length x.s.eps.c, .slice x.s.eps.C x.s.eps.m.length x.s.eps.d, .slice x.s.lim.A x.s.lim.l.length x.s.lim.c, .slice x.s.lim.C x.s.lim.m.length x.s.lim.d, .int .i64 x.s.passes, .int .i64 x.s.pblk, .int .u64 x.s.pseed, .int .i64 x.s.width, .int .i64 x.s.margin, .int .i64 x.s.tries, .int .u64 x.s.seed, x.rules, .int .u64 x.light, x.x0, x.x1, x.way, x.f0, x.f1, x.f2, .int .i64 x.shift]
def ParAt (w : World) (b : Nat) (x : Par) : Prop := w.heap[b]? = some (.cells x.cs 104 (0, 0))
theorem ParAt.on {w w' : World} {b : Nat} {x : Par} (h : ParAt w b x) (hb : Below w.heap.size w w') : ParAt w' b x :=
  (hb.block b (Array.getElem?_eq_some_iff.1 h).1).trans h
theorem ParAt.new (w : World) (x : Par) : ParAt (w.alloc (.cells x.cs 104)) w.heap.size x := heap_alloc_new w _
theorem ParAt.c {w : World} {b : Nat} {x : Par} (h : ParAt w b x) (j : Nat) : w.cell? ⟨b, j, none⟩ = x.cs[j]? := cell_of_row w b j _ _ _ h
theorem ParAt.set {w : World} {b : Nat} {x x' : Par} (j : Nat) (v : Value) (h : ParAt w b x) (hs : x.cs.setIfInBounds j v = x'.cs) : ParAt (w.setCell ⟨b, j, none⟩ v) b x' := by
  unfold ParAt
  rw [← hs]
  exact heap_setCell_same w b j _ _ v h
theorem ParAt.fr {w : World} {b : Nat} {x : Par} (h : ParAt w b x) (j : Nat) : w.frozen? ⟨b, j, none⟩ = false := frozen_of_row w b j _ _ h
theorem StpAt.on2 {w : World} {b B j : Nat} {s : Stp} {v : Value} (h : StpAt w b s) (hb : b < B) : StpAt (w.setCell ⟨B, j, none⟩ v) b s :=
  (heap_setCell_other w ⟨B, j, none⟩ b v (by simp; omega)).trans h
def npE (s : Stp) (l : List Rul) (n : Nat) : Int := if stpE s ≠ 0 then stpE s else if rulesE l ≠ 0 then rulesE l else if 65536 < n then 4 else 0
def NpR (w w' : World) (s : Stp) (r : List Rul) (n : Nat) (e : Ending) : Prop :=
  ∃ v, e = .returned (.tuple #[v, .int .i64 (npE s r n)]) ∧ Below w.heap.size w w' ∧ (npE s r n = 0 → ∃ b, v = .pointer (some ⟨b, 0, none⟩)) ∧ (npE s r n ≠ 0 → v = .pointer none)
theorem npR_bad {w w' : World} {s : Stp} {r : List Rul} {n : Nat} {E : Int} (h : npE s r n = E) (hE : E ≠ 0) (hb : Below w.heap.size w w') : NpR w w' s r n (.returned (.tuple #[.pointer none, .int .i64 E])) :=
  ⟨_, by rw [h], hb, fun h0 => absurd (h.symm.trans h0) hE, fun _ => rfl⟩
theorem nsE_short {s : Stp} {k : Int} {n : Nat} (h : stpE s = 0) (hk : betwB k 0 1 = true) (hn : ¬ 65536 < n) : nsE s k n = 0 := by unfold nsE; rw [h, hk, if_neg hn]; rfl
theorem nsE_long {s : Stp} {k : Int} {n : Nat} (h : stpE s = 0) (hk : betwB k 0 1 = true) (hn : 65536 < n) : nsE s k n = 4 := by unfold nsE; rw [h, hk, if_pos hn]; rfl
theorem stpE_cases (s : Stp) : stpE s = 0 ∨ stpE s = 2 := by unfold stpE; split <;> simp

set_option maxRecDepth 100000 in
set_option maxHeartbeats 16000000 in
theorem NewPair_any (s : Stp) (R : Option Addr) (cr : Nat) (r : List Rul) (A : Option Addr) (c : Nat) (l : List Bool) (light : Nat) (w : World) (h : s.In w) (hR : Arr 5 Rul.enc w w.heap.size R r) (nR : R = none → cr = 0) (hr : r.length ≤ cr) (hr2 : r.length ≤ 100000)
    (hA : Arr 1 encB w w.heap.size A l) (nA : A = none → c = 0) (hl : l.length ≤ c) (hc : c ≤ maxLen) (hl2 : l.length ≤ 100000)
    (hf : s.eps.l.length ≤ 1000 ∧ s.eps.m.length ≤ 1000 ∧ s.lim.l.length ≤ 1000 ∧ s.lim.m.length ≤ 1000) :
    Calls Try.prog 13 #[s.val, .slice R r.length cr, .slice A l.length c, .int .u64 (light : Int)] w fun e w' => NpR w w' s r l.length e := by
  have q0 := below_alloc (Below.refl w.heap.size w) (.cells s.cs 35)
  have At0 := StpAt.new w s
  have hsz : (Try.prog.info? 35).map (·.size) = some s.cs.size := (show (Try.prog.info? 35).map (·.size) = some 34 by kernel_rfl)
  have cO := fun w' (hb : Below w.heap.size w w') => oStp_any s w' (h.on hb)
  have cR := fun w' (hb : Below w.heap.size w w') => oRules_any R cr r w' (hR.on hb) (by omega)
  have cN := fun w' (hb : Below w.heap.size w w') (k : Int) => NewStation_any s k A c l w' (h.on hb) (hA.on hb) nA hl hc hl2 hf
  have cC := fun w' (hb : Below w.heap.size w w') => Clone_rule R cr r w' (hR.on hb) nR hr (by omega)
  have cK := fun w' (hb : Below w.heap.size w w') => keep_any s w' (h.on hb) hf
  have hE : Hid (npE s r l.length = if stpE s ≠ 0 then stpE s else if rulesE r ≠ 0 then rulesE r else if 65536 < l.length then 4 else 0) := Lib.hid rfl
  have nS := Lib.hid (fun (k : Int) (h0 : stpE s = 0) (hk : betwB k 0 1 = true) (hn : ¬ 65536 < l.length) => nsE_short (n := l.length) h0 hk hn)
  have nL := Lib.hid (fun (k : Int) (h0 : stpE s = 0) (hk : betwB k 0 1 = true) (hn : 65536 < l.length) => nsE_long (n := l.length) h0 hk hn)
  have hes := stpE_cases s
  obtain ⟨F, hF⟩ : ∃ F, rulesE r = F := ⟨_, rfl⟩
  rw [hF] at hE
  simp only [hF] at cR
  clear hF
  unfold Stp.val at cO cN cK ⊢
  go_enter Try.func13, Try.ntmps13
  go_upto_region 1 with fail
  obtain ⟨w1, hw1⟩ : ∃ w1, w.alloc (.cells s.cs 35) = w1 := ⟨_, rfl⟩
  rw [hw1] at q0 At0 ⊢
  clear hw1
  go_wp2_with (refine wpList_load_at 35 _ rfl w.heap.size 0 rfl s.cs _ (fun j v hv => by rw [Nat.zero_add]; exact (At0.c j).trans hv) Try.underlying35 rfl hsz (by rfl) ?_)
  refine (cO _ q0).mono ?_
  rintro e w2 ⟨rfl, hb2⟩
  have At2 := At0.on hb2
  have q2 := below_trans q0 hb2
  rcases hes with e0 | e0
  case inr =>
    rw [e0]
    have g2 := Lib.hid (show npE s r l.length = 2 by rw [hE.out, e0]; rfl)
    clear e0
    go_wp2_with fail
    go_ret2
    exact npR_bad g2.out (by decide) q2
  rw [e0]
  have E0 := Lib.hid e0
  have hE2 : Hid (npE s r l.length = if F ≠ 0 then F else if 65536 < l.length then 4 else 0) := Lib.hid (by rw [hE.out, e0]; rfl)
  clear e0 hE
  go_wp2_with fail
  refine (cR _ q2).mono ?_
  rintro e w3 ⟨rfl, hb3⟩
  have At3 := At2.on hb3
  have q3 := below_trans q2 hb3
  by_cases f0 : F = 0
  case neg =>
    have g1 : (F != 0) = true := by simpa using f0
    have g2 := Lib.hid (show npE s r l.length = F by rw [hE2.out, if_pos f0])
    have g3 := Lib.hid f0
    clear f0
    go_wp2_with fail
    go_ret2
    exact npR_bad g2.out g3.out q3
  subst f0
  go_wp2_with (refine wpList_load_at 35 _ rfl w.heap.size 0 rfl s.cs _ (fun j v hv => by rw [Nat.zero_add]; exact (At3.c j).trans hv) Try.underlying35 rfl hsz (by rfl) ?_)
  refine (cK _ q3).mono ?_
  rintro e w4 ⟨s', rfl, kep, in4, hb4⟩
  have At4 := At3.on hb4
  have q4 := below_trans q3 hb4
  go_wp2_with fail
  refine (cC _ q4).mono ?_
  rintro e w5 ⟨vr, rfl, owr, hb5⟩
  have At5 := At4.on hb5
  have q5 := below_trans q4 hb5
  obtain ⟨Ar, kr, rfl, -, -, -, -⟩ := owr.form Rul.enc_len
  clear owr in4 kep
  go_upto_region 8 with (refine wpList_buildAs rfl 104 _ rfl #[(0, .bool true), (1, .agg s'.cs), (2, .slice Ar r.length kr), (3, .int .u64 (light : Int))] (by kernel_rfl) (Par.mk s' (.slice Ar r.length kr) light (.pointer none) (.pointer none) (.slice none 0 0) (.slice none 0 0) (.slice none 0 0) (.slice none 0 0) 0).cs (by kernel_rfl) ?_)
  have q6 := below_alloc q5 (.cells (Par.mk s' (.slice Ar r.length kr) light (.pointer none) (.pointer none) (.slice none 0 0) (.slice none 0 0) (.slice none 0 0) (.slice none 0 0) 0).cs 104)
  have At6 := At5.on (below_alloc (Below.refl _ _) (.cells (Par.mk s' (.slice Ar r.length kr) light (.pointer none) (.pointer none) (.slice none 0 0) (.slice none 0 0) (.slice none 0 0) (.slice none 0 0) 0).cs 104))
  have P6 := ParAt.new w5 (Par.mk s' (.slice Ar r.length kr) light (.pointer none) (.pointer none) (.slice none 0 0) (.slice none 0 0) (.slice none 0 0) (.slice none 0 0) 0)
  obtain ⟨B, hB⟩ : ∃ B, w5.heap.size = B := ⟨_, rfl⟩
  have hwB : w.heap.size < B := by rw [← hB]; exact Nat.lt_of_lt_of_le (Array.getElem?_eq_some_iff.1 At5).1 (Nat.le_refl _)
  obtain ⟨w6, hw6⟩ : ∃ w6, w5.alloc (.cells (Par.mk s' (.slice Ar r.length kr) light (.pointer none) (.pointer none) (.slice none 0 0) (.slice none 0 0) (.slice none 0 0) (.slice none 0 0) 0).cs 104) = w6 := ⟨_, rfl⟩
  rw [hw6] at q6 At6 P6 ⊢
  rw [hB] at P6 ⊢
  clear hw6 hB
  go_wp2_with fail
  go_loopw [33] (fun i wr => ∃ (k : Nat) (x : Par), k ≤ 2 ∧ i = .int .i64 k ∧ ParAt wr B x ∧ StpAt wr w.heap.size s ∧ Below w.heap.size w wr ∧ (0 < k → ¬ 65536 < l.length)) (fun i _ => 2 - (intOf i).toNat)
  case atStart => exact ⟨0, _, by omega, rfl, P6, At6, q6, fun h => absurd h (by decide)⟩
  case round =>
    obtain ⟨k, x, hk, rfl, Px, Ax, qx, hsh⟩ := hrel
    obtain ⟨w7, rfl⟩ : ∃ w7, w7 = wr := ⟨_, rfl⟩
    rcases (show k = 0 ∨ k = 1 ∨ k = 2 by omega) with rfl | rfl | rfl
    case inr.inr =>
      have g2 := Lib.hid (show npE s r l.length = 0 by rw [hE2.out, if_neg (hsh (by decide))]; rfl)
      clear hsh
      go_wp2_with fail
      go_ret2
      exact ⟨.pointer (some ⟨B, 0, none⟩), by rw [g2.out]; rfl, qx, fun _ => ⟨_, rfl⟩, fun hn => absurd g2.out hn⟩
    · have cN2 := cN w7 qx 0
      have Hsh := Lib.hid hsh
      clear hsh
      simp only [show ((0 : Nat) : Int) = 0 from rfl]
      go_wp2_with (refine wpList_load_at 35 _ rfl w.heap.size 0 rfl s.cs _ (fun j v hv => by rw [Nat.zero_add]; exact (Ax.c j).trans hv) Try.underlying35 rfl hsz (by rfl) ?_)
      refine cN2.mono ?_
      rintro e w8 ⟨v, rfl, hb8, hok, hno⟩
      have q8 := below_trans qx hb8
      have P8 := Px.on hb8
      have A8 := Ax.on hb8
      clear cN2
      by_cases hlong : 65536 < l.length
      · have e4 := nL.out 0 E0.out (by decide) hlong
        obtain rfl := hno (by rw [e4]; decide)
        have g2 := Lib.hid (show npE s r l.length = 4 by rw [hE2.out, if_pos hlong]; rfl)
        rw [e4]
        clear hlong hok hno e4
        go_wp2_with fail
        go_ret2
        exact npR_bad g2.out (by decide) q8
      · have e4 := nS.out 0 E0.out (by decide) hlong
        obtain ⟨b2, _, _, _, _, _, rfl, _⟩ := hok e4
        have Hlong := Lib.hid hlong
        rw [e4]
        have f8 := P8.fr 37
        have y8 : w8.cell? ⟨B, 37, none⟩ = some x.x0 := P8.c 37
        clear hok hno e4 hlong
        go_wp2_with fail
        exact ⟨⟨1, { x with x0 := .pointer (some ⟨b2, 0, none⟩) }, by omega, rfl, P8.set 37 _ rfl, (A8.on2 hwB), q8.setCell (Nat.le_of_lt hwB) _, fun _ => Hlong.out⟩, by simp [intOf]⟩
    · have cN2 := cN w7 qx 1
      have Hsh := Lib.hid hsh
      clear hsh
      simp only [show ((1 : Nat) : Int) = 1 from rfl]
      go_wp2_with (refine wpList_load_at 35 _ rfl w.heap.size 0 rfl s.cs _ (fun j v hv => by rw [Nat.zero_add]; exact (Ax.c j).trans hv) Try.underlying35 rfl hsz (by rfl) ?_)
      refine cN2.mono ?_
      rintro e w8 ⟨v, rfl, hb8, hok, hno⟩
      have q8 := below_trans qx hb8
      have P8 := Px.on hb8
      have A8 := Ax.on hb8
      clear cN2
      by_cases hlong : 65536 < l.length
      · have e4 := nL.out 1 E0.out (by decide) hlong
        obtain rfl := hno (by rw [e4]; decide)
        have g2 := Lib.hid (show npE s r l.length = 4 by rw [hE2.out, if_pos hlong]; rfl)
        rw [e4]
        clear hlong hok hno e4
        go_wp2_with fail
        go_ret2
        exact npR_bad g2.out (by decide) q8
      · have e4 := nS.out 1 E0.out (by decide) hlong
        obtain ⟨b2, _, _, _, _, _, rfl, _⟩ := hok e4
        have Hlong := Lib.hid hlong
        rw [e4]
        have f8 := P8.fr 38
        have y8 : w8.cell? ⟨B, 38, none⟩ = some x.x1 := P8.c 38
        clear hok hno e4 hlong
        go_wp2_with fail
        exact ⟨⟨2, { x with x1 := .pointer (some ⟨b2, 0, none⟩) }, by omega, rfl, P8.set 38 _ rfl, (A8.on2 hwB), q8.setCell (Nat.le_of_lt hwB) _, fun _ => Hlong.out⟩, by simp [intOf]⟩
/-- The cells of a pair of the reference. -/
def rparCs (s : Stp) (r : Value) (light : Nat) (x0 x1 : Value) : Array Value := #[.int .i64 s.o.k, .int .i64 s.o.c0, .int .i64 s.o.c1, .int .i64 s.o.c2, .int .i64 s.o.v0, .int .i64 s.o.v1, .int .i64 s.o.v2, .int .i64 s.o.v3, .int .i64 s.o.w0, .int .i64 s.o.w1, .int .i64 s.o.w2, .int .i64 s.o.w3, .int .i64 s.o.s0, .int .i64 s.o.s1, .int .i64 s.o.s2, .int .i64 s.o.s3, .int .i64 s.o.eta, .int .i64 s.o.dark, .int .i64 s.slots, .int .i64 s.head, .int .i64 s.need, .int .i64 s.block, .int .i64 s.sample, .slice s.eps.A s.eps.l.length s.eps.c, .slice s.eps.C s.eps.m.length s.eps.d, .slice s.lim.A s.lim.l.length s.lim.c, .slice s.lim.C s.lim.m.length s.lim.d, .int .i64 s.passes, .int .i64 s.pblk, .int .u64 s.pseed, .int .i64 s.width, .int .i64 s.margin, .int .i64 s.tries, .int .u64 s.seed, r, .int .u64 light, x0, x1, .slice none 0 0, .slice none 0 0, .slice none 0 0, .slice none 0 0, .int .i64 0]
def RparAt (w : World) (b : Nat) (cs : Array Value) : Prop := w.heap[b]? = some (.cells cs 107 (0, 0))
def RpR (w w' : World) (s : Stp) (r : List Rul) (n : Nat) (e : Ending) : Prop :=
  ∃ v, e = .returned (.tuple #[v, .int .i64 (npE s r n)]) ∧ Below w.heap.size w w' ∧ ∃ p, v = .pointer p
theorem rpR_of {w w' : World} {s : Stp} {r : List Rul} {n : Nat} {E : Int} {p : Option Addr} (h : npE s r n = E) (hb : Below w.heap.size w w') : RpR w w' s r n (.returned (.tuple #[.pointer p, .int .i64 E])) :=
  ⟨_, by rw [h], hb, _, rfl⟩
set_option maxRecDepth 100000 in
set_option maxHeartbeats 16000000 in
theorem rNewPair_any (s : Stp) (R : Option Addr) (cr : Nat) (r : List Rul) (A : Option Addr) (c n : Nat) (light : Nat) (w : World) (h : s.In w) (hR : Arr 5 Rul.enc w w.heap.size R r) (hr2 : r.length ≤ 100000) :
    Calls Try.prog 14 #[s.val, .slice R r.length cr, .slice A n c, .int .u64 (light : Int)] w fun e w' => RpR w w' s r n e := by
  have q0 := below_alloc (Below.refl w.heap.size w) (.cells s.cs 35)
  have At0 := StpAt.new w s
  have hsz : (Try.prog.info? 35).map (·.size) = some s.cs.size := (show (Try.prog.info? 35).map (·.size) = some 34 by kernel_rfl)
  have cO := fun w' (hb : Below w.heap.size w w') => rStp_any s w' (h.on hb)
  have cR := fun w' (hb : Below w.heap.size w w') => rRules_any R cr r w' (hR.on hb) (by omega)
  have cN := fun w' (hb : Below w.heap.size w w') (k : Int) => rNewStation_any s k A c n w' (h.on hb)
  have hE : Hid (npE s r n = if stpE s ≠ 0 then stpE s else if rulesE r ≠ 0 then rulesE r else if 65536 < n then 4 else 0) := Lib.hid rfl
  have nS := Lib.hid (fun (k : Int) (h0 : stpE s = 0) (hk : betwB k 0 1 = true) (hn : ¬ 65536 < n) => nsE_short (n := n) h0 hk hn)
  have nL := Lib.hid (fun (k : Int) (h0 : stpE s = 0) (hk : betwB k 0 1 = true) (hn : 65536 < n) => nsE_long (n := n) h0 hk hn)
  have hes := stpE_cases s
  obtain ⟨F, hF⟩ : ∃ F, rulesE r = F := ⟨_, rfl⟩
  rw [hF] at hE
  simp only [hF] at cR
  clear hF
  unfold Stp.val at cO cN ⊢
  go_enter Try.func14, Try.ntmps14
  go_upto_region 1 with fail
  obtain ⟨w1, hw1⟩ : ∃ w1, w.alloc (.cells s.cs 35) = w1 := ⟨_, rfl⟩
  rw [hw1] at q0 At0 ⊢
  clear hw1
  go_wp2_with (refine wpList_load_at 35 _ rfl w.heap.size 0 rfl s.cs _ (fun j v hv => by rw [Nat.zero_add]; exact (At0.c j).trans hv) Try.underlying35 rfl hsz (by rfl) ?_)
  refine (cO _ q0).mono ?_
  rintro e w2 ⟨rfl, hb2⟩
  have At2 := At0.on hb2
  have q2 := below_trans q0 hb2
  rcases hes with e0 | e0
  case inr =>
    rw [e0]
    have g2 := Lib.hid (show npE s r n = 2 by rw [hE.out, e0]; rfl)
    clear e0
    go_wp2_with fail
    go_ret2
    exact rpR_of g2.out q2
  rw [e0]
  have E0 := Lib.hid e0
  have hE2 : Hid (npE s r n = if F ≠ 0 then F else if 65536 < n then 4 else 0) := Lib.hid (by rw [hE.out, e0]; rfl)
  clear e0 hE
  go_wp2_with fail
  refine (cR _ q2).mono ?_
  rintro e w3 ⟨rfl, hb3⟩
  have At3 := At2.on hb3
  have q3 := below_trans q2 hb3
  by_cases f0 : F = 0
  case neg =>
    have g1 : (F != 0) = true := by simpa using f0
    have g2 := Lib.hid (show npE s r n = F by rw [hE2.out, if_pos f0])
    clear f0
    go_wp2_with fail
    go_ret2
    exact rpR_of g2.out q3
  subst f0
  go_upto_region 7 with (first | (refine wpList_load_at 35 _ rfl w.heap.size 0 rfl s.cs _ (fun j v hv => by rw [Nat.zero_add]; exact (At3.c j).trans hv) Try.underlying35 rfl hsz (by rfl) ?_) | (refine wpList_buildAs rfl 107 _ rfl #[(0, .agg s.cs), (1, .slice R r.length cr), (2, .int .u64 (light : Int))] (by kernel_rfl) (rparCs s (.slice R r.length cr) light (.pointer none) (.pointer none)) (by kernel_rfl) ?_))
  have q6 := below_alloc q3 (.cells (rparCs s (.slice R r.length cr) light (.pointer none) (.pointer none)) 107)
  have At6 := At3.on (below_alloc (Below.refl _ _) (.cells (rparCs s (.slice R r.length cr) light (.pointer none) (.pointer none)) 107))
  have P6 : RparAt (w3.alloc (.cells (rparCs s (.slice R r.length cr) light (.pointer none) (.pointer none)) 107)) w3.heap.size _ := heap_alloc_new w3 _
  obtain ⟨B, hB⟩ : ∃ B, w3.heap.size = B := ⟨_, rfl⟩
  have hwB : w.heap.size < B := by rw [← hB]; exact (Array.getElem?_eq_some_iff.1 At3).1
  obtain ⟨w6, hw6⟩ : ∃ w6, w3.alloc (.cells (rparCs s (.slice R r.length cr) light (.pointer none) (.pointer none)) 107) = w6 := ⟨_, rfl⟩
  rw [hw6] at q6 At6 P6 ⊢
  rw [hB] at P6 ⊢
  clear hw6 hB
  go_wp2_with fail
  go_loopw [12] (fun i wr => ∃ (k : Nat) (x0 x1 : Value), k ≤ 2 ∧ i = .int .i64 k ∧ RparAt wr B (rparCs s (.slice R r.length cr) light x0 x1) ∧ StpAt wr w.heap.size s ∧ Below w.heap.size w wr ∧ (0 < k → ¬ 65536 < n)) (fun i _ => 2 - (intOf i).toNat)
  case atStart => exact ⟨0, _, _, by omega, rfl, P6, At6, q6, fun h => absurd h (by decide)⟩
  case round =>
    obtain ⟨k, x0, x1, hk, rfl, Px, Ax, qx, hsh⟩ := hrel
    obtain ⟨w7, rfl⟩ : ∃ w7, w7 = wr := ⟨_, rfl⟩
    rcases (show k = 0 ∨ k = 1 ∨ k = 2 by omega) with rfl | rfl | rfl
    case inr.inr =>
      have g2 := Lib.hid (show npE s r n = 0 by rw [hE2.out, if_neg (hsh (by decide))]; rfl)
      clear hsh
      go_wp2_with fail
      go_ret2
      exact rpR_of g2.out qx
    · have cN2 := cN w7 qx 0
      have Hsh := Lib.hid hsh
      clear hsh
      simp only [show ((0 : Nat) : Int) = 0 from rfl]
      go_wp2_with (refine wpList_load_at 35 _ rfl w.heap.size 0 rfl s.cs _ (fun j v hv => by rw [Nat.zero_add]; exact (Ax.c j).trans hv) Try.underlying35 rfl hsz (by rfl) ?_)
      refine cN2.mono ?_
      rintro e w8 ⟨v, rfl, hb8, pp, rfl⟩
      have q8 := below_trans qx hb8
      have P8 : RparAt w8 B (rparCs s (.slice R r.length cr) light x0 x1) := (hb8.block B (Array.getElem?_eq_some_iff.1 Px).1).trans Px
      have A8 := Ax.on hb8
      clear cN2
      by_cases hlong : 65536 < n
      · have e4 := nL.out 0 E0.out (by decide) hlong
        have g2 := Lib.hid (show npE s r n = 4 by rw [hE2.out, if_pos hlong]; rfl)
        rw [e4]
        clear hlong e4
        go_wp2_with fail
        go_ret2
        exact rpR_of g2.out q8
      · have e4 := nS.out 0 E0.out (by decide) hlong
        have Hlong := Lib.hid hlong
        rw [e4]
        have f8 : w8.frozen? ⟨B, 36, none⟩ = false := frozen_of_row w8 B 36 _ _ P8
        have y8 : w8.cell? ⟨B, 36, none⟩ = some x0 := cell_of_row w8 B 36 _ _ _ P8
        clear e4 hlong
        cases pp with
        | none =>
          go_wp2_with fail
          exact ⟨⟨1, .pointer none, x1, by omega, rfl, heap_setCell_same w8 B 36 _ _ _ P8, (A8.on2 hwB), q8.setCell (Nat.le_of_lt hwB) _, fun _ => Hlong.out⟩, by simp [intOf]⟩
        | some pa =>
          go_wp2_with fail
          exact ⟨⟨1, .pointer (some pa), x1, by omega, rfl, heap_setCell_same w8 B 36 _ _ _ P8, (A8.on2 hwB), q8.setCell (Nat.le_of_lt hwB) _, fun _ => Hlong.out⟩, by simp [intOf]⟩
    · have cN2 := cN w7 qx 1
      have Hsh := Lib.hid hsh
      clear hsh
      simp only [show ((1 : Nat) : Int) = 1 from rfl]
      go_wp2_with (refine wpList_load_at 35 _ rfl w.heap.size 0 rfl s.cs _ (fun j v hv => by rw [Nat.zero_add]; exact (Ax.c j).trans hv) Try.underlying35 rfl hsz (by rfl) ?_)
      refine cN2.mono ?_
      rintro e w8 ⟨v, rfl, hb8, pp, rfl⟩
      have q8 := below_trans qx hb8
      have P8 : RparAt w8 B (rparCs s (.slice R r.length cr) light x0 x1) := (hb8.block B (Array.getElem?_eq_some_iff.1 Px).1).trans Px
      have A8 := Ax.on hb8
      clear cN2
      by_cases hlong : 65536 < n
      · have e4 := nL.out 1 E0.out (by decide) hlong
        have g2 := Lib.hid (show npE s r n = 4 by rw [hE2.out, if_pos hlong]; rfl)
        rw [e4]
        clear hlong e4
        go_wp2_with fail
        go_ret2
        exact rpR_of g2.out q8
      · have e4 := nS.out 1 E0.out (by decide) hlong
        have Hlong := Lib.hid hlong
        rw [e4]
        have f8 : w8.frozen? ⟨B, 37, none⟩ = false := frozen_of_row w8 B 37 _ _ P8
        have y8 : w8.cell? ⟨B, 37, none⟩ = some x1 := cell_of_row w8 B 37 _ _ _ P8
        clear e4 hlong
        cases pp with
        | none =>
          go_wp2_with fail
          exact ⟨⟨2, x0, .pointer none, by omega, rfl, heap_setCell_same w8 B 37 _ _ _ P8, (A8.on2 hwB), q8.setCell (Nat.le_of_lt hwB) _, fun _ => Hlong.out⟩, by simp [intOf]⟩
        | some pa =>
          go_wp2_with fail
          exact ⟨⟨2, x0, .pointer (some pa), by omega, rfl, heap_setCell_same w8 B 37 _ _ _ P8, (A8.on2 hwB), q8.setCell (Nat.le_of_lt hwB) _, fun _ => Hlong.out⟩, by simp [intOf]⟩

end Go.Proofs.Ythcjlfnkpmeonaa
