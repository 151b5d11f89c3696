/- Contract of sift's Test. For bit strings of at most 65536 bits, any numbers and any two fractions. -/
import Derived.Test.YtbobbcfjjdmdgaaTstB
import Derived.Test.YtbobbcfjjdmdgaaPrmD
import Derived.Test.YtbobbcfjjdmdgaaNatM
namespace Go.Proofs.Ytbobbcfjjdmdgaa
open Go.RowKit
set_option linter.unusedVariables false
set_option linter.unusedSimpArgs false

theorem results_cell3 {fn : Func} {p u v x : Tmp} {ty : TypeId} (h : fn.results = #[.cell p ty, .tmp u, .tmp v, .tmp x]) (tmps : Array Value) (P : Program) (w : World) :
    (results fn tmps).run P w =
      ((asAddr (tmps.getD p undef)).run P w).andThen fun a w₁ => ((loadVar ty a).run P w₁).andThen fun z w₂ => .ok (.tuple #[z, tmps.getD u undef, tmps.getD v undef, tmps.getD x undef]) w₂ := by
  simp only [results, h]
  simp [Sem.run_bind, Result.andThen]
theorem rate_form (t s n : Int) (f : Frc) : ∃ a b c d e : Int, rateV t s n f = .agg #[.int .i64 a, .int .i64 b, .int .i64 c, .int .i64 d, .int .i64 e] := by
  unfold rateV zero5
  split
  · exact ⟨_, _, _, _, _, rfl⟩
  · exact ⟨_, _, _, _, _, rfl⟩

/-- How many of the sample are wrong. -/
def seenN (a b : List Bool) (k : Int) (s : Nat) : Nat := cntL (pickL (xorL a b) (smL s a.length k))
def tstE (a b : List Bool) (k : Int) (s : Nat) (f g : Frc) : Int :=
  if a.length ≠ b.length then 22 else if smE a.length k ≠ 0 then 3 else if boundE a.length k (seenN a b k s) f ≠ 0 then boundE a.length k (seenN a b k s) f else judgeE k (seenN a b k s) g
def tstV (a b : List Bool) (k : Int) (s : Nat) (f g : Frc) : Value := if tstE a b k s f g = 0 then rateV a.length k (seenN a b k s) f else zero5
def tstP (x a b : List Bool) (k : Int) (s : Nat) (f g : Frc) : List Bool := if tstE a b k s f g = 0 then pickL x (rsL s a.length k) else []
theorem sm_mem {s n : Nat} {k : Int} {x : Int} (h : x ∈ smL s n k) : 0 ≤ x ∧ x < n := by
  unfold smL at h
  split at h
  · have := smpL_mem h; simpa using this
  · cases h
theorem rs_mem {s n : Nat} {k : Int} {x : Int} (h : x ∈ rsL s n k) : 0 ≤ x ∧ x < n := by
  unfold rsL at h
  split at h
  · have := rst_mem _ h; simpa using this
  · cases h
theorem sm_len {s n : Nat} {k : Int} (h : smE n k = 0) : (smL s n k).length = k.toNat := by
  obtain ⟨_, _, _, _⟩ := smE_ok h
  unfold smL; rw [if_pos h, smpL_len (by omega)]
theorem rs_len {s n : Nat} {k : Int} (h : smE n k = 0) : (rsL s n k).length ≤ n := by
  unfold rsL; rw [if_pos h]; have := rst_len (smpL s (n : Int).toNat k.toNat) (n : Int).toNat; simpa using this
theorem seen_le {a b : List Bool} {k : Int} {s : Nat} (h : smE a.length k = 0) : seenN a b k s ≤ k.toNat := by
  unfold seenN; exact Nat.le_trans (cntL_le _) (by rw [pick_len, sm_len h]; exact Nat.le_refl _)
/-- What Test hands back. -/
def TsR (w w' : World) (a b : List Bool) (k : Int) (s : Nat) (f g : Frc) (e : Ending) : Prop :=
  ∃ v1 v2, e = .returned (.tuple #[tstV a b k s f g, v1, v2, .int .i64 (tstE a b k s f g)]) ∧ Own w' w.heap.size 4 1 encB v1 (tstP a a b k s f g) ∧ Own w' w.heap.size 4 1 encB v2 (tstP b a b k s f g) ∧ Below w.heap.size w w'
theorem tsR_bad {w w' : World} {a b : List Bool} {k : Int} {s : Nat} {f g : Frc} {E : Int} (hE : tstE a b k s f g = E) (h0 : E ≠ 0) (hb : Below w.heap.size w w') : TsR w w' a b k s f g (.returned (.tuple #[zero5, .slice none 0 0, .slice none 0 0, .int .i64 E])) := by
  subst hE
  exact ⟨_, _, by unfold tstV; rw [if_neg h0], by unfold tstP; rw [if_neg h0]; exact Own.nil, by unfold tstP; rw [if_neg h0]; exact Own.nil, hb⟩
theorem tsR_good {w w' : World} {a b : List Bool} {k : Int} {s : Nat} {f g : Frc} (hE : tstE a b k s f g = 0) {v1 v2 : Value} (h1 : Own w' w.heap.size 4 1 encB v1 (pickL a (rsL s a.length k))) (h2 : Own w' w.heap.size 4 1 encB v2 (pickL b (rsL s a.length k))) (hb : Below w.heap.size w w') :
    TsR w w' a b k s f g (.returned (.tuple #[rateV a.length k (seenN a b k s) f, v1, v2, .int .i64 0])) :=
  ⟨v1, v2, by unfold tstV; rw [if_pos hE, hE], by unfold tstP; rw [if_pos hE]; exact h1, by unfold tstP; rw [if_pos hE]; exact h2, hb⟩
theorem xor_len {a b : List Bool} (h : a.length = b.length) : (xorL a b).length = a.length := by unfold xorL; rw [List.length_zipWith]; omega

set_option maxRecDepth 100000 in
set_option maxHeartbeats 1000000 in
theorem Xor_bad (A B : Option Addr) (cA cB n m : Nat) (w : World) (h : ((n : Int) != (m : Int)) = true) :
    Calls Try.prog 104 #[.slice A n cA, .slice B m cB] w fun e w' => e = .returned (.tuple #[.slice none 0 0, .int .i64 22]) ∧ w = w' := by
  go_enter Try.func104, Try.ntmps104
  go_wp2_with fail
  go_ret2
  exact ⟨rfl, rfl⟩

set_option maxRecDepth 100000 in
set_option maxHeartbeats 4000000 in
theorem Test_bad1 (A B : Option Addr) (cA cB n m : Nat) (a b : List Bool) (k : Int) (s : Nat) (f g : Frc) (w : World) (ha : a.length = n) (hb : b.length = m) (hne : n ≠ m) :
    Calls Try.prog 44 #[.slice A n cA, .slice B m cB, .int .i64 k, .int .u64 s, f.val, g.val] w fun e w' => TsR w w' a b k s f g e := by
  have hE : Hid (tstE a b k s f g = 22) := Lib.hid (by unfold tstE; rw [if_pos (by omega)])
  have hnm : ((n : Int) != (m : Int)) = true := by simp; omega
  have hb0 := below_alloc (below_alloc (below_alloc (Below.refl w.heap.size w) (.cells #[.slice f.A f.l.length f.c, .slice f.C f.m.length f.d] 39)) (.cells #[.slice g.A g.l.length g.c, .slice g.C g.m.length g.d] 39)) (.cells #[.int .i64 0, .int .i64 0, .int .i64 0, .int .i64 0, .int .i64 0] 104)
  have cX := Xor_bad A B cA cB n m
  unfold Frc.val
  clear hne ha hb
  go_enter Try.func44, Try.ntmps44
  go_wp2_with (go_at_call 104; refine (cX _ hnm).mono ?_; rintro e w' ⟨rfl, rfl⟩)
  (try simp only [Exit.inBlock, Exit.then])
  refine bodyPost_ret (v := .tuple #[zero5, .slice none 0 0, .slice none 0 0, .int .i64 22]) ?_ rfl (tsR_bad hE.out (by decide) ?_)
  · rw [results_cell3 rfl]
    unfold zero5
    go_simp
  · exact hb0

/-- Five zeros that may be written. -/
def Five (y : World) (g : Nat) : Prop := (y.cell? ⟨g, 0, none⟩ = some (.int .i64 0) ∧ y.frozen? ⟨g, 0, none⟩ = false) ∧ (y.cell? ⟨g, 1, none⟩ = some (.int .i64 0) ∧ y.frozen? ⟨g, 1, none⟩ = false) ∧ (y.cell? ⟨g, 2, none⟩ = some (.int .i64 0) ∧ y.frozen? ⟨g, 2, none⟩ = false) ∧ (y.cell? ⟨g, 3, none⟩ = some (.int .i64 0) ∧ y.frozen? ⟨g, 3, none⟩ = false) ∧ (y.cell? ⟨g, 4, none⟩ = some (.int .i64 0) ∧ y.frozen? ⟨g, 4, none⟩ = false)
theorem five_new {W y : World} {T : TypeId} (h : Below (W.alloc (.cells #[.int .i64 0, .int .i64 0, .int .i64 0, .int .i64 0, .int .i64 0] T)).heap.size (W.alloc (.cells #[.int .i64 0, .int .i64 0, .int .i64 0, .int .i64 0, .int .i64 0] T)) y) {g : Nat} (hg : g = W.heap.size) : Five y g :=
  ⟨blk_new h hg rfl, blk_new h hg rfl, blk_new h hg rfl, blk_new h hg rfl, blk_new h hg rfl⟩
theorem Five.on {y z : World} {g : Nat} (h : Five y g) (hb : Below y.heap.size y z) : Five z g := by
  obtain ⟨h0, h1, h2, h3, h4⟩ := h
  have al : ∀ {j : Nat}, y.cell? ⟨g, j, none⟩ = some (.int .i64 0) ∧ y.frozen? ⟨g, j, none⟩ = false → z.cell? ⟨g, j, none⟩ = some (.int .i64 0) ∧ z.frozen? ⟨g, j, none⟩ = false :=
    fun {j} q => ⟨bel_cell hb q.1, (hb.frozen (p := ⟨g, j, none⟩) (World.block_lt_of_cell? y _ q.1)).trans q.2⟩
  exact ⟨al h0, al h1, al h2, al h3, al h4⟩
theorem below_set5 {w y : World} (h : Below w.heap.size w y) {g : Nat} (hg : w.heap.size ≤ g) {a0 a1 a2 a3 a4 : Value} : Below w.heap.size w (((((y.setCell ⟨g, 0, none⟩ a0).setCell ⟨g, 1, none⟩ a1).setCell ⟨g, 2, none⟩ a2).setCell ⟨g, 3, none⟩ a3).setCell ⟨g, 4, none⟩ a4) :=
  ((((h.setCell hg _).setCell hg _).setCell hg _).setCell hg _).setCell hg _
theorem own_set5 {α : Type} {y : World} {base e sz g : Nat} {enc : α → List Value} {v : Value} {l : List α} (h : Own y base e sz enc v l) (hlt : g < base) {a0 a1 a2 a3 a4 : Value} : Own (((((y.setCell ⟨g, 0, none⟩ a0).setCell ⟨g, 1, none⟩ a1).setCell ⟨g, 2, none⟩ a2).setCell ⟨g, 3, none⟩ a3).setCell ⟨g, 4, none⟩ a4) base e sz enc v l :=
  h.keep_lt (grown_trans (grown_trans (grown_trans (grown_trans (grown_set _ _ _ _) (grown_set _ _ _ _)) (grown_set _ _ _ _)) (grown_set _ _ _ _)) (grown_set _ _ _ _)) hlt
theorem arr_cap {α : Type} {w : World} {base e z : Nat} {enc : α → List Value} {v : Value} {l : List α} {n : Nat} (h : Own w base e z enc v l) (hs : ∀ x, (enc x).length = z) (hl : l.length = n) : ∃ A c, v = .slice A n c ∧ Arr z enc w w.heap.size A l := by
  obtain ⟨A, c, hv, _, _, _, ar⟩ := h.form hs
  exact ⟨A, c, by rw [hv, hl], ar⟩

set_option maxRecDepth 100000 in
set_option maxHeartbeats 4000000 in
theorem Test_bad2 (A B : Option Addr) (cA cB n : Nat) (a b : List Bool) (k : Int) (s : Nat) (f g : Frc) (w : World) (ha : a.length = n) (hb : b.length = n) (hA : Arr 1 encB w w.heap.size A a) (hB : Arr 1 encB w w.heap.size B b) (hn : n ≤ 65536) (h : smE n k ≠ 0) :
    Calls Try.prog 44 #[.slice A n cA, .slice B n cB, .int .i64 k, .int .u64 s, f.val, g.val] w fun e w' => TsR w w' a b k s f g e := by
  have h3 := (sm_bad (s := s) h).1
  have hE : Hid (tstE a b k s f g = 3) := Lib.hid (by unfold tstE; rw [if_neg (by omega), ha, if_pos h])
  have hb0 := below_alloc (below_alloc (below_alloc (Below.refl w.heap.size w) (.cells #[.slice f.A f.l.length f.c, .slice f.C f.m.length f.d] 39)) (.cells #[.slice g.A g.l.length g.c, .slice g.C g.m.length g.d] 39)) (.cells #[.int .i64 0, .int .i64 0, .int .i64 0, .int .i64 0, .int .i64 0] 104)
  have cX := Xor_any A B cA cB n a b _ ha hb (hA.on hb0) (hB.on hb0) hn
  have cS := fun w1 => SampleS_any s n k w1
  unfold SmR at cS
  rw [h3] at cS
  unfold Frc.val
  clear h h3 ha hb hA hB
  go_enter Try.func44, Try.ntmps44
  go_wp2_with fail
  refine cX.mono ?_
  rintro e w1 ⟨vD, rfl, ownD, hb1⟩
  go_wp2_with fail
  refine (cS _).mono ?_
  rintro e w2 ⟨v1, v2, rfl, own1, own2, hb2⟩
  have q1 := below_trans hb0 hb1
  have q2 := below_trans q1 hb2
  obtain ⟨f0, f1, f2, f3, f4⟩ := (five_new hb1 (g := w.heap.size + 1 + 1) (by simp)).on hb2
  go_wp2_with fail
  (try simp only [Exit.inBlock, Exit.then])
  refine bodyPost_ret (v := .tuple #[zero5, .slice none 0 0, .slice none 0 0, .int .i64 3]) ?_ rfl (tsR_bad hE.out (by decide) ?_)
  · rw [results_cell3 rfl]
    unfold zero5
    go_simp
  · exact below_set5 q2 (by omega)

/-- What a call makes of five cells of its own. -/
theorem test_case (a b : List Bool) (k : Int) (s n : Nat) (f g : Frc) (ha : a.length = n) (hb : b.length = n) (h : smE n k = 0) :
    tstE a b k s f g = (if boundE n k (seenN a b k s) f ≠ 0 then boundE n k (seenN a b k s) f else judgeE k (seenN a b k s) g) := by
  unfold tstE; rw [if_neg (by omega), ha, if_neg (by omega)]

set_option maxRecDepth 100000 in
set_option maxHeartbeats 8000000 in
theorem Test_main (A B : Option Addr) (cA cB n : Nat) (a b : List Bool) (k : Int) (s : Nat) (f g : Frc) (w : World) (ha : a.length = n) (hb : b.length = n) (hA : Arr 1 encB w w.heap.size A a) (hB : Arr 1 encB w w.heap.size B b) (hn : n ≤ 65536) (h : smE n k = 0) (hf : f.In w) (hg : g.In w) :
    Calls Try.prog 44 #[.slice A n cA, .slice B n cB, .int .i64 k, .int .u64 s, f.val, g.val] w fun e w' => TsR w w' a b k s f g e := by
  have hTE := Lib.hid (test_case a b k s n f g ha hb h)
  have hk := smE_ok h
  have hb0 := below_alloc (below_alloc (below_alloc (Below.refl w.heap.size w) (.cells #[.slice f.A f.l.length f.c, .slice f.C f.m.length f.d] 39)) (.cells #[.slice g.A g.l.length g.c, .slice g.C g.m.length g.d] 39)) (.cells #[.int .i64 0, .int .i64 0, .int .i64 0, .int .i64 0, .int .i64 0] 104)
  have cX := Xor_any A B cA cB n a b _ ha hb (hA.on hb0) (hB.on hb0) hn
  have cS := fun w1 => SampleS_any s n k w1
  unfold SmR at cS
  rw [h] at cS
  have xl := xor_len (a := a) (b := b) (by omega)
  rw [ha] at xl
  have sl := sm_len (s := s) h
  obtain ⟨m, hm⟩ : ∃ m, k.toNat = m := ⟨_, rfl⟩
  rw [hm] at sl
  have hm5 : m ≤ 512 := by omega
  have rl := rs_len (s := s) h
  have sm := fun x => sm_mem (s := s) (n := n) (k := k) (x := x)
  have rm := fun x => rs_mem (s := s) (n := n) (k := k) (x := x)
  obtain ⟨L, hL⟩ : ∃ L, smL s n k = L := ⟨_, rfl⟩
  obtain ⟨R, hR⟩ : ∃ R, rsL s n k = R := ⟨_, rfl⟩
  obtain ⟨D, hD⟩ : ∃ D, xorL a b = D := ⟨_, rfl⟩
  obtain ⟨r, hr⟩ : ∃ r, R.length = r := ⟨_, rfl⟩
  rw [hL] at cS sl sm
  rw [hR] at cS rl rm
  rw [hD] at cX xl
  have hSN : Hid (seenN a b k s = cntL (pickL D L)) := Lib.hid (by unfold seenN; rw [ha, hL, hD])
  have HL := Lib.hid hL; have HR := Lib.hid hR; have HD := Lib.hid hD; have Hr := Lib.hid hr
  have Hxl := Lib.hid xl; have Hsl := Lib.hid sl; have Hsm := Lib.hid sm; have Hrm := Lib.hid rm
  have Ha := Lib.hid ha; have Hb := Lib.hid hb
  have Hf := Lib.hid hf; have Hg := Lib.hid hg
  have Hk := Lib.hid hk; have Hm := Lib.hid hm
  rw [hr] at rl
  clear hL hR hD hr xl sl sm rm h ha hb hk hm
  have fv : f.val = .agg #[.slice f.A f.l.length f.c, .slice f.C f.m.length f.d] := rfl
  have gv : g.val = .agg #[.slice g.A g.l.length g.c, .slice g.C g.m.length g.d] := rfl
  rw [fv, gv]
  clear fv gv
  go_enter Try.func44, Try.ntmps44
  go_wp2_with fail
  refine cX.mono ?_
  rintro e w1 ⟨vD, rfl, ownD, hb1⟩
  obtain ⟨DA, DC, hvD, arD⟩ := arr_cap ownD encB_len Hxl.out
  rw [hvD]
  clear hvD ownD
  go_wp2_with fail
  refine (cS _).mono ?_
  rintro e w2 ⟨v1, v2, rfl, own1, own2, hb2⟩
  obtain ⟨LA, LC, hv1, arL⟩ := arr_cap own1 encI_len Hsl.out
  obtain ⟨RA, RC, hv2, arR⟩ := arr_cap own2 encI_len Hr.out
  rw [hv1, hv2]
  clear hv1 hv2 own1 own2
  have q1 := below_trans hb0 hb1
  have q2 := below_trans q1 hb2
  have five2 := (five_new hb1 (g := w.heap.size + 1 + 1) (by simp)).on hb2
  have al := fun {x : Addr} {v : Value} (h : w1.cell? x = some v) => bel_cell hb2 h
  have e0 : w2.cell? ⟨w.heap.size, 0, none⟩ = some (.slice f.A f.l.length f.c) := al (bel_cell hb1 (by go_simp))
  have e1 : w2.cell? ⟨w.heap.size, 1, none⟩ = some (.slice f.C f.m.length f.d) := al (bel_cell hb1 (by go_simp))
  have g0 : w2.cell? ⟨w.heap.size + 1, 0, none⟩ = some (.slice g.A g.l.length g.c) := al (bel_cell hb1 (by go_simp))
  have g1 : w2.cell? ⟨w.heap.size + 1, 1, none⟩ = some (.slice g.C g.m.length g.d) := al (bel_cell hb1 (by go_simp))
  have arD2 := arD.on hb2
  have sz2 : w.heap.size + 1 + 1 < w2.heap.size := by have := hb1.size; have := hb2.size; simp at *; omega
  clear cX cS arD al hb1
  go_wp2_with fail
  go_loop [20, 54] (fun tv iv => ∃ j : Nat, j ≤ m ∧ iv = .int .i64 j ∧ tv = .int .i64 (cntL (pickL D (L.take j)) : Nat)) (fun _ i => m - (intOf i).toNat)
  case atStart => exact ⟨0, Nat.zero_le _, rfl, rfl⟩
  case round =>
    obtain ⟨j, hj, rfl, rfl⟩ := hrel
    have cl : cntL (pickL D (L.take j)) ≤ j := by
      refine Nat.le_trans (cntL_le _) ?_
      rw [pick_len, List.length_take]; omega
    rcases Nat.lt_or_ge j m with hlt | hge
    · obtain ⟨x, hx⟩ : ∃ x, L[j]? = some x := ⟨_, List.getElem?_eq_getElem (by rw [Hsl.out]; exact hlt)⟩
      obtain ⟨r0, r1⟩ := Hsm.out x (List.mem_of_getElem? hx)
      obtain ⟨i, rfl⟩ := Int.eq_ofNat_of_zero_le r0
      have hin : i < n := by omega
      obtain ⟨y, hy⟩ : ∃ y, D[i]? = some y := ⟨_, List.getElem?_eq_getElem (by rw [Hxl.out]; exact hin)⟩
      obtain ⟨pb, po, rfl, _, hc⟩ := arL (by rintro rfl; simp at hx)
      obtain ⟨qb, qo, rfl, _, hc2⟩ := arD2 (by rintro rfl; simp at hy)
      have c1 : w2.cell? ⟨pb, po + j, none⟩ = some (.int .i64 (i : Int)) := by have := hc j _ hx 0 _ rfl; simpa using this
      have c2 : w2.cell? ⟨qb, qo + i, none⟩ = some (.bool y) := by have := hc2 i _ hy 0 _ rfl; simpa using this
      have st := Lib.hid (pick_snoc hx hy)
      have km : (j : Int) < (m : Int) := by omega
      clear hc hc2 hx hy
      obtain ⟨c, hcn⟩ : ∃ c, cntL (pickL D (L.take j)) = c := ⟨_, rfl⟩
      have Hc := Lib.hid hcn
      rw [hcn] at cl ⊢
      clear hcn
      cases y
      · have sc : Hid (cntL (pickL D (L.take (j + 1))) = c) := Lib.hid (by rw [st.out, cnt_no, Hc.out])
        go_wp2_with fail
        exact ⟨⟨j + 1, by omega, by go_num, by rw [sc.out]⟩, by simp [intOf]; omega⟩
      · have sc : Hid (cntL (pickL D (L.take (j + 1))) = c + 1) := Lib.hid (by rw [st.out, cnt_yes, Hc.out])
        go_wp2_with fail
        exact ⟨⟨j + 1, by omega, by go_num, by rw [sc.out]; go_num⟩, by simp [intOf]; omega⟩
    · obtain rfl : j = m := by omega
      have tl : L.take j = L := by rw [← Hsl.out, List.take_length]
      rw [tl] at cl ⊢
      have hs0 := hSN.out
      obtain ⟨c, hcn⟩ : ∃ c, cntL (pickL D L) = c := ⟨_, rfl⟩
      rw [hcn] at cl hs0 ⊢
      clear tl hcn
      have hTE2 := hTE.out
      rw [hs0] at hTE2
      have HTE := Lib.hid hTE2
      have Hs0 := Lib.hid hs0
      clear hTE2 hs0
      have cR := Rate_any n k c f w2 (Hf.out.on q2)
      rw [show f.val = .agg #[.slice f.A f.l.length f.c, .slice f.C f.m.length f.d] from rfl] at cR
      obtain ⟨ea, eb, ec, ed, ee, hE⟩ := rate_form n k c f
      have HE := Lib.hid hE
      rw [hE] at cR
      clear hE
      by_cases h1 : boundE n k c f = 0
      · rw [h1] at cR
        have HTJ : Hid (tstE a b k s f g = judgeE k c g) := Lib.hid (by rw [HTE.out, if_neg (by omega)])
        go_wp2_with fail
        refine cR.mono ?_
        rintro e w3 ⟨rfl, hb3⟩
        have q3 := below_alloc (below_trans q2 hb3) (.cells #[.int .i64 ea, .int .i64 eb, .int .i64 ec, .int .i64 ed, .int .i64 ee] 104)
        have five3 := five2.on hb3
        have g0' := bel_cell hb3 g0
        have g1' := bel_cell hb3 g1
        have sz3 : w.heap.size + 1 + 1 < w3.heap.size := by have := hb3.size; omega
        have sz31 : w.heap.size + 1 < w3.heap.size := by omega
        clear cR e0 e1 g0 g1
        go_wp2_with fail
        have cJ := Judge_any k c g _ (Hg.out.on q3)
        rw [show g.val = .agg #[.slice g.A g.l.length g.c, .slice g.C g.m.length g.d] from rfl] at cJ
        refine cJ.mono ?_
        rintro e w4 ⟨rfl, hb4⟩
        have q4 := below_trans q3 hb4
        have al3 := fun {x : Addr} {v : Value} (h : w3.cell? x = some v) => bel_cell hb4 ((World.cell?_alloc_lt w3 (.cells #[.int .i64 ea, .int .i64 eb, .int .i64 ec, .int .i64 ed, .int .i64 ee] 104) x (World.block_lt_of_cell? w3 x h)).trans h)
        obtain ⟨f0, f1, f2, f3, f4⟩ := (five3.on (below_alloc (Below.refl _ _) (.cells #[.int .i64 ea, .int .i64 eb, .int .i64 ec, .int .i64 ed, .int .i64 ee] 104))).on hb4
        have x0 := (blk_new hb4 (g := w3.heap.size) rfl (j := 0) rfl).1
        have x1 := (blk_new hb4 (g := w3.heap.size) rfl (j := 1) rfl).1
        have x2 := (blk_new hb4 (g := w3.heap.size) rfl (j := 2) rfl).1
        have x3 := (blk_new hb4 (g := w3.heap.size) rfl (j := 3) rfl).1
        have x4 := (blk_new hb4 (g := w3.heap.size) rfl (j := 4) rfl).1
        have sz4 : w.heap.size + 1 + 1 < w4.heap.size := by have := hb4.size; simp at this; omega
        have sz43 : w3.heap.size < w4.heap.size := by have := hb4.size; simp at this; omega
        clear cJ g0' g1' al3
        by_cases h2 : judgeE k c g = 0
        · have hT : Hid (tstE a b k s f g = 0) := Lib.hid (by rw [HTJ.out, h2])
          rw [h2]
          clear h2
          have arA4 := hA.on q4
          have arB4 := hB.on q4
          have arR4 := (arR.on hb3).on (below_trans (below_alloc (Below.refl _ _) (.cells #[.int .i64 ea, .int .i64 eb, .int .i64 ec, .int .i64 ed, .int .i64 ee] 104)) hb4)
          have cP := Pick_any A RA cA n RC r a R w4 Ha.out Hr.out arA4 arR4 hn (by omega) (fun x hx => Hrm.out x hx)
          go_wp2_with fail
          refine cP.mono ?_
          rintro e w5 ⟨v5, rfl, own5, hb5⟩
          have cP2 := Pick_any B RA cB n RC r b R w5 Hb.out Hr.out (arB4.on hb5) (arR4.on hb5) hn (by omega) (fun x hx => Hrm.out x hx)
          clear cP
          go_wp2_with fail
          refine cP2.mono ?_
          rintro e w6 ⟨v6, rfl, own6, hb6⟩
          have hb46 := below_trans hb5 hb6
          have y0 := bel_cell hb46 x0
          have y1 := bel_cell hb46 x1
          have y2 := bel_cell hb46 x2
          have y3 := bel_cell hb46 x3
          have y4 := bel_cell hb46 x4
          have sz6 : w.heap.size + 1 + 1 < w6.heap.size := by have := hb46.size; omega
          have sz63 : w3.heap.size < w6.heap.size := by have := hb46.size; omega
          obtain ⟨m0, m1, m2, m3, m4⟩ := (Five.on ⟨f0, f1, f2, f3, f4⟩ hb46 : Five w6 (w.heap.size + 1 + 1))
          clear cP2 x0 x1 x2 x3 x4 f0 f1 f2 f3 f4
          have q6 := below_trans q4 hb46
          have s4 := q4.size
          have s5 := hb5.size
          go_wp2_with fail
          (try simp only [Exit.inBlock, Exit.then])
          have o5 := own_base (own_set5 (own5.below hb6) (g := w.heap.size + 1 + 1) (by omega) (a0 := .int .i64 ea) (a1 := .int .i64 eb) (a2 := .int .i64 ec) (a3 := .int .i64 ed) (a4 := .int .i64 ee)) s4
          have o6 := own_base (own_set5 own6 (g := w.heap.size + 1 + 1) (by omega) (a0 := .int .i64 ea) (a1 := .int .i64 eb) (a2 := .int .i64 ec) (a3 := .int .i64 ed) (a4 := .int .i64 ee)) (show w.heap.size ≤ w5.heap.size by omega)
          have fin := tsR_good (w := w) hT.out (by rw [Ha.out, HR.out]; exact o5) (by rw [Ha.out, HR.out]; exact o6) (below_set5 q6 (g := w.heap.size + 1 + 1) (by omega) (a0 := .int .i64 ea) (a1 := .int .i64 eb) (a2 := .int .i64 ec) (a3 := .int .i64 ed) (a4 := .int .i64 ee))
          rw [Ha.out, Hs0.out, HE.out] at fin
          refine bodyPost_ret (v := .tuple #[.agg #[.int .i64 ea, .int .i64 eb, .int .i64 ec, .int .i64 ed, .int .i64 ee], v5, v6, .int .i64 0]) ?_ rfl fin
          rw [results_cell3 rfl]
          go_simp
        · have hT : Hid (tstE a b k s f g = judgeE k c g) := HTJ
          have h2' : (judgeE k c g != 0) = true := by simpa using h2
          generalize judgeE k c g = E2 at *
          have H2 := Lib.hid h2
          clear h2
          go_wp2_with fail
          (try simp only [Exit.inBlock, Exit.then])
          refine bodyPost_ret (v := .tuple #[zero5, .slice none 0 0, .slice none 0 0, .int .i64 E2]) ?_ rfl (tsR_bad hT.out H2.out ?_)
          · rw [results_cell3 rfl]
            unfold zero5
            go_simp
          · exact below_set5 q4 (by omega)
      · have hT : Hid (tstE a b k s f g = boundE n k c f) := Lib.hid (by rw [HTE.out, if_pos h1])
        have h1' : (boundE n k c f != 0) = true := by simpa using h1
        generalize boundE n k c f = E1 at *
        have H1 := Lib.hid h1
        clear h1
        go_wp2_with fail
        refine cR.mono ?_
        rintro e w3 ⟨rfl, hb3⟩
        have q3 := below_trans q2 hb3
        obtain ⟨f0, f1, f2, f3, f4⟩ := five2.on hb3
        have sz3 : w.heap.size + 1 + 1 < w3.heap.size := by have := hb3.size; omega
        go_wp2_with fail
        (try simp only [Exit.inBlock, Exit.then])
        refine bodyPost_ret (v := .tuple #[zero5, .slice none 0 0, .slice none 0 0, .int .i64 E1]) ?_ rfl (tsR_bad hT.out H1.out ?_)
        · rw [results_cell3 rfl]
          unfold zero5
          go_simp
        · exact below_alloc (below_set5 q3 (by omega)) _

theorem Test_any (A B : Option Addr) (cA cB n m : Nat) (a b : List Bool) (k : Int) (s : Nat) (f g : Frc) (w : World) (ha : a.length = n) (hb : b.length = m) (hA : Arr 1 encB w w.heap.size A a) (hB : Arr 1 encB w w.heap.size B b) (hn : n ≤ 65536) (hf : f.In w) (hg : g.In w) :
    Calls Try.prog 44 #[.slice A n cA, .slice B m cB, .int .i64 k, .int .u64 s, f.val, g.val] w fun e w' => TsR w w' a b k s f g e := by
  by_cases h : n = m
  · subst h
    by_cases h2 : smE n k = 0
    · exact Test_main A B cA cB n a b k s f g w ha hb hA hB hn h2 hf hg
    · exact Test_bad2 A B cA cB n a b k s f g w ha hb hA hB hn h2
  · exact Test_bad1 A B cA cB n m a b k s f g w ha hb h

end Go.Proofs.Ytbobbcfjjdmdgaa
