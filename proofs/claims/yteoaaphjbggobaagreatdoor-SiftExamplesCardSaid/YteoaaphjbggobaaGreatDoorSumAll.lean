/- A sum of fractions in memory; contracts of sift's newSum and note. For no error. Contract of sift's add. For small numbers. Contract of sift's add, below 0. For small numbers. A sum over one denominator: contracts of newSum, add, heard and wrong in these words. For small numbers. Contract of sift's over where nothing is left. For small numbers. A fraction in a box of its own: how it stays and how it is laid anew. Plain laws for sift's over; small numbers. Contract of sift's over where something is left. For small numbers. -/
import Derived.Test.YteoaaphjbggobaaGreatDoorRepP
import Derived.Test.YteoaaphjbggobaaGreatDoorGcdAll
import Derived.Test.YteoaaphjbggobaaGreatDoorNtxAll
import Derived.Deep.RegionWith
namespace Go.Proofs.YteoaaphjbggobaaGreatDoor
open Go.RowKit
set_option linter.unusedVariables false
set_option linter.unusedSimpArgs false

/-- A slice that does not lie in block b. -/
def Far (A : Option Addr) (b : Nat) : Prop := ∀ a, A = some a → a.block ≠ b
theorem Far.none (b : Nat) : Far none b := fun a h => by cases h
theorem Nt.far {w : World} {A : Option Addr} {c g : Nat} {l : List Nat} (h : Nt w A c l) (hf : Far A g) (j : Nat) (v : Value) : Nt (w.setCell ⟨g, j, none⟩ v) A c l :=
  ⟨fun hl => by
    obtain ⟨b, off, rfl, hb, hc⟩ := h.arr hl
    refine ⟨b, off, rfl, by simpa using hb, fun i x hx k u hu => ?_⟩
    rw [World.cell?_setCell_far _ _ _ _ (fun e => hf _ rfl e.symm)]
    exact hc i x hx k u hu, h.len, h.cap, h.dig, h.nil⟩
/-- The call's own slice does not lie in an older block. -/
theorem Big.far {w : World} {B n b : Nat} {A : Option Addr} {k c : Nat} (h : Big w B (.slice A k c) n) (hb : b < B) : Far A b := fun a ha => by
  subst ha
  have := (World.ownsRow.lt h a.block rfl).1
  omega
structure SumAt (w : World) (b : Nat) (f g : Frc) : Prop where
  fi : f.In w
  gi : g.In w
  fa : Far f.A b
  fc : Far f.C b
  ga : Far g.A b
  gc : Far g.C b
  c0 : w.cell? ⟨b, 0, none⟩ = some (.slice f.A f.l.length f.c)
  c1 : w.cell? ⟨b, 1, none⟩ = some (.slice f.C f.m.length f.d)
  c2 : w.cell? ⟨b, 2, none⟩ = some (.slice g.A g.l.length g.c)
  c3 : w.cell? ⟨b, 3, none⟩ = some (.slice g.C g.m.length g.d)
  c4 : w.cell? ⟨b, 4, none⟩ = some (.int .i64 0)
  r0 : w.frozen? ⟨b, 0, none⟩ = false
  r1 : w.frozen? ⟨b, 1, none⟩ = false
  r2 : w.frozen? ⟨b, 2, none⟩ = false
  r3 : w.frozen? ⟨b, 3, none⟩ = false
  r4 : w.frozen? ⟨b, 4, none⟩ = false
theorem SumAt.lt {w : World} {b : Nat} {f g : Frc} (h : SumAt w b f g) : b < w.heap.size := World.block_lt_of_cell? w _ h.c0
theorem SumAt.on {w w' : World} {b : Nat} {f g : Frc} (h : SumAt w b f g) (hb : Below w.heap.size w w') : SumAt w' b f g :=
  have fr : ∀ j, w.frozen? ⟨b, j, none⟩ = false → w'.frozen? ⟨b, j, none⟩ = false := fun j hj => (hb.frozen (p := ⟨b, j, none⟩) h.lt).trans hj
  ⟨h.fi.on hb, h.gi.on hb, h.fa, h.fc, h.ga, h.gc, bel_cell hb h.c0, bel_cell hb h.c1, bel_cell hb h.c2, bel_cell hb h.c3, bel_cell hb h.c4, fr _ h.r0, fr _ h.r1, fr _ h.r2, fr _ h.r3, fr _ h.r4⟩
theorem SumAt.set4 {w : World} {b : Nat} {f g : Frc} (h : SumAt w b f g) : SumAt (w.setCell ⟨b, 4, none⟩ (.int .i64 0)) b f g := by
  obtain ⟨h1, h2, h3, h4, h5, h6, k0, k1, k2, k3, k4, z0, z1, z2, z3, z4⟩ := h
  refine ⟨⟨h1.n.far h3 _ _, h1.d.far h4 _ _⟩, ⟨h2.n.far h5 _ _, h2.d.far h6 _ _⟩, h3, h4, h5, h6, ?_, ?_, ?_, ?_, ?_, ?_, ?_, ?_, ?_, ?_⟩ <;> go_simp
/-- The first fraction is another one. -/
theorem SumAt.set01 {w : World} {b : Nat} {f g f' : Frc} (h : SumAt w b f g) (hf : f'.In w) (ha : Far f'.A b) (hc : Far f'.C b) : SumAt ((w.setCell ⟨b, 0, none⟩ (.slice f'.A f'.l.length f'.c)).setCell ⟨b, 1, none⟩ (.slice f'.C f'.m.length f'.d)) b f' g := by
  obtain ⟨h1, h2, h3, h4, h5, h6, k0, k1, k2, k3, k4, z0, z1, z2, z3, z4⟩ := h
  refine ⟨⟨(hf.n.far ha _ _).far ha _ _, (hf.d.far hc _ _).far hc _ _⟩, ⟨(h2.n.far h5 _ _).far h5 _ _, (h2.d.far h6 _ _).far h6 _ _⟩, ha, hc, h5, h6, ?_, ?_, ?_, ?_, ?_, ?_, ?_, ?_, ?_, ?_⟩ <;> go_simp
theorem SumAt.set23 {w : World} {b : Nat} {f g g' : Frc} (h : SumAt w b f g) (hg : g'.In w) (ha : Far g'.A b) (hc : Far g'.C b) : SumAt ((w.setCell ⟨b, 2, none⟩ (.slice g'.A g'.l.length g'.c)).setCell ⟨b, 3, none⟩ (.slice g'.C g'.m.length g'.d)) b f g' := by
  obtain ⟨h1, h2, h3, h4, h5, h6, k0, k1, k2, k3, k4, z0, z1, z2, z3, z4⟩ := h
  refine ⟨⟨(h1.n.far h3 _ _).far h3 _ _, (h1.d.far h4 _ _).far h4 _ _⟩, ⟨(hg.n.far ha _ _).far ha _ _, (hg.d.far hc _ _).far hc _ _⟩, h3, h4, ha, hc, ?_, ?_, ?_, ?_, ?_, ?_, ?_, ?_, ?_, ?_⟩ <;> go_simp

set_option maxHeartbeats 1000000 in
theorem note_any (b : Nat) (f g : Frc) (w : World) (h : SumAt w b f g) : Calls Tryz.prog 69 #[.pointer (some ⟨b, 0, none⟩), .int .i64 0] w fun e w' => e = .returned (.tuple #[]) ∧ SumAt w' b f g ∧ w' = w.setCell ⟨b, 4, none⟩ (.int .i64 0) := by
  have c4 := h.c4
  have r4 := h.r4
  have H := Lib.hid h.set4
  clear h
  go_enter Tryz.func69, Tryz.ntmps69
  go_wp2_with fail
  go_end0
  exact ⟨rfl, H.out, rfl⟩

set_option maxRecDepth 100000 in
set_option maxHeartbeats 2000000 in
theorem newSum_any (w : World) : Calls Tryz.prog 38 #[] w fun e w' => ∃ b A c, e = .returned (.pointer (some ⟨b, 0, none⟩)) ∧ SumAt w' b ⟨none, 0, [], A, c, limbs 1⟩ ⟨none, 0, [], A, c, limbs 1⟩ ∧ w.heap.size ≤ b ∧ Below w.heap.size w w' := by
  go_enter Tryz.func38, Tryz.ntmps38
  go_wp2_with fail
  refine (whole_any 1 w (by decide)).mono ?_
  rintro e w1 ⟨v, rfl, b1, hb1⟩
  obtain ⟨A, c, rfl, n1⟩ := b1.nt
  go_wp2_with fail
  have hA : Far A (w1.heap.size + 1) := fun a ha => by
    subst ha
    have := (World.ownsRow.lt b1 a.block rfl).2
    omega
  have al := below_alloc (below_alloc (Below.refl w1.heap.size w1) (.cells #[.slice none 0 0, .slice A (limbs 1).length c] 53)) (.cells #[.slice none 0 0, .slice A (limbs 1).length c, .slice none 0 0, .slice A (limbs 1).length c, .int .i64 0] 127)
  have n2 := n1.on al
  have nz : ∀ W : World, Nt W none 0 [] := fun W => ⟨Arr.nil, Nat.le_refl _, Nat.zero_le _, Dig.nil, fun _ => rfl⟩
  have sz := hb1.size
  go_ret
  refine ⟨_, _, _, rfl, ⟨⟨nz _, n2⟩, ⟨nz _, n2⟩, Far.none _, hA, Far.none _, hA, ?_, ?_, ?_, ?_, ?_, ?_, ?_, ?_, ?_, ?_⟩, by omega, below_trans hb1 al⟩
  all_goals go_simp

end Go.Proofs.YteoaaphjbggobaaGreatDoor

namespace Go.Proofs.YteoaaphjbggobaaGreatDoor
open Go.RowKit
set_option linter.unusedVariables false
set_option linter.unusedSimpArgs false

theorem two_valid {f g : Frc} (h1 : f.l.length ≤ 64) (h2 : f.m.length ≤ 64) (h3 : g.l.length ≤ 64) (h4 : g.m.length ≤ 64) (h5 : 0 < V f.m) (h6 : 0 < V g.m) : validE [f, g] = 0 := by
  refine validE_zero.2 ⟨?_, ?_⟩
  · simp [Frc.lng]; omega
  · simp [Frc.zro]; omega
theorem small_sum {x y a b : Nat} (hx : x < B32 ^ 4) (hy : y < B32 ^ 4) (ha : a < B32 ^ 2) (hb : b < B32 ^ 2) : (limbs (x * b + a * y)).length ≤ 64 ∧ (limbs (y * b)).length ≤ 64 ∧ (limbs (x * b)).length ≤ 1000 ∧ (limbs (a * y)).length ≤ 1000 := by
  have h1 : x * b < B32 ^ 6 := by rw [show (6 : Nat) = 4 + 2 from rfl, Nat.pow_add]; exact Nat.mul_lt_mul'' hx hb
  have h2 : a * y < B32 ^ 6 := by rw [show (6 : Nat) = 2 + 4 from rfl, Nat.pow_add]; exact Nat.mul_lt_mul'' ha hy
  have h3 : y * b < B32 ^ 6 := by rw [show (6 : Nat) = 4 + 2 from rfl, Nat.pow_add]; exact Nat.mul_lt_mul'' hy hb
  have h4 : x * b + a * y < B32 ^ 7 := by
    have : B32 ^ 7 = B32 ^ 6 * 4294967296 := Nat.pow_succ ..
    have hp : 0 < B32 ^ 6 := Nat.pow_pos (by decide)
    generalize B32 ^ 6 = P at *
    omega
  exact ⟨Nat.le_trans (limbs_le_of h4) (by decide), Nat.le_trans (limbs_le_of h3) (by decide), Nat.le_trans (limbs_le_of h1) (by decide), Nat.le_trans (limbs_le_of h2) (by decide)⟩

set_option maxRecDepth 100000 in
set_option maxHeartbeats 8000000 in
theorem add_pos (b : Nat) (f g : Frc) (by' n d : Nat) (w : World) (h : SumAt w b f g) (h1 : by' ≤ 65536) (h2 : n ≤ 4096) (h3 : d ≤ 4096) (h4 : 0 < d) (hl : f.l.length ≤ 64) (hm : f.m.length ≤ 64) (hx : V f.l < B32 ^ 4) (hy : V f.m < B32 ^ 4) (hy0 : 0 < V f.m) :
    Calls Tryz.prog 39 #[.pointer (some ⟨b, 0, none⟩), .int .i64 (by' : Int), .int .i64 (n : Int), .int .i64 (d : Int)] w fun e w' => e = .returned (.tuple #[]) ∧ ∃ f', SumAt w' b f' g ∧ f'.l = limbs (rdN (V f.l * rdD (by' * n) d + rdN (by' * n) d * V f.m) (V f.m * rdD (by' * n) d)) ∧ f'.m = limbs (rdD (V f.l * rdD (by' * n) d + rdN (by' * n) d * V f.m) (V f.m * rdD (by' * n) d)) ∧ ∀ K, K ≤ b → Below K w w' := by
  have lb : b < w.heap.size := h.lt
  have c0 := h.c0
  have c1 := h.c1
  have H := Lib.hid h
  have nb : ¬ ((by' : Int) < 0) := by omega
  have w1 := fun w' => whole_any by' w' (by omega)
  have w2 := fun w' => whole_any 1 w' (by decide)
  have w3 := fun w' => whole_any n w' (by omega)
  have w4 := fun w' => whole_any d w' (by omega)
  clear h
  go_enter Tryz.func39, Tryz.ntmps39
  go_wp2_with fail
  refine (w1 _).mono ?_
  rintro e y1 ⟨v1, rfl, b1, hb1⟩
  obtain ⟨A1, a1, rfl, n1⟩ := b1.nt
  go_wp2_with fail
  refine (w2 _).mono ?_
  rintro e y2 ⟨v2, rfl, b2, hb2⟩
  obtain ⟨A2, a2, rfl, n2⟩ := b2.nt
  go_wp2_with fail
  refine (w3 _).mono ?_
  rintro e y3 ⟨v3, rfl, b3, hb3⟩
  obtain ⟨A3, a3, rfl, n3⟩ := b3.nt
  go_wp2_with fail
  refine (w4 _).mono ?_
  rintro e y4 ⟨v4, rfl, b4, hb4⟩
  obtain ⟨A4, a4, rfl, n4⟩ := b4.nt
  have m3 := n3.on hb4
  have m2 := (n2.on hb3).on hb4
  have m1 := ((n1.on hb2).on hb3).on hb4
  have q4 := below_trans hb1 (below_trans hb2 (below_trans hb3 hb4))
  clear w1 w2 w3 w4 b1 b2 b3 b4 n1 n2 n3
  have l1 := limbs_small (n := by') (by omega)
  have l2 := limbs_small (n := 1) (by omega)
  have l3 := limbs_small (n := n) (by omega)
  have l4 := limbs_small (n := d) (by omega)
  have p1 : by' * n ≤ 65536 * 4096 := Nat.mul_le_mul h1 h2
  have l5 := limbs_small (n := by' * n) (by omega)
  have l6 := limbs_small (n := 1 * d) (by omega)
  have cM := FracMul_any ⟨A1, a1, limbs by', A2, a2, limbs 1⟩ ⟨A3, a3, limbs n, A4, a4, limbs d⟩ y4 ⟨m1, m2⟩ ⟨m3, n4⟩ (two_valid (by simp; omega) (by simp; omega) (by simp; omega) (by simp; omega) (by simp [V_limbs]) (by simp [V_limbs]; omega)) (by simp only [V_limbs]; omega) (by simp only [V_limbs]; omega) (by simp only [V_limbs]; omega)
  simp only [V_limbs, Nat.one_mul] at cM
  unfold FrR Frc.val at cM
  go_wp2_with fail
  refine cM.mono ?_
  rintro e y5 ⟨v5, v6, rfl, b5, b6, hb5⟩
  obtain ⟨A5, a5, rfl, n5⟩ := b5.nt
  obtain ⟨A6, a6, rfl, n6⟩ := b6.nt
  go_wp2_with fail
  obtain ⟨N3, hN3⟩ : ∃ N3, rdN (by' * n) d = N3 := ⟨_, rfl⟩
  obtain ⟨D3, hD3⟩ : ∃ D3, rdD (by' * n) d = D3 := ⟨_, rfl⟩
  have rb := rd_le (by' * n) d
  have rp := (rd_spec (a := by' * n) h4).2.2.2.2
  rw [hN3, hD3] at rb
  rw [hD3] at rp
  rw [hN3] at b5 n5
  rw [hD3] at b6 n6
  simp only [hN3, hD3]
  obtain ⟨y6, hy6⟩ : ∃ y6, y5.alloc (.cells #[.slice A5 (limbs N3).length a5, .slice A6 (limbs D3).length a6] 53) = y6 := ⟨_, rfl⟩
  have al := below_alloc (Below.refl y5.heap.size y5) (.cells #[.slice A5 (limbs N3).length a5, .slice A6 (limbs D3).length a6] 53)
  have t0 : y6.cell? ⟨y5.heap.size, 0, none⟩ = some (.slice A5 (limbs N3).length a5) := by subst hy6; go_simp
  have t1 : y6.cell? ⟨y5.heap.size, 1, none⟩ = some (.slice A6 (limbs D3).length a6) := by subst hy6; go_simp
  rw [hy6] at al ⊢
  clear hy6
  have q5 := below_trans q4 hb5
  have q6 := below_trans q5 al
  have s6 := H.out.on q6
  have bl5 : b < y5.heap.size := Nat.lt_of_lt_of_le lb q5.size
  have bl4 : b < y4.heap.size := Nat.lt_of_lt_of_le lb q4.size
  have F5 := Big.far b5 bl4
  have F6 := Big.far b6 bl4
  have hne : b ≠ y5.heap.size := by omega
  refine (note_any b f g y6 s6).mono ?_
  rintro e y7 ⟨rfl, s7, rfl⟩
  have u0 : (y6.setCell ⟨b, 4, none⟩ (.int .i64 0)).drew.cell? ⟨y5.heap.size, 0, none⟩ = some (.slice A5 (limbs N3).length a5) := (World.cell?_setCell_far _ _ _ _ hne).trans t0
  have u1 : (y6.setCell ⟨b, 4, none⟩ (.int .i64 0)).drew.cell? ⟨y5.heap.size, 1, none⟩ = some (.slice A6 (limbs D3).length a6) := (World.cell?_setCell_far _ _ _ _ hne).trans t1
  have f3 : (⟨A5, a5, limbs N3, A6, a6, limbs D3⟩ : Frc).In (y6.setCell ⟨b, 4, none⟩ (.int .i64 0)) := ⟨(n5.on al).far F5 _ _, (n6.on al).far F6 _ _⟩
  have B7 : ∀ K, K ≤ b → Below K w (y6.setCell ⟨b, 4, none⟩ (.int .i64 0)) := fun K hK => (q6.mono (by omega)).setCell (p := ⟨b, 4, none⟩) hK _
  obtain ⟨y7, hy7⟩ : ∃ y7, y6.setCell ⟨b, 4, none⟩ (.int .i64 0) = y7 := ⟨_, rfl⟩
  rw [hy7] at s7 u0 u1 f3 B7 ⊢
  clear hy7 q6 q5 q4 al t0 t1 s6 cM n5 n6 b5 b6 F5 F6 m1 m2 m3 n4 c0 c1
  have S7 : SumAt y7.drew b f g := s7.on (Below.refl _ _).drew
  have f3' := f3.on (w' := y7.drew) (Below.refl _ _).drew
  have k0 := S7.c0
  have k1 := S7.c1
  obtain ⟨z1, z2, z3, z4⟩ := small_sum (x := V f.l) (y := V f.m) (a := N3) (b := D3) hx hy (Nat.lt_of_le_of_lt rb.1 (Nat.lt_of_le_of_lt p1 (by decide))) (Nat.lt_of_le_of_lt rb.2 (Nat.lt_of_le_of_lt h3 (by decide)))
  have l7 := limbs_small (n := N3) (by omega)
  have l8 := limbs_small (n := D3) (by omega)
  have cA := FracAdd_any f ⟨A5, a5, limbs N3, A6, a6, limbs D3⟩ y7.drew S7.fi f3' (two_valid hl hm (by simp; omega) (by simp; omega) hy0 (by simp [V_limbs]; omega)) (by simp only [V_limbs]; exact z1) (by simp only [V_limbs]; exact z3) (by simp only [V_limbs]; exact z4) (by simp only [V_limbs]; exact z2) (by simp only [V_limbs]; exact Nat.mul_pos hy0 rp)
  simp only [V_limbs] at cA
  unfold FrR Frc.val at cA
  obtain ⟨X, hX⟩ : ∃ X, rdN (V f.l * D3 + N3 * V f.m) (V f.m * D3) = X := ⟨_, rfl⟩
  obtain ⟨Y, hY⟩ : ∃ Y, rdD (V f.l * D3 + N3 * V f.m) (V f.m * D3) = Y := ⟨_, rfl⟩
  have E1 := Lib.hid (show rdN (V f.l * rdD (by' * n) d + rdN (by' * n) d * V f.m) (V f.m * rdD (by' * n) d) = X by rw [hN3, hD3, hX])
  have E2 := Lib.hid (show rdD (V f.l * rdD (by' * n) d + rdN (by' * n) d * V f.m) (V f.m * rdD (by' * n) d) = Y by rw [hN3, hD3, hY])
  simp only [hX, hY] at cA
  have lb7 : b < y7.drew.heap.size := S7.lt
  have HS7 := Lib.hid S7
  clear hx hy hX hY z1 z2 z3 z4 p1 rb rp hN3 hD3 S7 s7 f3 f3' l1 l2 l3 l4 l5 l6
  go_wp2_with fail
  go_region_with (go_at_call 70; refine cA.mono ?_; rintro e y8 ⟨v8, v9, rfl, b8, b9, hb8⟩; obtain ⟨A8, a8, hv8, n8⟩ := b8.nt; obtain ⟨A9, a9, hv9, n9⟩ := b9.nt; subst hv8 hv9; have s8 := HS7.out.on hb8; have e0 := s8.c0; have e1 := s8.c1; have e2 := s8.r0; have e3 := s8.r1)
  all_goals (
    have S8 := HS7.out.on hb8
    have S9 := S8.set01 (f' := ⟨A8, a8, limbs X, A9, a9, limbs Y⟩) ⟨n8, n9⟩ (Big.far b8 lb7) (Big.far b9 lb7)
    have lk : ∀ K, K ≤ b → K ≤ y7.drew.heap.size := fun K hK => Nat.le_trans hK (Nat.le_of_lt lb7)
    have B9 := fun K (hK : K ≤ b) => ((((B7 K hK).drew).trans (hb8.mono (lk K hK))).setCell (p := ⟨b, 0, none⟩) hK (.slice A8 (limbs X).length a8)).setCell (p := ⟨b, 1, none⟩) hK (.slice A9 (limbs Y).length a9)
    clear e0 e1 e2 e3 k0 k1 u0 u1 cA HS7 S8 s8 lk B7
    go_wp2_with fail
    refine (note_any b _ g _ S9).mono ?_
    rintro e y9 ⟨rfl, S10, rfl⟩
    go_wp2_with fail
    go_end0
    exact ⟨rfl, _, S10, (congrArg limbs E1.out).symm, (congrArg limbs E2.out).symm, fun K hK => (B9 K hK).setCell (p := ⟨b, 4, none⟩) hK _⟩)

end Go.Proofs.YteoaaphjbggobaaGreatDoor

namespace Go.Proofs.YteoaaphjbggobaaGreatDoor
open Go.RowKit
set_option linter.unusedVariables false
set_option linter.unusedSimpArgs false

set_option maxRecDepth 100000 in
set_option maxHeartbeats 8000000 in
theorem add_neg (b : Nat) (f g : Frc) (by' n d : Nat) (w : World) (h : SumAt w b f g) (h0 : 0 < by') (h1 : by' ≤ 65536) (h2 : n ≤ 4096) (h3 : d ≤ 4096) (h4 : 0 < d) (hl : g.l.length ≤ 64) (hm : g.m.length ≤ 64) (hx : V g.l < B32 ^ 4) (hy : V g.m < B32 ^ 4) (hy0 : 0 < V g.m) :
    Calls Tryz.prog 39 #[.pointer (some ⟨b, 0, none⟩), .int .i64 (-(by' : Int)), .int .i64 (n : Int), .int .i64 (d : Int)] w fun e w' => e = .returned (.tuple #[]) ∧ ∃ g', SumAt w' b f g' ∧ g'.l = limbs (rdN (V g.l * rdD (by' * n) d + rdN (by' * n) d * V g.m) (V g.m * rdD (by' * n) d)) ∧ g'.m = limbs (rdD (V g.l * rdD (by' * n) d + rdN (by' * n) d * V g.m) (V g.m * rdD (by' * n) d)) ∧ ∀ K, K ≤ b → Below K w w' := by
  have lb : b < w.heap.size := h.lt
  have c0 := h.c2
  have c1 := h.c3
  have H := Lib.hid h
  have nb : -(by' : Int) < 0 := by omega
  have w1 := fun w' => whole_any by' w' (by omega)
  have w2 := fun w' => whole_any 1 w' (by decide)
  have w3 := fun w' => whole_any n w' (by omega)
  have w4 := fun w' => whole_any d w' (by omega)
  clear h
  go_enter Tryz.func39, Tryz.ntmps39
  go_wp2_with fail
  refine (w1 _).mono ?_
  rintro e y1 ⟨v1, rfl, b1, hb1⟩
  obtain ⟨A1, a1, rfl, n1⟩ := b1.nt
  go_wp2_with fail
  refine (w2 _).mono ?_
  rintro e y2 ⟨v2, rfl, b2, hb2⟩
  obtain ⟨A2, a2, rfl, n2⟩ := b2.nt
  go_wp2_with fail
  refine (w3 _).mono ?_
  rintro e y3 ⟨v3, rfl, b3, hb3⟩
  obtain ⟨A3, a3, rfl, n3⟩ := b3.nt
  go_wp2_with fail
  refine (w4 _).mono ?_
  rintro e y4 ⟨v4, rfl, b4, hb4⟩
  obtain ⟨A4, a4, rfl, n4⟩ := b4.nt
  have m3 := n3.on hb4
  have m2 := (n2.on hb3).on hb4
  have m1 := ((n1.on hb2).on hb3).on hb4
  have q4 := below_trans hb1 (below_trans hb2 (below_trans hb3 hb4))
  clear w1 w2 w3 w4 b1 b2 b3 b4 n1 n2 n3
  have l1 := limbs_small (n := by') (by omega)
  have l2 := limbs_small (n := 1) (by omega)
  have l3 := limbs_small (n := n) (by omega)
  have l4 := limbs_small (n := d) (by omega)
  have p1 : by' * n ≤ 65536 * 4096 := Nat.mul_le_mul h1 h2
  have l5 := limbs_small (n := by' * n) (by omega)
  have l6 := limbs_small (n := 1 * d) (by omega)
  have cM := FracMul_any ⟨A1, a1, limbs by', A2, a2, limbs 1⟩ ⟨A3, a3, limbs n, A4, a4, limbs d⟩ y4 ⟨m1, m2⟩ ⟨m3, n4⟩ (two_valid (by simp; omega) (by simp; omega) (by simp; omega) (by simp; omega) (by simp [V_limbs]) (by simp [V_limbs]; omega)) (by simp only [V_limbs]; omega) (by simp only [V_limbs]; omega) (by simp only [V_limbs]; omega)
  simp only [V_limbs, Nat.one_mul] at cM
  unfold FrR Frc.val at cM
  go_wp2_with fail
  refine cM.mono ?_
  rintro e y5 ⟨v5, v6, rfl, b5, b6, hb5⟩
  obtain ⟨A5, a5, rfl, n5⟩ := b5.nt
  obtain ⟨A6, a6, rfl, n6⟩ := b6.nt
  go_wp2_with fail
  obtain ⟨N3, hN3⟩ : ∃ N3, rdN (by' * n) d = N3 := ⟨_, rfl⟩
  obtain ⟨D3, hD3⟩ : ∃ D3, rdD (by' * n) d = D3 := ⟨_, rfl⟩
  have rb := rd_le (by' * n) d
  have rp := (rd_spec (a := by' * n) h4).2.2.2.2
  rw [hN3, hD3] at rb
  rw [hD3] at rp
  rw [hN3] at b5 n5
  rw [hD3] at b6 n6
  simp only [hN3, hD3]
  obtain ⟨y6, hy6⟩ : ∃ y6, y5.alloc (.cells #[.slice A5 (limbs N3).length a5, .slice A6 (limbs D3).length a6] 53) = y6 := ⟨_, rfl⟩
  have al := below_alloc (Below.refl y5.heap.size y5) (.cells #[.slice A5 (limbs N3).length a5, .slice A6 (limbs D3).length a6] 53)
  have t0 : y6.cell? ⟨y5.heap.size, 0, none⟩ = some (.slice A5 (limbs N3).length a5) := by subst hy6; go_simp
  have t1 : y6.cell? ⟨y5.heap.size, 1, none⟩ = some (.slice A6 (limbs D3).length a6) := by subst hy6; go_simp
  rw [hy6] at al ⊢
  clear hy6
  have q5 := below_trans q4 hb5
  have q6 := below_trans q5 al
  have s6 := H.out.on q6
  have bl5 : b < y5.heap.size := Nat.lt_of_lt_of_le lb q5.size
  have bl4 : b < y4.heap.size := Nat.lt_of_lt_of_le lb q4.size
  have F5 := Big.far b5 bl4
  have F6 := Big.far b6 bl4
  have hne : b ≠ y5.heap.size := by omega
  refine (note_any b f g y6 s6).mono ?_
  rintro e y7 ⟨rfl, s7, rfl⟩
  have u0 : (y6.setCell ⟨b, 4, none⟩ (.int .i64 0)).drew.cell? ⟨y5.heap.size, 0, none⟩ = some (.slice A5 (limbs N3).length a5) := (World.cell?_setCell_far _ _ _ _ hne).trans t0
  have u1 : (y6.setCell ⟨b, 4, none⟩ (.int .i64 0)).drew.cell? ⟨y5.heap.size, 1, none⟩ = some (.slice A6 (limbs D3).length a6) := (World.cell?_setCell_far _ _ _ _ hne).trans t1
  have f3 : (⟨A5, a5, limbs N3, A6, a6, limbs D3⟩ : Frc).In (y6.setCell ⟨b, 4, none⟩ (.int .i64 0)) := ⟨(n5.on al).far F5 _ _, (n6.on al).far F6 _ _⟩
  have B7 : ∀ K, K ≤ b → Below K w (y6.setCell ⟨b, 4, none⟩ (.int .i64 0)) := fun K hK => (q6.mono (by omega)).setCell (p := ⟨b, 4, none⟩) hK _
  obtain ⟨y7, hy7⟩ : ∃ y7, y6.setCell ⟨b, 4, none⟩ (.int .i64 0) = y7 := ⟨_, rfl⟩
  rw [hy7] at s7 u0 u1 f3 B7 ⊢
  clear hy7 q6 q5 q4 al t0 t1 s6 cM n5 n6 b5 b6 F5 F6 m1 m2 m3 n4 c0 c1
  have S7 : SumAt y7.drew b f g := s7.on (Below.refl _ _).drew
  have f3' := f3.on (w' := y7.drew) (Below.refl _ _).drew
  have k0 := S7.c2
  have k1 := S7.c3
  obtain ⟨z1, z2, z3, z4⟩ := small_sum (x := V g.l) (y := V g.m) (a := N3) (b := D3) hx hy (Nat.lt_of_le_of_lt rb.1 (Nat.lt_of_le_of_lt p1 (by decide))) (Nat.lt_of_le_of_lt rb.2 (Nat.lt_of_le_of_lt h3 (by decide)))
  have l7 := limbs_small (n := N3) (by omega)
  have l8 := limbs_small (n := D3) (by omega)
  have cA := FracAdd_any g ⟨A5, a5, limbs N3, A6, a6, limbs D3⟩ y7.drew S7.gi f3' (two_valid hl hm (by simp; omega) (by simp; omega) hy0 (by simp [V_limbs]; omega)) (by simp only [V_limbs]; exact z1) (by simp only [V_limbs]; exact z3) (by simp only [V_limbs]; exact z4) (by simp only [V_limbs]; exact z2) (by simp only [V_limbs]; exact Nat.mul_pos hy0 rp)
  simp only [V_limbs] at cA
  unfold FrR Frc.val at cA
  obtain ⟨X, hX⟩ : ∃ X, rdN (V g.l * D3 + N3 * V g.m) (V g.m * D3) = X := ⟨_, rfl⟩
  obtain ⟨Y, hY⟩ : ∃ Y, rdD (V g.l * D3 + N3 * V g.m) (V g.m * D3) = Y := ⟨_, rfl⟩
  have E1 := Lib.hid (show rdN (V g.l * rdD (by' * n) d + rdN (by' * n) d * V g.m) (V g.m * rdD (by' * n) d) = X by rw [hN3, hD3, hX])
  have E2 := Lib.hid (show rdD (V g.l * rdD (by' * n) d + rdN (by' * n) d * V g.m) (V g.m * rdD (by' * n) d) = Y by rw [hN3, hD3, hY])
  simp only [hX, hY] at cA
  have lb7 : b < y7.drew.heap.size := S7.lt
  have HS7 := Lib.hid S7
  clear hx hy hX hY z1 z2 z3 z4 p1 rb rp hN3 hD3 S7 s7 f3 f3' l1 l2 l3 l4 l5 l6
  go_wp2_with fail
  go_region_with (go_at_call 70; refine cA.mono ?_; rintro e y8 ⟨v8, v9, rfl, b8, b9, hb8⟩; obtain ⟨A8, a8, hv8, n8⟩ := b8.nt; obtain ⟨A9, a9, hv9, n9⟩ := b9.nt; subst hv8 hv9; have s8 := HS7.out.on hb8; have e0 := s8.c2; have e1 := s8.c3; have e2 := s8.r2; have e3 := s8.r3)
  all_goals (
    have S8 := HS7.out.on hb8
    have S9 := S8.set23 (g' := ⟨A8, a8, limbs X, A9, a9, limbs Y⟩) ⟨n8, n9⟩ (Big.far b8 lb7) (Big.far b9 lb7)
    have lk : ∀ K, K ≤ b → K ≤ y7.drew.heap.size := fun K hK => Nat.le_trans hK (Nat.le_of_lt lb7)
    have B9 := fun K (hK : K ≤ b) => ((((B7 K hK).drew).trans (hb8.mono (lk K hK))).setCell (p := ⟨b, 2, none⟩) hK (.slice A8 (limbs X).length a8)).setCell (p := ⟨b, 3, none⟩) hK (.slice A9 (limbs Y).length a9)
    clear e0 e1 e2 e3 k0 k1 u0 u1 cA HS7 S8 s8 lk B7
    go_wp2_with fail
    refine (note_any b f _ _ S9).mono ?_
    rintro e y9 ⟨rfl, S10, rfl⟩
    go_wp2_with fail
    go_end0
    exact ⟨rfl, _, S10, (congrArg limbs E1.out).symm, (congrArg limbs E2.out).symm, fun K hK => (B9 K hK).setCell (p := ⟨b, 4, none⟩) hK _⟩)


end Go.Proofs.YteoaaphjbggobaaGreatDoor

namespace Go.Proofs.YteoaaphjbggobaaGreatDoor
open Go.RowKit
set_option linter.unusedVariables false
set_option linter.unusedSimpArgs false

/-- The sum in block b: x/T is added, y/T is taken away. -/
def SumR (w : World) (b x y T : Nat) : Prop := ∃ f g : Frc, SumAt w b f g ∧ f.l = limbs (rdN x T) ∧ f.m = limbs (rdD x T) ∧ g.l = limbs (rdN y T) ∧ g.m = limbs (rdD y T)
theorem SumR.on {w w' : World} {b x y T : Nat} (h : SumR w b x y T) (hb : Below w.heap.size w w') : SumR w' b x y T := by
  obtain ⟨f, g, h1, h2⟩ := h
  exact ⟨f, g, h1.on hb, h2⟩
theorem SumR.lt {w : World} {b x y T : Nat} (h : SumR w b x y T) : b < w.heap.size := by
  obtain ⟨f, g, h1, _⟩ := h
  exact h1.lt
theorem newSum_rep (T : Nat) (hT : 0 < T) (w : World) : Calls Tryz.prog 38 #[] w fun e w' => ∃ b, e = .returned (.pointer (some ⟨b, 0, none⟩)) ∧ SumR w' b 0 0 T ∧ w.heap.size ≤ b ∧ Below w.heap.size w w' := by
  refine (newSum_any w).mono ?_
  rintro e w' ⟨b, A, c, rfl, h, hb, hw⟩
  obtain ⟨z0, z1⟩ := rd_zero hT
  exact ⟨b, rfl, ⟨_, _, h, by rw [z0, limbs_zero], by rw [z1], by rw [z0, limbs_zero], by rw [z1]⟩, hb, hw⟩
theorem rep_step {x T p n d t : Nat} (hT : 0 < T) (hd : 0 < d) (ht : d * t = T) :
    rdN (rdN x T * rdD (p * n) d + rdN (p * n) d * rdD x T) (rdD x T * rdD (p * n) d) = rdN (x + p * n * t) T ∧ rdD (rdN x T * rdD (p * n) d + rdN (p * n) d * rdD x T) (rdD x T * rdD (p * n) d) = rdD (x + p * n * t) T := by
  have r1 : Rep (rdN x T) (rdD x T) x T := rep_rd hT
  have r2 : Rep (rdN (p * n) d) (rdD (p * n) d) (p * n * t) T := by
    have h := (rep_term (by' := p) (n := n) hd ht).rd hT
    rw [h.1, h.2]
    exact rep_rd hT
  exact (r1.add r2).rd hT
def posN (c : Int) : Nat := c.toNat
def negN (c : Int) : Nat := (-c).toNat
theorem limbs_4 {n : Nat} (h : n < B32 ^ 4) : (limbs n).length ≤ 64 := Nat.le_trans (limbs_le_of h) (by decide)

set_option maxHeartbeats 1000000 in
theorem add_rep (b x y T n d t : Nat) (c : Int) (w : World) (h : SumR w b x y T) (hc : -65536 ≤ c ∧ c ≤ 65536) (hn : n ≤ 4096) (hd : d ≤ 4096) (hd0 : 0 < d) (ht : d * t = T) (hT : 0 < T) (hx : x < B32 ^ 4) (hy : y < B32 ^ 4) (hT4 : T < B32 ^ 4) :
    Calls Tryz.prog 39 #[.pointer (some ⟨b, 0, none⟩), .int .i64 c, .int .i64 (n : Int), .int .i64 (d : Int)] w fun e w' => e = .returned (.tuple #[]) ∧ SumR w' b (x + posN c * n * t) (y + negN c * n * t) T ∧ ∀ K, K ≤ b → Below K w w' := by
  obtain ⟨f, g, hS, f1, f2, g1, g2⟩ := h
  have vf : V f.l = rdN x T := by rw [f1, V_limbs]
  have vm : V f.m = rdD x T := by rw [f2, V_limbs]
  have vg : V g.l = rdN y T := by rw [g1, V_limbs]
  have vn : V g.m = rdD y T := by rw [g2, V_limbs]
  have bx := rd_le x T
  have bY := rd_le y T
  have px : 0 < rdD x T := (rd_spec hT).2.2.2.2
  have py : 0 < rdD y T := (rd_spec hT).2.2.2.2
  rcases Int.lt_or_le c 0 with hneg | hpos
  · have e1 : posN c = 0 := by unfold posN; omega
    obtain ⟨p, hp⟩ : ∃ p : Nat, c = -(p : Int) := ⟨(-c).toNat, by omega⟩
    have e2 : negN c = p := by unfold negN; omega
    rw [e1, e2, hp]
    refine (add_neg b f g p n d w hS (by omega) (by omega) hn hd hd0 (by rw [g1]; exact limbs_4 (Nat.lt_of_le_of_lt bY.1 hy)) (by rw [g2]; exact limbs_4 (Nat.lt_of_le_of_lt bY.2 hT4)) (by rw [vg]; exact Nat.lt_of_le_of_lt bY.1 hy) (by rw [vn]; exact Nat.lt_of_le_of_lt bY.2 hT4) (by rw [vn]; exact py)).mono ?_
    rintro e w' ⟨rfl, g', h1, h2, h3, h4⟩
    rw [vg, vn] at h2 h3
    have st := rep_step (x := y) (p := p) (n := n) hT hd0 ht
    rw [st.1] at h2
    rw [st.2] at h3
    exact ⟨rfl, ⟨f, g', h1, by rw [Nat.zero_mul, Nat.zero_mul, Nat.add_zero]; exact f1, by rw [Nat.zero_mul, Nat.zero_mul, Nat.add_zero]; exact f2, h2, h3⟩, h4⟩
  · have e1 : negN c = 0 := by unfold negN; omega
    obtain ⟨p, rfl⟩ := Int.eq_ofNat_of_zero_le hpos
    have e2 : posN (p : Int) = p := by unfold posN; omega
    rw [e1, e2]
    refine (add_pos b f g p n d w hS (by omega) hn hd hd0 (by rw [f1]; exact limbs_4 (Nat.lt_of_le_of_lt bx.1 hx)) (by rw [f2]; exact limbs_4 (Nat.lt_of_le_of_lt bx.2 hT4)) (by rw [vf]; exact Nat.lt_of_le_of_lt bx.1 hx) (by rw [vm]; exact Nat.lt_of_le_of_lt bx.2 hT4) (by rw [vm]; exact px)).mono ?_
    rintro e w' ⟨rfl, f', h1, h2, h3, h4⟩
    rw [vf, vm] at h2 h3
    have st := rep_step (x := x) (p := p) (n := n) hT hd0 ht
    rw [st.1] at h2
    rw [st.2] at h3
    exact ⟨rfl, ⟨f', g, h1, h2, h3, by rw [Nat.zero_mul, Nat.zero_mul, Nat.add_zero]; exact g1, by rw [Nat.zero_mul, Nat.zero_mul, Nat.add_zero]; exact g2⟩, h4⟩

set_option maxHeartbeats 1000000 in
theorem heard_rep (b x y T t : Nat) (a h z : Nat) (c : Int) (w : World) (hS : SumR w b x y T) (hc : -65536 ≤ c ∧ c ≤ 65536) (hn : h ≤ 4096) (hd : a ≤ 4096) (hd0 : 0 < a) (ht : a * t = T) (hT : 0 < T) (hx : x < B32 ^ 4) (hy : y < B32 ^ 4) (hT4 : T < B32 ^ 4) :
    Calls Tryz.prog 40 #[.func (.func 39) #[.pointer (some ⟨b, 0, none⟩)] #[], .int .i64 c, .agg #[.int .i64 (a : Int), .int .i64 (h : Int), .int .i64 (z : Int)]] w fun e w' => e = .returned (.tuple #[]) ∧ SumR w' b (x + posN c * h * t) (y + negN c * h * t) T ∧ ∀ K, K ≤ b → Below K w w' := by
  have al := below_alloc (Below.refl w.heap.size w) (.cells #[.int .i64 (a : Int), .int .i64 (h : Int), .int .i64 (z : Int)] 62)
  have cA := add_rep b x y T h a t c _ (hS.on al) hc hn hd hd0 ht hT hx hy hT4
  have lb := hS.lt
  clear hx hy hT4 hc hS
  go_enter Tryz.func40, Tryz.ntmps40
  go_wp2_with fail
  refine cA.mono ?_
  rintro e w2 ⟨rfl, s2, hb2⟩
  go_wp2_with fail
  go_end0
  exact ⟨rfl, s2, fun K hK => (al.mono (by omega)).trans (hb2 K hK)⟩
set_option maxHeartbeats 1000000 in
theorem wrong_rep (b x y T t : Nat) (a h z : Nat) (c : Int) (w : World) (hS : SumR w b x y T) (hc : -65536 ≤ c ∧ c ≤ 65536) (hn : z ≤ 4096) (hd : a ≤ 4096) (hd0 : 0 < a) (ht : a * t = T) (hT : 0 < T) (hx : x < B32 ^ 4) (hy : y < B32 ^ 4) (hT4 : T < B32 ^ 4) :
    Calls Tryz.prog 42 #[.func (.func 39) #[.pointer (some ⟨b, 0, none⟩)] #[], .int .i64 c, .agg #[.int .i64 (a : Int), .int .i64 (h : Int), .int .i64 (z : Int)]] w fun e w' => e = .returned (.tuple #[]) ∧ SumR w' b (x + posN c * z * t) (y + negN c * z * t) T ∧ ∀ K, K ≤ b → Below K w w' := by
  have al := below_alloc (Below.refl w.heap.size w) (.cells #[.int .i64 (a : Int), .int .i64 (h : Int), .int .i64 (z : Int)] 62)
  have cA := add_rep b x y T z a t c _ (hS.on al) hc hn hd hd0 ht hT hx hy hT4
  have lb := hS.lt
  clear hx hy hT4 hc hS
  go_enter Tryz.func42, Tryz.ntmps42
  go_wp2_with fail
  refine cA.mono ?_
  rintro e w2 ⟨rfl, s2, hb2⟩
  go_wp2_with fail
  go_end0
  exact ⟨rfl, s2, fun K hK => (al.mono (by omega)).trans (hb2 K hK)⟩

end Go.Proofs.YteoaaphjbggobaaGreatDoor

namespace Go.Proofs.YteoaaphjbggobaaGreatDoor
open Go.RowKit
set_option linter.unusedVariables false
set_option linter.unusedSimpArgs false

/-- What over hands back: the fraction m/D, reduced. -/
def OvR (w w' : World) (b m D : Nat) (e : Ending) : Prop := ∃ v1 v2, e = .returned (.tuple #[.agg #[v1, v2], .int .i64 0]) ∧ Big w' w.heap.size v1 (rdN m D) ∧ Big w' w.heap.size v2 (rdD m D) ∧ ∀ K, K ≤ b → Below K w w'

set_option maxRecDepth 100000 in
set_option maxHeartbeats 8000000 in
theorem over_low (b x y T d : Nat) (w : World) (hS : SumR w b x y T) (hd : 0 < d) (hd2 : d ≤ 65536) (hT : 0 < T) (hx : x < B32 ^ 4) (hy : y < B32 ^ 4) (hT4 : T < B32 ^ 4) (hxy : x ≤ y) :
    Calls Tryz.prog 41 #[.pointer (some ⟨b, 0, none⟩), .int .i64 (d : Int)] w fun e w' => OvR w w' b 0 (T * d) e := by
  have lb := hS.lt
  have al := below_alloc (Below.refl w.heap.size w) (.cells #[.slice none 0 0, .slice none 0 0] 53)
  obtain ⟨f, g, hA, f1, f2, g1, g2⟩ := hS.on al
  have bx := rd_le x T
  have bY := rd_le y T
  have px : 0 < rdD x T := (rd_spec hT).2.2.2.2
  have py : 0 < rdD y T := (rd_spec hT).2.2.2.2
  have hv : validE [f, g] = 0 := two_valid (by rw [f1]; exact limbs_4 (Nat.lt_of_le_of_lt bx.1 hx)) (by rw [f2]; exact limbs_4 (Nat.lt_of_le_of_lt bx.2 hT4)) (by rw [g1]; exact limbs_4 (Nat.lt_of_le_of_lt bY.1 hy)) (by rw [g2]; exact limbs_4 (Nat.lt_of_le_of_lt bY.2 hT4)) (by rw [f2, V_limbs]; exact px) (by rw [g2, V_limbs]; exact py)
  have cC := fun w' (hi : f.In w') (hj : g.In w') => FracCompare_any f g w' hi hj
  have hc : ∃ o, fcmpI f g = o ∧ o ≤ 0 := by
    refine ⟨_, rfl, ?_⟩
    unfold fcmpI
    rw [if_pos hv, f1, f2, g1, g2, V_limbs, V_limbs, V_limbs, V_limbs]
    have := ((rep_rd (x := y) hT).le (rep_rd (x := x) hT) hT).2 hxy
    unfold cmpI
    split
    · decide
    · split
      · decide
      · omega
  obtain ⟨o, ho, ho0⟩ := hc
  rw [hv, ho] at cC
  unfold Frc.val at cC
  have F1 := Lib.hid f1; have F2 := Lib.hid f2; have G1 := Lib.hid g1; have G2 := Lib.hid g2
  clear ho hv bx bY px py hx hy hT4 f1 f2 g1 g2
  go_enter Tryz.func41, Tryz.ntmps41
  go_upto_region 1 with fail
  obtain ⟨W, hW⟩ : ∃ W, w.alloc (.cells #[.slice none 0 0, .slice none 0 0] 53) = W := ⟨_, rfl⟩
  have r0 : W.cell? ⟨w.heap.size, 0, none⟩ = some (.slice none 0 0) ∧ W.frozen? ⟨w.heap.size, 0, none⟩ = false := by subst hW; exact ⟨by go_simp, by go_simp⟩
  have r1 : W.cell? ⟨w.heap.size, 1, none⟩ = some (.slice none 0 0) ∧ W.frozen? ⟨w.heap.size, 1, none⟩ = false := by subst hW; exact ⟨by go_simp, by go_simp⟩
  rw [hW] at al hA ⊢
  clear hW
  have A0 := Lib.hid hA
  have A0 := Lib.hid hA
  have L0 := fun w' (hb : Below W.heap.size W w') => (A0.out.on hb).c0
  have L1 := fun w' (hb : Below W.heap.size W w') => (A0.out.on hb).c1
  have L2 := fun w' (hb : Below W.heap.size W w') => (A0.out.on hb).c2
  have L3 := fun w' (hb : Below W.heap.size W w') => (A0.out.on hb).c3
  have AD : SumAt W.drew b f g := hA.on (Below.refl _ _).drew
  have cD := cC W.drew AD.fi AD.gi
  clear hA cC AD
  go_wp2_with fail
  refine wp_region_held_drew (S := fun w' => Below W.heap.size W w') (by kernel_rfl) (Below.refl _ _).drew (fun hHeld => ?_)
  (refine wpAnyH_take (i := 0) (v := ?_) rfl (by kernel_rfl) (by kernel_rfl) (by kernel_rfl) (fun _ _ _ h => h) (Or.inl ⟨by rfl, ?_⟩) (by assumption) ?_; rotate_left 1; (focus (intro wz hSz; (try dsimp only at hSz); go_simp; (try with_reducible rfl))); (try simp only [Act.put, List.setIfInBounds_toArray, List.set_cons_zero, List.set_cons_succ]))
  (refine wpAnyH_take (i := 1) (v := ?_) rfl (by kernel_rfl) (by kernel_rfl) (by kernel_rfl) (fun _ _ _ h => h) (Or.inl ⟨by rfl, ?_⟩) (by assumption) ?_; rotate_left 1; (focus (intro wz hSz; (try dsimp only at hSz); go_simp; (try with_reducible rfl))); (try simp only [Act.put, List.setIfInBounds_toArray, List.set_cons_zero, List.set_cons_succ]))
  (refine wpAnyH_take (i := 2) (v := ?_) rfl (by kernel_rfl) (by kernel_rfl) (by kernel_rfl) (fun _ _ _ h => h) (Or.inl ⟨by rfl, ?_⟩) (by assumption) ?_; rotate_left 1; (focus (intro wz hSz; (try dsimp only at hSz); go_simp; (try with_reducible rfl))); (try simp only [Act.put, List.setIfInBounds_toArray, List.set_cons_zero, List.set_cons_succ]))
  (refine wpAnyH_take (i := 3) (v := ?_) rfl (by kernel_rfl) (by kernel_rfl) (by kernel_rfl) (fun _ _ _ h => h) (Or.inl ⟨by rfl, ?_⟩) (by assumption) ?_; rotate_left 1; (focus (intro wz hSz; (try dsimp only at hSz); go_simp; (try with_reducible rfl))); (try simp only [Act.put, List.setIfInBounds_toArray, List.set_cons_zero, List.set_cons_succ]))
  (refine wpAnyH_take (i := 4) (v := ?_) rfl (by kernel_rfl) (by kernel_rfl) (by kernel_rfl) (fun _ _ _ h => h) (Or.inl ⟨by rfl, ?_⟩) (by assumption) ?_; rotate_left 1; (focus (intro wz hSz; (try dsimp only at hSz); go_simp; (try with_reducible rfl))); (try simp only [Act.put, List.setIfInBounds_toArray, List.set_cons_zero, List.set_cons_succ]))
  (refine wpAnyH_take (i := 5) (v := ?_) rfl (by kernel_rfl) (by kernel_rfl) (by kernel_rfl) (fun _ _ _ h => h) (Or.inl ⟨by rfl, ?_⟩) (by assumption) ?_; rotate_left 1; (focus (intro wz hSz; (try dsimp only at hSz); go_simp; (try with_reducible rfl))); (try simp only [Act.put, List.setIfInBounds_toArray, List.set_cons_zero, List.set_cons_succ]))
  (refine wpAnyH_take (i := 6) (v := ?_) rfl (by kernel_rfl) (by kernel_rfl) (by kernel_rfl) (fun _ _ _ h => h) (Or.inl ⟨by rfl, ?_⟩) (by assumption) ?_; rotate_left 1; (focus (intro wz hSz; (try dsimp only at hSz); go_simp; (try with_reducible rfl))); (try simp only [Act.put, List.setIfInBounds_toArray, List.set_cons_zero, List.set_cons_succ]))
  (refine wpAnyH_take (i := 7) (v := ?_) rfl (by kernel_rfl) (by kernel_rfl) (by kernel_rfl) (fun _ _ _ h => h) (Or.inl ⟨by rfl, ?_⟩) (by assumption) ?_; rotate_left 1; (focus (intro wz hSz; (try dsimp only at hSz); go_simp; (try with_reducible rfl))); (try simp only [Act.put, List.setIfInBounds_toArray, List.set_cons_zero, List.set_cons_succ]))
  refine wpAnyH_ready (rs := [8]) (by kernel_rfl) (by simp) ?_
  refine AllReadyH.cons rfl (fun Kk hKk => ?_) AllReadyH.nil
  go_simp
  refine cD.mono ?_
  rintro e y1 ⟨rfl, hx1⟩
  have B1 : Below W.heap.size W y1 := below_trans (Below.refl _ _).drew hx1
  go_wp2_with fail
  refine hKk.out _ _ B1 (fun hHeld2 => ?_)
  clear hKk Kk
  try simp only [Act.put, List.setIfInBounds_toArray, List.set_cons_zero, List.set_cons_succ]
  (refine wpAnyH_take (i := 9) (v := ?_) rfl (by kernel_rfl) (by kernel_rfl) (by kernel_rfl) (fun _ _ _ h => h) (Or.inl ⟨by rfl, ?_⟩) (by assumption) ?_; rotate_left 1; (focus (intro wz hSz; (try dsimp only at hSz); go_simp; (try with_reducible rfl))); (try simp only [Act.put, List.setIfInBounds_toArray, List.set_cons_zero, List.set_cons_succ]))
  (refine wpAnyH_take (i := 10) (v := ?_) rfl (by kernel_rfl) (by kernel_rfl) (by kernel_rfl) (fun _ _ _ h => h) (Or.inl ⟨by rfl, ?_⟩) (by assumption) ?_; rotate_left 1; (focus (intro wz hSz; (try dsimp only at hSz); go_simp; (try with_reducible rfl))); (try simp only [Act.put, List.setIfInBounds_toArray, List.set_cons_zero, List.set_cons_succ]))
  (refine wpAnyH_take (i := 11) (v := ?_) rfl (by kernel_rfl) (by kernel_rfl) (by kernel_rfl) (fun _ _ _ h => h) (Or.inl ⟨by rfl, ?_⟩) (by assumption) ?_; rotate_left 1; (focus (intro wz hSz; (try dsimp only at hSz); go_simp; (try with_reducible rfl))); (try simp only [Act.put, List.setIfInBounds_toArray, List.set_cons_zero, List.set_cons_succ]))
  (refine wpAnyH_take (i := 12) (v := ?_) rfl (by kernel_rfl) (by kernel_rfl) (by kernel_rfl) (fun _ _ _ h => h) (Or.inl ⟨by rfl, ?_⟩) (by assumption) ?_; rotate_left 1; (focus (intro wz hSz; (try dsimp only at hSz); go_simp; (try with_reducible rfl))); (try simp only [Act.put, List.setIfInBounds_toArray, List.set_cons_zero, List.set_cons_succ]))
  (refine wpAnyH_take (i := 13) (v := ?_) rfl (by kernel_rfl) (by kernel_rfl) (by kernel_rfl) (fun _ _ _ h => h) (Or.inl ⟨by rfl, ?_⟩) (by assumption) ?_; rotate_left 1; (focus (intro wz hSz; (try dsimp only at hSz); go_simp; (try with_reducible rfl))); (try simp only [Act.put, List.setIfInBounds_toArray, List.set_cons_zero, List.set_cons_succ]))
  refine wpAnyH_done (by kernel_rfl) ?_ _
  go_wp2_with fail
  have AD1 : SumAt y1.drew b f g := (A0.out.on B1).on (Below.refl _ _).drew
  have c4 := AD1.c4
  have hbr : b ≠ w.heap.size := Nat.ne_of_lt lb
  have cW := whole_any 1 y1.drew (by decide)
  have sr : w.heap.size < W.heap.size := World.block_lt_of_cell? W _ r0.1
  refine wp_region_held_drew (S := fun w' => w'.cell? ⟨b, 4, none⟩ = some (.int .i64 0)) (by kernel_rfl) c4 (fun hHeld3 => ?_)
  (refine wpAnyH_take (i := 2) (v := ?_) rfl (by kernel_rfl) (by kernel_rfl) (by kernel_rfl) (fun _ _ _ h => h) (Or.inl ⟨by rfl, ?_⟩) (by assumption) ?_; rotate_left 1; (focus (intro wz hSz; (try dsimp only at hSz); go_simp; (try with_reducible rfl))); (try simp only [Act.put, List.setIfInBounds_toArray, List.set_cons_zero, List.set_cons_succ]))
  (refine wpAnyH_take (i := 3) (v := ?_) rfl (by kernel_rfl) (by kernel_rfl) (by kernel_rfl) (fun _ _ _ h => h) (Or.inl ⟨by rfl, ?_⟩) (by assumption) ?_; rotate_left 1; (focus (intro wz hSz; (try dsimp only at hSz); go_simp; (try with_reducible rfl))); (try simp only [Act.put, List.setIfInBounds_toArray, List.set_cons_zero, List.set_cons_succ]))
  (refine wpAnyH_take (i := 4) (v := ?_) rfl (by kernel_rfl) (by kernel_rfl) (by kernel_rfl) (fun _ _ _ h => h) (Or.inl ⟨by rfl, ?_⟩) (by assumption) ?_; rotate_left 1; (focus (intro wz hSz; (try dsimp only at hSz); go_simp; (try with_reducible rfl))); (try simp only [Act.put, List.setIfInBounds_toArray, List.set_cons_zero, List.set_cons_succ]))
  (refine wpAnyH_take (i := 5) (v := ?_) rfl (by kernel_rfl) (by kernel_rfl) (by kernel_rfl) (fun _ _ _ h => h) (Or.inl ⟨by rfl, ?_⟩) (by assumption) ?_; rotate_left 1; (focus (intro wz hSz; (try dsimp only at hSz); go_simp; (try with_reducible rfl))); (try simp only [Act.put, List.setIfInBounds_toArray, List.set_cons_zero, List.set_cons_succ]))
  refine wpAnyH_ready (rs := [0]) (by kernel_rfl) (by simp) ?_
  refine AllReadyH.cons rfl (fun Kk hKk => ?_) AllReadyH.nil
  go_simp
  refine cW.mono ?_
  rintro e y2 ⟨v, rfl, bw, hx2⟩
  obtain ⟨Aw, aw, rfl, nw⟩ := bw.nt
  have AD2 := AD1.on hx2
  have c4' := AD2.c4
  have B2 : Below W.heap.size W y2 := below_trans B1 (below_trans (Below.refl _ _).drew hx2)
  have k0 := bel_cell B2 r0.1
  have k1 := bel_cell B2 r1.1
  have z0 := (B2.frozen (p := ⟨w.heap.size, 0, none⟩) sr).trans r0.2
  have z1 := (B2.frozen (p := ⟨w.heap.size, 1, none⟩) sr).trans r1.2
  go_wp2_with fail
  refine hKk.out _ _ c4' (fun hHeld4 => ?_)
  clear hKk Kk
  try simp only [Act.put, List.setIfInBounds_toArray, List.set_cons_zero, List.set_cons_succ]
  (refine wpAnyH_take (i := 1) (v := ?_) rfl (by kernel_rfl) (by kernel_rfl) (by kernel_rfl) (fun _ _ _ h => h) (Or.inl ⟨by rfl, ?_⟩) (by assumption) ?_; rotate_left 1; (focus (intro wz hSz; (try dsimp only at hSz); go_simp; (try with_reducible rfl))); (try simp only [Act.put, List.setIfInBounds_toArray, List.set_cons_zero, List.set_cons_succ]))
  refine wpAnyH_ready (rs := [6]) (by kernel_rfl) (by simp) ?_
  refine AllReadyH.cons rfl (fun Kk hKk => ?_) AllReadyH.nil
  go_simp
  have c5 : ((y2.setCell ⟨w.heap.size, 0, none⟩ (.slice none 0 0)).setCell ⟨w.heap.size, 1, none⟩ (.slice Aw (limbs 1).length aw)).cell? ⟨b, 4, none⟩ = some (.int .i64 0) := (World.cell?_setCell_far _ _ _ _ hbr.symm).trans ((World.cell?_setCell_far _ _ _ _ hbr.symm).trans c4')
  refine hKk.out _ _ c5 (fun hHeld5 => ?_)
  clear hKk Kk
  try simp only [Act.put, List.setIfInBounds_toArray, List.set_cons_zero, List.set_cons_succ]
  (try simp only [Act.put, List.getElem_toArray, List.getElem_cons_succ, List.getElem_cons_zero, List.setIfInBounds_toArray, List.set_cons_zero, List.set_cons_succ])
  (refine wpAnyH_take (i := 7) (v := ?_) rfl (by kernel_rfl) (by kernel_rfl) (by kernel_rfl) (fun _ _ _ h => h) (Or.inl ⟨by rfl, ?_⟩) (by assumption) ?_; rotate_left 1; (focus (intro wz hSz; (try dsimp only at hSz); go_simp; (try with_reducible rfl))); (try simp only [Act.put, List.setIfInBounds_toArray, List.set_cons_zero, List.set_cons_succ]))
  (try simp only [Act.put, List.getElem_toArray, List.getElem_cons_succ, List.getElem_cons_zero, List.setIfInBounds_toArray, List.set_cons_zero, List.set_cons_succ])
  refine wpAnyH_done (by kernel_rfl) ?_ _
  have hTd : 0 < T * d := Nat.mul_pos hT hd
  obtain ⟨zN, zD⟩ := rd_zero hTd
  have s1 : w.heap.size < y1.drew.heap.size := Nat.lt_of_lt_of_le sr B1.size
  have F1 : Big ((y2.setCell ⟨w.heap.size, 0, none⟩ (.slice none 0 0)).setCell ⟨w.heap.size, 1, none⟩ (.slice Aw (limbs 1).length aw)) w.heap.size (.slice none 0 0) (rdN 0 (T * d)) := by
    rw [zN]; unfold Big; rw [limbs_zero]; exact Own.nil
  have F2 : Big ((y2.setCell ⟨w.heap.size, 0, none⟩ (.slice none 0 0)).setCell ⟨w.heap.size, 1, none⟩ (.slice Aw (limbs 1).length aw)) w.heap.size (.slice Aw (limbs 1).length aw) (rdD 0 (T * d)) := by
    rw [zD]; exact Big.down (big_set2 bw s1 _ _) (Nat.le_of_lt s1)
  have F3 := fun K (hK : K ≤ b) => (((al.mono (Nat.le_trans hK (Nat.le_of_lt lb))).trans (B2.mono (Nat.le_trans hK (Nat.le_of_lt (Nat.lt_trans lb sr))))).setCell (p := ⟨w.heap.size, 0, none⟩) (Nat.le_trans hK (Nat.le_of_lt lb)) (.slice none 0 0)).setCell (p := ⟨w.heap.size, 1, none⟩) (Nat.le_trans hK (Nat.le_of_lt lb)) (.slice Aw (limbs 1).length aw)
  go_wp2_with fail
  (try simp only [Exit.inBlock, Exit.then])
  refine bodyPost_ret (v := .tuple #[.agg #[.slice none 0 0, .slice Aw (limbs 1).length aw], .int .i64 0]) ?_ rfl ⟨_, _, rfl, F1, F2, F3⟩
  rw [results_cell_tmp rfl]
  go_simp

end Go.Proofs.YteoaaphjbggobaaGreatDoor

namespace Go.Proofs.YteoaaphjbggobaaGreatDoor
open Go.RowKit
set_option linter.unusedVariables false
set_option linter.unusedSimpArgs false

theorem small_diff {x y a c : Nat} (hx : x < B32 ^ 4) (hy : y < B32 ^ 4) (ha : a < B32 ^ 4) (hc : c < B32 ^ 4) : (limbs (x * c - a * y)).length ≤ 64 ∧ (limbs (x * c)).length ≤ 1000 ∧ (limbs (y * c)).length ≤ 64 := by
  have h1 : x * c < B32 ^ 8 := by rw [show (8 : Nat) = 4 + 4 from rfl, Nat.pow_add]; exact Nat.mul_lt_mul'' hx hc
  have h3 : y * c < B32 ^ 8 := by rw [show (8 : Nat) = 4 + 4 from rfl, Nat.pow_add]; exact Nat.mul_lt_mul'' hy hc
  have h2 : x * c - a * y < B32 ^ 8 := Nat.lt_of_le_of_lt (Nat.sub_le _ _) h1
  exact ⟨Nat.le_trans (limbs_le_of h2) (by decide), Nat.le_trans (limbs_le_of h1) (by decide), Nat.le_trans (limbs_le_of h3) (by decide)⟩

theorem small_den {x d : Nat} (hx : x < B32 ^ 4) (hd : d ≤ 65536) : (limbs (x * d)).length ≤ 64 := by
  have h1 : x * d < B32 ^ 4 * B32 := Nat.mul_lt_mul'' hx (Nat.lt_of_le_of_lt hd (by decide))
  rw [← Nat.pow_succ] at h1
  exact Nat.le_trans (limbs_le_of h1) (by decide)

theorem cmpI_le {n m : Nat} (h : ¬ m < n) : cmpI n m ≤ 0 := by
  unfold cmpI
  split
  · decide
  · split
    · decide
    · omega
theorem rd_self {n : Nat} (hn : 0 < n) : rdN n n = 1 ∧ rdD n n = 1 := by
  unfold rdN rdD
  rw [Nat.gcd_self]
  exact ⟨Nat.div_self hn, Nat.div_self hn⟩

theorem Big.set {w : World} {B n g : Nat} {v : Value} (h : Big w B v n) (hne : ∀ k, v.ownBlock = some k → k ≠ g) (j : Nat) (u : Value) : Big (w.setCell ⟨g, j, none⟩ u) B v n := by
  refine Own.keep h (grown_set w g j u) ?_
  rcases hv : v.ownBlock with _ | k
  · exact .inl rfl
  · exact .inr (fun e => hne k hv (Option.some.inj e))
theorem Big.lt {w : World} {B n : Nat} {v : Value} (h : Big w B v n) : ∀ k, v.ownBlock = some k → B ≤ k ∧ k < w.heap.size := World.ownsRow.lt h

/-- The fraction N/D in block q; its numbers are younger than B. -/
def FrB (w : World) (B q N D : Nat) : Prop := ∃ v1 v2, (w.cell? ⟨q, 0, none⟩ = some v1 ∧ w.cell? ⟨q, 1, none⟩ = some v2) ∧ (w.frozen? ⟨q, 0, none⟩ = false ∧ w.frozen? ⟨q, 1, none⟩ = false) ∧ Big w B v1 N ∧ Big w B v2 D
theorem FrB.lt {w : World} {B q N D : Nat} (h : FrB w B q N D) : q < w.heap.size := by
  obtain ⟨v1, v2, ⟨h0, _⟩, _⟩ := h
  exact World.block_lt_of_cell? w _ h0
theorem FrB.on {w w' : World} {B q N D : Nat} (h : FrB w B q N D) (hb : Below w.heap.size w w') : FrB w' B q N D := by
  have hl := h.lt
  obtain ⟨v1, v2, ⟨h0, h1⟩, ⟨f0, f1⟩, b1, b2⟩ := h
  exact ⟨v1, v2, ⟨bel_cell hb h0, bel_cell hb h1⟩, ⟨(hb.frozen (p := ⟨q, 0, none⟩) hl).trans f0, (hb.frozen (p := ⟨q, 1, none⟩) hl).trans f1⟩, b1.below hb, b2.below hb⟩
theorem FrB.down {w : World} {B B' q N D : Nat} (h : FrB w B q N D) (hB : B' ≤ B) : FrB w B' q N D := by
  obtain ⟨v1, v2, hc, hf, b1, b2⟩ := h
  exact ⟨v1, v2, hc, hf, b1.down hB, b2.down hB⟩
/-- A store into an older block. -/
theorem FrB.far {w : World} {B q N D b : Nat} (h : FrB w B q N D) (hb : b < B) (hq : b ≠ q) (j : Nat) (u : Value) : FrB (w.setCell ⟨b, j, none⟩ u) B q N D := by
  obtain ⟨v1, v2, ⟨h0, h1⟩, ⟨f0, f1⟩, b1, b2⟩ := h
  have n1 : ∀ k, v1.ownBlock = some k → k ≠ b := fun k hk => by have := b1.lt k hk; omega
  have n2 : ∀ k, v2.ownBlock = some k → k ≠ b := fun k hk => by have := b2.lt k hk; omega
  exact ⟨v1, v2, ⟨(World.cell?_setCell_far _ _ _ _ hq).trans h0, (World.cell?_setCell_far _ _ _ _ hq).trans h1⟩, ⟨by rw [World.frozen?_setCell]; exact f0, by rw [World.frozen?_setCell]; exact f1⟩, b1.set n1 _ _, b2.set n2 _ _⟩
/-- Both numbers are laid into the box. -/
theorem frb_put {y : World} {B q N D : Nat} {v1 v2 u0 u1 : Value} (b1 : Big y B v1 N) (b2 : Big y B v2 D) (h0 : y.cell? ⟨q, 0, none⟩ = some u0) (h1 : y.cell? ⟨q, 1, none⟩ = some u1) (f0 : y.frozen? ⟨q, 0, none⟩ = false) (f1 : y.frozen? ⟨q, 1, none⟩ = false) (n1 : ∀ k, v1.ownBlock = some k → k ≠ q) (n2 : ∀ k, v2.ownBlock = some k → k ≠ q) : FrB ((y.setCell ⟨q, 0, none⟩ v1).setCell ⟨q, 1, none⟩ v2) B q N D := by
  refine ⟨v1, v2, ⟨?_, ?_⟩, ⟨?_, ?_⟩, (b1.set n1 _ _).set n1 _ _, (b2.set n2 _ _).set n2 _ _⟩ <;> go_simp
theorem frb_put' {y : World} {B q N D N' D' : Nat} {v1 v2 : Value} (h : FrB y B q N' D') {C : Nat} (b1 : Big y C v1 N) (b2 : Big y C v2 D) (hq : q < C) (hB : B ≤ C) : FrB ((y.setCell ⟨q, 0, none⟩ v1).setCell ⟨q, 1, none⟩ v2) B q N D := by
  obtain ⟨u0, u1, ⟨h0, h1⟩, ⟨f0, f1⟩, _, _⟩ := h
  exact (frb_put b1 b2 h0 h1 f0 f1 (fun k hk => by have := b1.lt k hk; omega) (fun k hk => by have := b2.lt k hk; omega)).down hB
theorem frb_new {y : World} {B N D : Nat} {v1 v2 : Value} (T : TypeId) (b1 : Big y B v1 N) (b2 : Big y B v2 D) : FrB (y.alloc (.cells #[v1, v2] T)) B y.heap.size N D := by
  refine ⟨v1, v2, ⟨?_, ?_⟩, ⟨?_, ?_⟩, Own.alloc b1 _, Own.alloc b2 _⟩
  all_goals go_simp

set_option maxHeartbeats 1000000 in
theorem note_cell (b : Nat) (w : World) (c4 : w.cell? ⟨b, 4, none⟩ = some (.int .i64 0)) (r4 : w.frozen? ⟨b, 4, none⟩ = false) : Calls Tryz.prog 69 #[.pointer (some ⟨b, 0, none⟩), .int .i64 0] w fun e w' => e = .returned (.tuple #[]) ∧ w' = w.setCell ⟨b, 4, none⟩ (.int .i64 0) := by
  go_enter Tryz.func69, Tryz.ntmps69
  go_wp2_with fail
  go_end0
  exact ⟨rfl, rfl⟩

/-- What stands in over behind the difference: the sum's error in block b, the fraction N/D in block q, the result's box. -/
structure OvS (w z : World) (b q N D : Nat) : Prop where
  e4 : z.cell? ⟨b, 4, none⟩ = some (.int .i64 0)
  f4 : z.frozen? ⟨b, 4, none⟩ = false
  r : FrB z (w.heap.size + 1) q N D
  c0 : z.cell? ⟨w.heap.size, 0, none⟩ = some (.slice none 0 0)
  c1 : z.cell? ⟨w.heap.size, 1, none⟩ = some (.slice none 0 0)
  z0 : z.frozen? ⟨w.heap.size, 0, none⟩ = false
  z1 : z.frozen? ⟨w.heap.size, 1, none⟩ = false
  k : ∀ K, K ≤ b → Below K w z
  lb : b < w.heap.size
  lq : w.heap.size < q
theorem OvS.on {w z z' : World} {b q N D : Nat} (h : OvS w z b q N D) (hb : Below z.heap.size z z') : OvS w z' b q N D := by
  obtain ⟨e4, f4, r, c0, c1, z0, z1, k, lb, lq⟩ := h
  have l4 := World.block_lt_of_cell? z _ e4
  have l0 := World.block_lt_of_cell? z _ c0
  exact ⟨bel_cell hb e4, (hb.frozen (p := ⟨b, 4, none⟩) l4).trans f4, r.on hb, bel_cell hb c0, bel_cell hb c1, (hb.frozen (p := ⟨w.heap.size, 0, none⟩) l0).trans z0, (hb.frozen (p := ⟨w.heap.size, 1, none⟩) l0).trans z1, fun K hK => (k K hK).trans (hb.mono (Nat.le_trans hK (Nat.le_of_lt l4))), lb, lq⟩
theorem OvS.note {w z : World} {b q N D : Nat} (h : OvS w z b q N D) : OvS w (z.setCell ⟨b, 4, none⟩ (.int .i64 0)) b q N D := by
  obtain ⟨e4, f4, r, c0, c1, z0, z1, k, lb, lq⟩ := h
  refine ⟨?_, ?_, r.far (Nat.lt_succ_of_lt lb) (Nat.ne_of_lt (Nat.lt_trans lb lq)) _ _, (World.cell?_setCell_far _ _ _ _ (Nat.ne_of_lt lb)).trans c0, (World.cell?_setCell_far _ _ _ _ (Nat.ne_of_lt lb)).trans c1, ?_, ?_, fun K hK => (k K hK).setCell (p := ⟨b, 4, none⟩) hK _, lb, lq⟩ <;> go_simp
/-- Another fraction is laid into block q. -/
theorem OvS.put {w z : World} {b q N D C N' D' : Nat} {v1 v2 : Value} (h : OvS w z b q N D) (b1 : Big z C v1 N') (b2 : Big z C v2 D') (hq : q < C) : OvS w ((z.setCell ⟨q, 0, none⟩ v1).setCell ⟨q, 1, none⟩ v2) b q N' D' := by
  obtain ⟨e4, f4, r, c0, c1, z0, z1, k, lb, lq⟩ := h
  have n1 : q ≠ b := Nat.ne_of_gt (Nat.lt_trans lb lq)
  have n2 : q ≠ w.heap.size := Nat.ne_of_gt lq
  exact ⟨(World.cell?_setCell_far _ _ _ _ n1).trans ((World.cell?_setCell_far _ _ _ _ n1).trans e4), by rw [World.frozen?_setCell, World.frozen?_setCell]; exact f4, frb_put' r b1 b2 hq (Nat.le_trans lq (Nat.le_of_lt hq)), (World.cell?_setCell_far _ _ _ _ n2).trans ((World.cell?_setCell_far _ _ _ _ n2).trans c0), (World.cell?_setCell_far _ _ _ _ n2).trans ((World.cell?_setCell_far _ _ _ _ n2).trans c1), by rw [World.frozen?_setCell, World.frozen?_setCell]; exact z0, by rw [World.frozen?_setCell, World.frozen?_setCell]; exact z1, fun K hK => ((k K hK).setCell (p := ⟨q, 0, none⟩) (Nat.le_trans hK (Nat.le_of_lt (Nat.lt_trans lb lq))) _).setCell (p := ⟨q, 1, none⟩) (Nat.le_trans hK (Nat.le_of_lt (Nat.lt_trans lb lq))) _, lb, lq⟩
/-- The end: the fraction is laid into the result's box. -/
theorem OvS.done {w z : World} {b q N D : Nat} {v1 v2 : Value} (h : OvS w z b q N D) (h1 : z.cell? ⟨q, 0, none⟩ = some v1) (h2 : z.cell? ⟨q, 1, none⟩ = some v2) : Big ((z.setCell ⟨w.heap.size, 0, none⟩ v1).setCell ⟨w.heap.size, 1, none⟩ v2) w.heap.size v1 N ∧ Big ((z.setCell ⟨w.heap.size, 0, none⟩ v1).setCell ⟨w.heap.size, 1, none⟩ v2) w.heap.size v2 D ∧ ∀ K, K ≤ b → Below K w ((z.setCell ⟨w.heap.size, 0, none⟩ v1).setCell ⟨w.heap.size, 1, none⟩ v2) := by
  obtain ⟨e4, f4, ⟨u1, u2, ⟨g1, g2⟩, _, b1, b2⟩, c0, c1, z0, z1, k, lb, lq⟩ := h
  obtain rfl : u1 = v1 := Option.some.inj (g1.symm.trans h1)
  obtain rfl : u2 = v2 := Option.some.inj (g2.symm.trans h2)
  have n1 : ∀ k, u1.ownBlock = some k → k ≠ w.heap.size := fun k hk => by have := b1.lt k hk; omega
  have n2 : ∀ k, u2.ownBlock = some k → k ≠ w.heap.size := fun k hk => by have := b2.lt k hk; omega
  exact ⟨((b1.set n1 _ _).set n1 _ _).down (Nat.le_succ _), ((b2.set n2 _ _).set n2 _ _).down (Nat.le_succ _), fun K hK => ((k K hK).setCell (p := ⟨w.heap.size, 0, none⟩) (Nat.le_trans hK (Nat.le_of_lt lb)) _).setCell (p := ⟨w.heap.size, 1, none⟩) (Nat.le_trans hK (Nat.le_of_lt lb)) _⟩

end Go.Proofs.YteoaaphjbggobaaGreatDoor

namespace Go.Proofs.YteoaaphjbggobaaGreatDoor
open Go.RowKit
set_option linter.unusedVariables false
set_option linter.unusedSimpArgs false

set_option maxRecDepth 100000 in
set_option maxHeartbeats 8000000 in
theorem over_high (b x y T d : Nat) (w : World) (hS : SumR w b x y T) (hd : 0 < d) (hd2 : d ≤ 65536) (hT : 0 < T) (hx : x < B32 ^ 4) (hy : y < B32 ^ 4) (hT4 : T < B32 ^ 4) (hxy : y < x) :
    Calls Tryz.prog 41 #[.pointer (some ⟨b, 0, none⟩), .int .i64 (d : Int)] w fun e w' => OvR w w' b (min (x - y) (T * d)) (T * d) e := by
  have lb := hS.lt
  have al := below_alloc (Below.refl w.heap.size w) (.cells #[.slice none 0 0, .slice none 0 0] 53)
  obtain ⟨f, g, hA, f1, f2, g1, g2⟩ := hS.on al
  have bx := rd_le x T
  have bY := rd_le y T
  have px : 0 < rdD x T := (rd_spec hT).2.2.2.2
  have py : 0 < rdD y T := (rd_spec hT).2.2.2.2
  have hv : validE [f, g] = 0 := two_valid (by rw [f1]; exact limbs_4 (Nat.lt_of_le_of_lt bx.1 hx)) (by rw [f2]; exact limbs_4 (Nat.lt_of_le_of_lt bx.2 hT4)) (by rw [g1]; exact limbs_4 (Nat.lt_of_le_of_lt bY.1 hy)) (by rw [g2]; exact limbs_4 (Nat.lt_of_le_of_lt bY.2 hT4)) (by rw [f2, V_limbs]; exact px) (by rw [g2, V_limbs]; exact py)
  have cC := fun w' (hi : f.In w') (hj : g.In w') => FracCompare_any f g w' hi hj
  have rx : Rep (V f.l) (V f.m) x T := by rw [f1, f2, V_limbs, V_limbs]; exact rep_rd hT
  have ry : Rep (V g.l) (V g.m) y T := by rw [g1, g2, V_limbs, V_limbs]; exact rep_rd hT
  have hlt : ¬ V f.l * V g.m ≤ V g.l * V f.m := fun hh => by
    have := (ry.le rx hT).1 hh
    omega
  have hc : ∃ o, fcmpI f g = o ∧ 0 < o := by
    refine ⟨1, ?_, by decide⟩
    unfold fcmpI
    rw [if_pos hv]
    exact cmpI_gt (Nat.lt_of_not_le hlt)
  obtain ⟨o, ho, ho0⟩ := hc
  obtain ⟨z1, z2, z3⟩ := small_diff (x := V f.l) (y := V f.m) (a := V g.l) (c := V g.m) (by rw [f1, V_limbs]; exact Nat.lt_of_le_of_lt bx.1 hx) (by rw [f2, V_limbs]; exact Nat.lt_of_le_of_lt bx.2 hT4) (by rw [g1, V_limbs]; exact Nat.lt_of_le_of_lt bY.1 hy) (by rw [g2, V_limbs]; exact Nat.lt_of_le_of_lt bY.2 hT4)
  have cS := fun w' (hi : f.In w') (hj : g.In w') => FracSub_any f g w' hi hj hv z1 (Nat.le_of_lt (Nat.lt_of_not_le hlt)) z2 z3 (by rw [f2, g2, V_limbs, V_limbs]; exact Nat.mul_pos px py)
  rw [hv, ho] at cC
  unfold FrR Frc.val at cS
  unfold Frc.val at cC
  have rs := (rx.sub ry).rd hT
  rw [rs.1, rs.2] at cS
  obtain ⟨N0, hN0⟩ : ∃ N0, rdN (x - y) T = N0 := ⟨_, rfl⟩
  obtain ⟨D0, hD0⟩ : ∃ D0, rdD (x - y) T = D0 := ⟨_, rfl⟩
  have rb := rd_le (x - y) T
  have pd : 0 < rdD (x - y) T := (rd_spec hT).2.2.2.2
  have r3 := (rep_rd (x := x - y) hT).div hd
  rw [hN0, hD0] at rb r3
  rw [hD0] at pd
  simp only [hN0, hD0] at cS
  have hNl : N0 < B32 ^ 4 := Nat.lt_of_le_of_lt rb.1 (Nat.lt_of_le_of_lt (Nat.sub_le _ _) hx)
  have hDl : D0 < B32 ^ 4 := Nat.lt_of_le_of_lt rb.2 hT4
  have Rr := Lib.hid r3
  have Nl := Lib.hid hNl
  have Dl := Lib.hid hDl
  have pD := Lib.hid pd
  have CS := Lib.hid cS
  have HT := Lib.hid hT; have HT4 := Lib.hid hT4; have HX := Lib.hid hx; have HXY := Lib.hid hxy
  have cM := fun w' A a C c E e F f' (h1 : Nt w' A a (limbs N0)) (h2 : Nt w' C c (limbs D0)) (h3 : Nt w' E e (limbs 1)) (h4 : Nt w' F f' (limbs d)) => FracMul_any ⟨A, a, limbs N0, C, c, limbs D0⟩ ⟨E, e, limbs 1, F, f', limbs d⟩ w' ⟨h1, h2⟩ ⟨h3, h4⟩ (two_valid (limbs_4 hNl) (limbs_4 hDl) (limbs_4 (by decide)) (limbs_4 (Nat.lt_of_le_of_lt hd2 (by decide))) (by simp only [V_limbs]; exact pd) (by simp only [V_limbs]; exact hd)) (by simp only [V_limbs, Nat.mul_one]; exact limbs_4 hNl) (by simp only [V_limbs]; exact small_den hDl hd2) (by simp only [V_limbs]; exact Nat.mul_pos pd hd)
  unfold FrR Frc.val at cM
  simp only [V_limbs] at cM
  have hTd : 0 < T * d := Nat.mul_pos hT hd
  have r4 := r3.rd hTd
  rw [r4.1, r4.2] at cM
  obtain ⟨N1, hN1⟩ : ∃ N1, rdN (x - y) (T * d) = N1 := ⟨_, rfl⟩
  obtain ⟨D1, hD1⟩ : ∃ D1, rdD (x - y) (T * d) = D1 := ⟨_, rfl⟩
  have rb1 := rd_le (x - y) (T * d)
  have rp1 := rep_rd (x := x - y) hTd
  simp only [hN1, hD1] at cM rb1 rp1
  have top := rep_top rp1 hTd
  have Top := Lib.hid top
  have hNl1 : N1 < B32 ^ 4 := Nat.lt_of_le_of_lt rb1.1 (Nat.lt_of_le_of_lt (Nat.sub_le _ _) hx)
  have hDl1 : (limbs D1).length ≤ 64 := Nat.le_trans (limbs_mono rb1.2) (small_den hT4 hd2)
  have cF := fun w' A a C c E e F f' (h1 : Nt w' A a (limbs N1)) (h2 : Nt w' C c (limbs D1)) (h3 : Nt w' E e (limbs 1)) (h4 : Nt w' F f' (limbs 1)) => FracCompare_any ⟨A, a, limbs N1, C, c, limbs D1⟩ ⟨E, e, limbs 1, F, f', limbs 1⟩ w' ⟨h1, h2⟩ ⟨h3, h4⟩
  have hv1 : ∀ A a C c E e F f', validE [⟨A, a, limbs N1, C, c, limbs D1⟩, ⟨E, e, limbs 1, F, f', limbs 1⟩] = 0 := fun A a C c E e F f' => two_valid (limbs_4 hNl1) hDl1 (limbs_4 (by decide)) (limbs_4 (by decide)) (by simp only [V_limbs]; exact rp1.1) (by simp only [V_limbs]; decide)
  have hcm : ∀ A a C c E e F f', fcmpI ⟨A, a, limbs N1, C, c, limbs D1⟩ ⟨E, e, limbs 1, F, f', limbs 1⟩ = cmpI N1 D1 := fun A a C c E e F f' => by
    unfold fcmpI
    rw [if_pos (hv1 A a C c E e F f')]
    simp only [V_limbs, Nat.mul_one, Nat.one_mul]
  simp only [hv1, hcm] at cF
  unfold Frc.val at cF
  have E1 := Lib.hid hN1
  have E2 := Lib.hid hD1
  have w1 := fun w' => whole_any 1 w' (by decide)
  have w2 := fun w' => whole_any d w' (by omega)
  clear ho hv hv1 hcm hNl1 hDl1 top rp1 rb1 hN1 hD1 r4 hTd bx bY px py hx hy hT4 f1 f2 g1 g2 z1 z2 z3 hlt cS rx ry rs hN0 hD0 rb r3 hNl hDl pd hxy hT hS
  go_enter Tryz.func41, Tryz.ntmps41
  go_upto_region 1 with fail
  obtain ⟨W, hW⟩ : ∃ W, w.alloc (.cells #[.slice none 0 0, .slice none 0 0] 53) = W := ⟨_, rfl⟩
  have r0 : W.cell? ⟨w.heap.size, 0, none⟩ = some (.slice none 0 0) ∧ W.frozen? ⟨w.heap.size, 0, none⟩ = false := by subst hW; exact ⟨by go_simp, by go_simp⟩
  have r1 : W.cell? ⟨w.heap.size, 1, none⟩ = some (.slice none 0 0) ∧ W.frozen? ⟨w.heap.size, 1, none⟩ = false := by subst hW; exact ⟨by go_simp, by go_simp⟩
  rw [hW] at al hA ⊢
  clear hW
  have A0 := Lib.hid hA
  have L0 := fun w' (hb : Below W.heap.size W w') => (A0.out.on hb).c0
  have L1 := fun w' (hb : Below W.heap.size W w') => (A0.out.on hb).c1
  have L2 := fun w' (hb : Below W.heap.size W w') => (A0.out.on hb).c2
  have L3 := fun w' (hb : Below W.heap.size W w') => (A0.out.on hb).c3
  have AD : SumAt W.drew b f g := hA.on (Below.refl _ _).drew
  have cD := cC W.drew AD.fi AD.gi
  clear hA cC AD
  go_wp2_with fail
  refine wp_region_held_drew (S := fun w' => Below W.heap.size W w') (by kernel_rfl) (Below.refl _ _).drew (fun hHeld => ?_)
  (refine wpAnyH_take (i := 0) (v := ?_) rfl (by kernel_rfl) (by kernel_rfl) (by kernel_rfl) (fun _ _ _ h => h) (Or.inl ⟨by rfl, ?_⟩) (by assumption) ?_; rotate_left 1; (focus (intro wz hSz; (try dsimp only at hSz); go_simp; (try with_reducible rfl))); (try simp only [Act.put, List.setIfInBounds_toArray, List.set_cons_zero, List.set_cons_succ]))
  (refine wpAnyH_take (i := 1) (v := ?_) rfl (by kernel_rfl) (by kernel_rfl) (by kernel_rfl) (fun _ _ _ h => h) (Or.inl ⟨by rfl, ?_⟩) (by assumption) ?_; rotate_left 1; (focus (intro wz hSz; (try dsimp only at hSz); go_simp; (try with_reducible rfl))); (try simp only [Act.put, List.setIfInBounds_toArray, List.set_cons_zero, List.set_cons_succ]))
  (refine wpAnyH_take (i := 2) (v := ?_) rfl (by kernel_rfl) (by kernel_rfl) (by kernel_rfl) (fun _ _ _ h => h) (Or.inl ⟨by rfl, ?_⟩) (by assumption) ?_; rotate_left 1; (focus (intro wz hSz; (try dsimp only at hSz); go_simp; (try with_reducible rfl))); (try simp only [Act.put, List.setIfInBounds_toArray, List.set_cons_zero, List.set_cons_succ]))
  (refine wpAnyH_take (i := 3) (v := ?_) rfl (by kernel_rfl) (by kernel_rfl) (by kernel_rfl) (fun _ _ _ h => h) (Or.inl ⟨by rfl, ?_⟩) (by assumption) ?_; rotate_left 1; (focus (intro wz hSz; (try dsimp only at hSz); go_simp; (try with_reducible rfl))); (try simp only [Act.put, List.setIfInBounds_toArray, List.set_cons_zero, List.set_cons_succ]))
  (refine wpAnyH_take (i := 4) (v := ?_) rfl (by kernel_rfl) (by kernel_rfl) (by kernel_rfl) (fun _ _ _ h => h) (Or.inl ⟨by rfl, ?_⟩) (by assumption) ?_; rotate_left 1; (focus (intro wz hSz; (try dsimp only at hSz); go_simp; (try with_reducible rfl))); (try simp only [Act.put, List.setIfInBounds_toArray, List.set_cons_zero, List.set_cons_succ]))
  (refine wpAnyH_take (i := 5) (v := ?_) rfl (by kernel_rfl) (by kernel_rfl) (by kernel_rfl) (fun _ _ _ h => h) (Or.inl ⟨by rfl, ?_⟩) (by assumption) ?_; rotate_left 1; (focus (intro wz hSz; (try dsimp only at hSz); go_simp; (try with_reducible rfl))); (try simp only [Act.put, List.setIfInBounds_toArray, List.set_cons_zero, List.set_cons_succ]))
  (refine wpAnyH_take (i := 6) (v := ?_) rfl (by kernel_rfl) (by kernel_rfl) (by kernel_rfl) (fun _ _ _ h => h) (Or.inl ⟨by rfl, ?_⟩) (by assumption) ?_; rotate_left 1; (focus (intro wz hSz; (try dsimp only at hSz); go_simp; (try with_reducible rfl))); (try simp only [Act.put, List.setIfInBounds_toArray, List.set_cons_zero, List.set_cons_succ]))
  (refine wpAnyH_take (i := 7) (v := ?_) rfl (by kernel_rfl) (by kernel_rfl) (by kernel_rfl) (fun _ _ _ h => h) (Or.inl ⟨by rfl, ?_⟩) (by assumption) ?_; rotate_left 1; (focus (intro wz hSz; (try dsimp only at hSz); go_simp; (try with_reducible rfl))); (try simp only [Act.put, List.setIfInBounds_toArray, List.set_cons_zero, List.set_cons_succ]))
  refine wpAnyH_ready (rs := [8]) (by kernel_rfl) (by simp) ?_
  refine AllReadyH.cons rfl (fun Kk hKk => ?_) AllReadyH.nil
  go_simp
  refine cD.mono ?_
  rintro e y1 ⟨rfl, hx1⟩
  have B1 : Below W.heap.size W y1 := below_trans (Below.refl _ _).drew hx1
  go_wp2_with fail
  refine hKk.out _ _ B1 (fun hHeld2 => ?_)
  clear hKk Kk
  try simp only [Act.put, List.setIfInBounds_toArray, List.set_cons_zero, List.set_cons_succ]
  (refine wpAnyH_take (i := 9) (v := ?_) rfl (by kernel_rfl) (by kernel_rfl) (by kernel_rfl) (fun _ _ _ h => h) (Or.inl ⟨by rfl, ?_⟩) (by assumption) ?_; rotate_left 1; (focus (intro wz hSz; (try dsimp only at hSz); go_simp; (try with_reducible rfl))); (try simp only [Act.put, List.setIfInBounds_toArray, List.set_cons_zero, List.set_cons_succ]))
  (refine wpAnyH_take (i := 10) (v := ?_) rfl (by kernel_rfl) (by kernel_rfl) (by kernel_rfl) (fun _ _ _ h => h) (Or.inl ⟨by rfl, ?_⟩) (by assumption) ?_; rotate_left 1; (focus (intro wz hSz; (try dsimp only at hSz); go_simp; (try with_reducible rfl))); (try simp only [Act.put, List.setIfInBounds_toArray, List.set_cons_zero, List.set_cons_succ]))
  (refine wpAnyH_take (i := 11) (v := ?_) rfl (by kernel_rfl) (by kernel_rfl) (by kernel_rfl) (fun _ _ _ h => h) (Or.inl ⟨by rfl, ?_⟩) (by assumption) ?_; rotate_left 1; (focus (intro wz hSz; (try dsimp only at hSz); go_simp; (try with_reducible rfl))); (try simp only [Act.put, List.setIfInBounds_toArray, List.set_cons_zero, List.set_cons_succ]))
  (refine wpAnyH_take (i := 12) (v := ?_) rfl (by kernel_rfl) (by kernel_rfl) (by kernel_rfl) (fun _ _ _ h => h) (Or.inl ⟨by rfl, ?_⟩) (by assumption) ?_; rotate_left 1; (focus (intro wz hSz; (try dsimp only at hSz); go_simp; (try with_reducible rfl))); (try simp only [Act.put, List.setIfInBounds_toArray, List.set_cons_zero, List.set_cons_succ]))
  (refine wpAnyH_take (i := 13) (v := ?_) rfl (by kernel_rfl) (by kernel_rfl) (by kernel_rfl) (fun _ _ _ h => h) (Or.inl ⟨by rfl, ?_⟩) (by assumption) ?_; rotate_left 1; (focus (intro wz hSz; (try dsimp only at hSz); go_simp; (try with_reducible rfl))); (try simp only [Act.put, List.setIfInBounds_toArray, List.set_cons_zero, List.set_cons_succ]))
  refine wpAnyH_done (by kernel_rfl) ?_ _
  go_upto_region 4 with fail
  have A1 := A0.out.on B1
  have q1 : ∀ K, K ≤ b → Below K w y1 := fun K hK => (al.mono (Nat.le_trans hK (Nat.le_of_lt lb))).trans (B1.mono (Nat.le_trans hK (Nat.le_trans (Nat.le_of_lt lb) al.size)))
  have r2 : y1.cell? ⟨w.heap.size, 0, none⟩ = some (.slice none 0 0) ∧ y1.frozen? ⟨w.heap.size, 0, none⟩ = false := ⟨bel_cell B1 r0.1, (B1.frozen (p := ⟨w.heap.size, 0, none⟩) (World.block_lt_of_cell? W _ r0.1)).trans r0.2⟩
  have r3 : y1.cell? ⟨w.heap.size, 1, none⟩ = some (.slice none 0 0) ∧ y1.frozen? ⟨w.heap.size, 1, none⟩ = false := ⟨bel_cell B1 r1.1, (B1.frozen (p := ⟨w.heap.size, 1, none⟩) (World.block_lt_of_cell? W _ r1.1)).trans r1.2⟩
  clear L0 L1 L2 L3 cD r0 r1 hHeld hHeld2 hx1
  have M0 := fun w' (hb : Below y1.heap.size y1 w') => (A1.on hb).c0
  have M1 := fun w' (hb : Below y1.heap.size y1 w') => (A1.on hb).c1
  have M2 := fun w' (hb : Below y1.heap.size y1 w') => (A1.on hb).c2
  have M3 := fun w' (hb : Below y1.heap.size y1 w') => (A1.on hb).c3
  go_cut [8, 9] (fun va vb wx => ∃ q, va = .pointer (some ⟨q, 0, none⟩) ∧ vb = .int .i64 0 ∧ y1.heap.size ≤ q ∧ FrB wx y1.heap.size q N0 D0 ∧ Below y1.heap.size y1 wx)
  case first =>
    refine wp_region_held_drew (S := fun w' => Below y1.heap.size y1 w') (by kernel_rfl) (Below.refl _ _).drew (fun hHeld3 => ?_)
    (refine wpAnyH_take (i := 0) (v := ?_) rfl (by kernel_rfl) (by kernel_rfl) (by kernel_rfl) (fun _ _ _ h => h) (Or.inl ⟨by rfl, ?_⟩) (by assumption) ?_; rotate_left 1; (focus (intro wz hSz; (try dsimp only at hSz); go_simp; (try with_reducible rfl))); (try simp only [Act.put, List.setIfInBounds_toArray, List.set_cons_zero, List.set_cons_succ]))
    (refine wpAnyH_take (i := 1) (v := ?_) rfl (by kernel_rfl) (by kernel_rfl) (by kernel_rfl) (fun _ _ _ h => h) (Or.inl ⟨by rfl, ?_⟩) (by assumption) ?_; rotate_left 1; (focus (intro wz hSz; (try dsimp only at hSz); go_simp; (try with_reducible rfl))); (try simp only [Act.put, List.setIfInBounds_toArray, List.set_cons_zero, List.set_cons_succ]))
    (refine wpAnyH_take (i := 2) (v := ?_) rfl (by kernel_rfl) (by kernel_rfl) (by kernel_rfl) (fun _ _ _ h => h) (Or.inl ⟨by rfl, ?_⟩) (by assumption) ?_; rotate_left 1; (focus (intro wz hSz; (try dsimp only at hSz); go_simp; (try with_reducible rfl))); (try simp only [Act.put, List.setIfInBounds_toArray, List.set_cons_zero, List.set_cons_succ]))
    (refine wpAnyH_take (i := 3) (v := ?_) rfl (by kernel_rfl) (by kernel_rfl) (by kernel_rfl) (fun _ _ _ h => h) (Or.inl ⟨by rfl, ?_⟩) (by assumption) ?_; rotate_left 1; (focus (intro wz hSz; (try dsimp only at hSz); go_simp; (try with_reducible rfl))); (try simp only [Act.put, List.setIfInBounds_toArray, List.set_cons_zero, List.set_cons_succ]))
    (refine wpAnyH_take (i := 4) (v := ?_) rfl (by kernel_rfl) (by kernel_rfl) (by kernel_rfl) (fun _ _ _ h => h) (Or.inl ⟨by rfl, ?_⟩) (by assumption) ?_; rotate_left 1; (focus (intro wz hSz; (try dsimp only at hSz); go_simp; (try with_reducible rfl))); (try simp only [Act.put, List.setIfInBounds_toArray, List.set_cons_zero, List.set_cons_succ]))
    (refine wpAnyH_take (i := 5) (v := ?_) rfl (by kernel_rfl) (by kernel_rfl) (by kernel_rfl) (fun _ _ _ h => h) (Or.inl ⟨by rfl, ?_⟩) (by assumption) ?_; rotate_left 1; (focus (intro wz hSz; (try dsimp only at hSz); go_simp; (try with_reducible rfl))); (try simp only [Act.put, List.setIfInBounds_toArray, List.set_cons_zero, List.set_cons_succ]))
    (refine wpAnyH_take (i := 6) (v := ?_) rfl (by kernel_rfl) (by kernel_rfl) (by kernel_rfl) (fun _ _ _ h => h) (Or.inl ⟨by rfl, ?_⟩) (by assumption) ?_; rotate_left 1; (focus (intro wz hSz; (try dsimp only at hSz); go_simp; (try with_reducible rfl))); (try simp only [Act.put, List.setIfInBounds_toArray, List.set_cons_zero, List.set_cons_succ]))
    (refine wpAnyH_take (i := 7) (v := ?_) rfl (by kernel_rfl) (by kernel_rfl) (by kernel_rfl) (fun _ _ _ h => h) (Or.inl ⟨by rfl, ?_⟩) (by assumption) ?_; rotate_left 1; (focus (intro wz hSz; (try dsimp only at hSz); go_simp; (try with_reducible rfl))); (try simp only [Act.put, List.setIfInBounds_toArray, List.set_cons_zero, List.set_cons_succ]))
    refine wpAnyH_ready (rs := [8, 12]) (by kernel_rfl) (by simp) ?_
    refine AllReadyH.cons rfl (fun K1 hK1 => ?_) (AllReadyH.cons rfl (fun K1 hK1 => ?_) AllReadyH.nil)
    · go_simp
      have AD := A1.on (w' := y1.drew) (Below.refl _ _).drew
      refine (CS.out y1.drew AD.fi AD.gi).mono ?_
      rintro e y2 ⟨v1, v2, rfl, b1, b2, hx2⟩
      obtain ⟨A5, a5, rfl, n5⟩ := b1.nt
      obtain ⟨A6, a6, rfl, n6⟩ := b2.nt
      clear n5 n6
      have B2 : Below y1.heap.size y1 y2 := below_trans (Below.refl _ _).drew hx2
      have fb := frb_new 53 b1 b2
      have F1 := Lib.hid fb
      have sz2 : y1.heap.size ≤ y2.heap.size := B2.size
      clear fb b1 b2 AD
      go_wp2_with fail
      refine hK1.out _ _ B2 (fun hHeld4 => ?_)
      clear hK1 K1
      (try simp only [Act.put, List.getElem_toArray, List.getElem_cons_succ, List.getElem_cons_zero, List.setIfInBounds_toArray, List.set_cons_zero, List.set_cons_succ])
      (refine wpAnyH_take (i := 9) (v := ?_) rfl (by kernel_rfl) (by kernel_rfl) (by kernel_rfl) (fun _ _ _ h => h) (Or.inl ⟨by rfl, ?_⟩) (by assumption) ?_; rotate_left 1; (focus (intro wz hSz; (try dsimp only at hSz); go_simp; (try with_reducible rfl))); (try simp only [Act.put, List.setIfInBounds_toArray, List.set_cons_zero, List.set_cons_succ]))
      (refine wpAnyH_take (i := 10) (v := ?_) rfl (by kernel_rfl) (by kernel_rfl) (by kernel_rfl) (fun _ _ _ h => h) (Or.inl ⟨by rfl, ?_⟩) (by assumption) ?_; rotate_left 1; (focus (intro wz hSz; (try dsimp only at hSz); go_simp; (try with_reducible rfl))); (try simp only [Act.put, List.setIfInBounds_toArray, List.set_cons_zero, List.set_cons_succ]))
      (refine wpAnyH_take (i := 11) (v := ?_) rfl (by kernel_rfl) (by kernel_rfl) (by kernel_rfl) (fun _ _ _ h => h) (Or.inl ⟨by rfl, ?_⟩) (by assumption) ?_; rotate_left 1; (focus (intro wz hSz; (try dsimp only at hSz); go_simp; (try with_reducible rfl))); (try simp only [Act.put, List.setIfInBounds_toArray, List.set_cons_zero, List.set_cons_succ]))
      refine wpAnyH_ready (rs := [12]) (by kernel_rfl) (by simp) ?_
      refine AllReadyH.cons rfl (fun K2 hK2 => ?_) AllReadyH.nil
      go_simp
      have B3 := below_alloc B2 (.cells #[.slice none 0 0, .slice none 0 0] 53)
      refine hK2.out _ _ B3 (fun hHeld5 => ?_)
      clear hK2 K2
      (try simp only [Act.put, List.getElem_toArray, List.getElem_cons_succ, List.getElem_cons_zero, List.setIfInBounds_toArray, List.set_cons_zero, List.set_cons_succ])
      refine wpAnyH_ready (rs := [13]) (by kernel_rfl) (by simp) ?_
      refine AllReadyH.cons rfl (fun K3 hK3 => ?_) AllReadyH.nil
      have B4 := below_alloc B2 (.cells #[.slice A5 (limbs N0).length a5, .slice A6 (limbs D0).length a6] 53)
      have e0 : (y2.alloc (.cells #[.slice none 0 0, .slice none 0 0] 53)).cell? ⟨y2.heap.size, 0, none⟩ = some (.slice none 0 0) := by go_simp
      have e1 : (y2.alloc (.cells #[.slice none 0 0, .slice none 0 0] 53)).cell? ⟨y2.heap.size, 1, none⟩ = some (.slice none 0 0) := by go_simp
      have e2 : (y2.alloc (.cells #[.slice none 0 0, .slice none 0 0] 53)).frozen? ⟨y2.heap.size, 0, none⟩ = false := by go_simp
      have e3 : (y2.alloc (.cells #[.slice none 0 0, .slice none 0 0] 53)).frozen? ⟨y2.heap.size, 1, none⟩ = false := by go_simp
      go_simp
      refine hK3.out _ _ B4 (fun hHeld6 => ?_)
      clear hK3 K3
      (try simp only [Act.put, List.getElem_toArray, List.getElem_cons_succ, List.getElem_cons_zero, List.setIfInBounds_toArray, List.set_cons_zero, List.set_cons_succ])
      (refine wpAnyH_take (i := 14) (v := ?_) rfl (by kernel_rfl) (by kernel_rfl) (by kernel_rfl) (fun _ _ _ h => h) (Or.inl ⟨by rfl, ?_⟩) (by assumption) ?_; rotate_left 1; (focus (intro wz hSz; (try dsimp only at hSz); go_simp; (try with_reducible rfl))); (try simp only [Act.put, List.setIfInBounds_toArray, List.set_cons_zero, List.set_cons_succ]))
      (try simp only [Act.put, List.getElem_toArray, List.getElem_cons_succ, List.getElem_cons_zero, List.setIfInBounds_toArray, List.set_cons_zero, List.set_cons_succ])
      refine wpAnyH_done (by kernel_rfl) ?_ _
      go_wp2_with fail
      go_meet
      case rel => exact ⟨y2.heap.size, rfl, rfl, sz2, F1.out, B4⟩
    · go_simp
      have B2 := below_alloc (Below.refl y1.heap.size y1) (.cells #[.slice none 0 0, .slice none 0 0] 53)
      refine hK1.out _ _ B2.drew (fun hHeld4 => ?_)
      clear hK1 K1
      (try simp only [Act.put, List.getElem_toArray, List.getElem_cons_succ, List.getElem_cons_zero, List.setIfInBounds_toArray, List.set_cons_zero, List.set_cons_succ])
      refine wpAnyH_ready (rs := [8]) (by kernel_rfl) (by simp) ?_
      refine AllReadyH.cons rfl (fun K2 hK2 => ?_) AllReadyH.nil
      go_simp
      have AD := A1.on (w' := (y1.alloc (.cells #[.slice none 0 0, .slice none 0 0] 53)).drew) B2.drew
      have u0 : (y1.alloc (.cells #[.slice none 0 0, .slice none 0 0] 53)).drew.cell? ⟨y1.heap.size, 0, none⟩ = some (.slice none 0 0) ∧ (y1.alloc (.cells #[.slice none 0 0, .slice none 0 0] 53)).drew.frozen? ⟨y1.heap.size, 0, none⟩ = false := ⟨by go_simp, by go_simp⟩
      have u1 : (y1.alloc (.cells #[.slice none 0 0, .slice none 0 0] 53)).drew.cell? ⟨y1.heap.size, 1, none⟩ = some (.slice none 0 0) ∧ (y1.alloc (.cells #[.slice none 0 0, .slice none 0 0] 53)).drew.frozen? ⟨y1.heap.size, 1, none⟩ = false := ⟨by go_simp, by go_simp⟩
      refine (CS.out (y1.alloc (.cells #[.slice none 0 0, .slice none 0 0] 53)).drew AD.fi AD.gi).mono ?_
      rintro e y2 ⟨v1, v2, rfl, b1, b2, hx2⟩
      obtain ⟨A5, a5, rfl, n5⟩ := b1.nt
      obtain ⟨A6, a6, rfl, n6⟩ := b2.nt
      clear n5 n6
      have B3 : Below y1.heap.size y1 y2 := below_trans B2.drew hx2
      have sa := World.block_lt_of_cell? _ _ u0.1
      have t0 := And.intro (bel_cell hx2 u0.1) ((hx2.frozen (p := ⟨y1.heap.size, 0, none⟩) sa).trans u0.2)
      have t1 := And.intro (bel_cell hx2 u1.1) ((hx2.frozen (p := ⟨y1.heap.size, 1, none⟩) sa).trans u1.2)
      have F1 := Lib.hid ((frb_put (q := y1.heap.size) b1 b2 t0.1 t1.1 t0.2 t1.2 (fun k hk => by have := (b1.lt k hk).1; exact Nat.ne_of_gt (Nat.lt_of_lt_of_le sa this)) (fun k hk => by have := (b2.lt k hk).1; exact Nat.ne_of_gt (Nat.lt_of_lt_of_le sa this))).down (Nat.le_of_lt sa))
      obtain ⟨t2, t3⟩ := t0
      obtain ⟨t4, t5⟩ := t1
      clear b1 b2 AD u0 u1
      go_wp2_with fail
      refine hK2.out _ _ B3 (fun hHeld5 => ?_)
      clear hK2 K2
      (try simp only [Act.put, List.getElem_toArray, List.getElem_cons_succ, List.getElem_cons_zero, List.setIfInBounds_toArray, List.set_cons_zero, List.set_cons_succ])
      (refine wpAnyH_take (i := 9) (v := ?_) rfl (by kernel_rfl) (by kernel_rfl) (by kernel_rfl) (fun _ _ _ h => h) (Or.inl ⟨by rfl, ?_⟩) (by assumption) ?_; rotate_left 1; (focus (intro wz hSz; (try dsimp only at hSz); go_simp; (try with_reducible rfl))); (try simp only [Act.put, List.setIfInBounds_toArray, List.set_cons_zero, List.set_cons_succ]))
      (refine wpAnyH_take (i := 10) (v := ?_) rfl (by kernel_rfl) (by kernel_rfl) (by kernel_rfl) (fun _ _ _ h => h) (Or.inl ⟨by rfl, ?_⟩) (by assumption) ?_; rotate_left 1; (focus (intro wz hSz; (try dsimp only at hSz); go_simp; (try with_reducible rfl))); (try simp only [Act.put, List.setIfInBounds_toArray, List.set_cons_zero, List.set_cons_succ]))
      (refine wpAnyH_take (i := 11) (v := ?_) rfl (by kernel_rfl) (by kernel_rfl) (by kernel_rfl) (fun _ _ _ h => h) (Or.inl ⟨by rfl, ?_⟩) (by assumption) ?_; rotate_left 1; (focus (intro wz hSz; (try dsimp only at hSz); go_simp; (try with_reducible rfl))); (try simp only [Act.put, List.setIfInBounds_toArray, List.set_cons_zero, List.set_cons_succ]))
      refine wpAnyH_ready (rs := [13]) (by kernel_rfl) (by simp) ?_
      refine AllReadyH.cons rfl (fun K3 hK3 => ?_) AllReadyH.nil
      go_simp
      refine hK3.out _ _ ((B3.setCell (p := ⟨y1.heap.size, 0, none⟩) (Nat.le_refl _) (.slice A5 (limbs N0).length a5)).setCell (p := ⟨y1.heap.size, 1, none⟩) (Nat.le_refl _) (.slice A6 (limbs D0).length a6)) (fun hHeld6 => ?_)
      clear hK3 K3
      (try simp only [Act.put, List.getElem_toArray, List.getElem_cons_succ, List.getElem_cons_zero, List.setIfInBounds_toArray, List.set_cons_zero, List.set_cons_succ])
      (refine wpAnyH_take (i := 14) (v := ?_) rfl (by kernel_rfl) (by kernel_rfl) (by kernel_rfl) (fun _ _ _ h => h) (Or.inl ⟨by rfl, ?_⟩) (by assumption) ?_; rotate_left 1; (focus (intro wz hSz; (try dsimp only at hSz); go_simp; (try with_reducible rfl))); (try simp only [Act.put, List.setIfInBounds_toArray, List.set_cons_zero, List.set_cons_succ]))
      (try simp only [Act.put, List.getElem_toArray, List.getElem_cons_succ, List.getElem_cons_zero, List.setIfInBounds_toArray, List.set_cons_zero, List.set_cons_succ])
      refine wpAnyH_done (by kernel_rfl) ?_ _
      go_wp2_with fail
      go_meet
      case rel => exact ⟨y1.heap.size, rfl, rfl, Nat.le_refl _, F1.out, (B3.setCell (p := ⟨y1.heap.size, 0, none⟩) (Nat.le_refl _) (.slice A5 (limbs N0).length a5)).setCell (p := ⟨y1.heap.size, 1, none⟩) (Nat.le_refl _) (.slice A6 (limbs D0).length a6)⟩
  obtain ⟨q, rfl, rfl, hq, fb, hbc⟩ := hcut
  have sW : w.heap.size + 1 ≤ y1.heap.size := World.block_lt_of_cell? _ _ r2.1
  have s0 : OvS w wc b q N0 D0 := by
    have A2 := A1.on hbc
    have l0 := World.block_lt_of_cell? _ _ r2.1
    exact ⟨A2.c4, A2.r4, fb.down sW, bel_cell hbc r2.1, bel_cell hbc r3.1, (hbc.frozen (p := ⟨w.heap.size, 0, none⟩) l0).trans r2.2, (hbc.frozen (p := ⟨w.heap.size, 1, none⟩) l0).trans r3.2, fun K hK => (q1 K hK).trans (hbc.mono (Nat.le_trans hK (Nat.le_of_lt (Nat.lt_of_lt_of_le lb (Nat.le_of_succ_le sW))))), lb, Nat.lt_of_lt_of_le sW hq⟩
  clear M0 M1 M2 M3 A1 A0 CS r2 r3 q1 fb hbc hq al B1
  go_wp2_with fail
  refine (note_cell b wc s0.e4 s0.f4).mono ?_
  rintro e y3 ⟨rfl, rfl⟩
  have s3 := s0.note
  obtain ⟨y3, hy3⟩ : ∃ y3, wc.setCell ⟨b, 4, none⟩ (.int .i64 0) = y3 := ⟨_, rfl⟩
  rw [hy3] at s3 ⊢
  clear hy3 s0
  have H3 := Lib.hid s3
  obtain ⟨v1, v2, ⟨k0, k1⟩, _, b1, b2⟩ := s3.r
  obtain ⟨A5, a5, rfl, n5⟩ := b1.nt
  obtain ⟨A6, a6, rfl, n6⟩ := b2.nt
  clear b1 b2 s3
  have L0 := fun w' (hb : Below y3.heap.size y3 w') => bel_cell hb k0
  have L1 := fun w' (hb : Below y3.heap.size y3 w') => bel_cell hb k1
  have lq : q < y3.heap.size := World.block_lt_of_cell? _ _ k0
  clear k0 k1
  go_upto_region 6 with fail
  go_cut [8, 9] (fun va vb wx => va = .pointer (some ⟨q, 0, none⟩) ∧ vb = .int .i64 0 ∧ OvS w wx b q N1 D1)
  case first =>
    have tr : True := trivial
    refine wp_region_held_drew (S := fun _ => True) (by kernel_rfl) trivial (fun hHeld => ?_)
    (refine wpAnyH_take (i := 2) (v := ?_) rfl (by kernel_rfl) (by kernel_rfl) (by kernel_rfl) (fun _ _ _ h => h) (Or.inl ⟨by rfl, ?_⟩) (by assumption) ?_; rotate_left 1; (focus (intro wz hSz; (try dsimp only at hSz); go_simp; (try with_reducible rfl))); (try simp only [Act.put, List.setIfInBounds_toArray, List.set_cons_zero, List.set_cons_succ]))
    refine wpAnyH_ready (rs := [0, 1]) (by kernel_rfl) (by simp) ?_
    refine AllReadyH.cons rfl (fun K1 hK1 => ?_) (AllReadyH.cons rfl (fun K1 hK1 => ?_) AllReadyH.nil)
    · have k0 := L0 y3.drew (Below.refl _ _).drew
      have k1 := L1 y3.drew (Below.refl _ _).drew
      go_simp
      refine hK1.out _ _ trivial (fun hHeldN => ?_)
      clear hK1 K1
      (try simp only [Act.put, List.getElem_toArray, List.getElem_cons_succ, List.getElem_cons_zero, List.setIfInBounds_toArray, List.set_cons_zero, List.set_cons_succ])
      refine wpAnyH_ready (rs := [1]) (by kernel_rfl) (by simp) ?_
      refine AllReadyH.cons rfl (fun K1 hK1 => ?_) AllReadyH.nil
      go_simp
      refine (w1 _).mono ?_
      rintro e y4 ⟨v3, rfl, b3, hx4⟩
      obtain ⟨A7, a7, rfl, n7⟩ := b3.nt
      have B4 : Below y3.heap.size y3 y4 := below_trans (Below.refl _ _).drew hx4
      clear b3 hx4
      go_wp2_with fail
      refine hK1.out _ _ trivial (fun hHeldN => ?_)
      clear hK1 K1
      (try simp only [Act.put, List.getElem_toArray, List.getElem_cons_succ, List.getElem_cons_zero, List.setIfInBounds_toArray, List.set_cons_zero, List.set_cons_succ])
      refine wpAnyH_ready (rs := [3]) (by kernel_rfl) (by simp) ?_
      refine AllReadyH.cons rfl (fun K1 hK1 => ?_) AllReadyH.nil
      go_simp
      refine (w2 _).mono ?_
      rintro e y5 ⟨v4, rfl, b4, hx5⟩
      obtain ⟨A8, a8, rfl, n8⟩ := b4.nt
      have B5 := below_trans B4 hx5
      have m7 := n7.on hx5
      clear b4 n7 hx5
      go_wp2_with fail
      refine hK1.out _ _ trivial (fun hHeldN => ?_)
      clear hK1 K1
      (try simp only [Act.put, List.getElem_toArray, List.getElem_cons_succ, List.getElem_cons_zero, List.setIfInBounds_toArray, List.set_cons_zero, List.set_cons_succ])
      (refine wpAnyH_take (i := 4) (v := ?_) rfl (by kernel_rfl) (by kernel_rfl) (by kernel_rfl) (fun _ _ _ h => h) (Or.inl ⟨by rfl, ?_⟩) (by assumption) ?_; rotate_left 1; (focus (intro wz hSz; (try dsimp only at hSz); go_simp; (try with_reducible rfl))); (try simp only [Act.put, List.setIfInBounds_toArray, List.set_cons_zero, List.set_cons_succ]))
      refine wpAnyH_ready (rs := [5]) (by kernel_rfl) (by simp) ?_
      refine AllReadyH.cons rfl (fun K1 hK1 => ?_) AllReadyH.nil
      go_simp
      refine (cM y5 A5 a5 A6 a6 A7 a7 A8 a8 (n5.on B5) (n6.on B5) m7 n8).mono ?_
      rintro e y6 ⟨v5, v6, rfl, b5, b6, hx6⟩
      obtain ⟨A9, a9, rfl, n9⟩ := b5.nt
      obtain ⟨A10, a10, rfl, n10⟩ := b6.nt
      have B6 := below_trans B5 hx6
      have s6 := H3.out.on B6
      have s7 := Lib.hid (s6.put b5 b6 (Nat.lt_of_lt_of_le lq B5.size))
      obtain ⟨_, _, ⟨j0, j1⟩, ⟨t0, t1⟩, _⟩ := s6.r
      clear b5 b6 n9 n10 hx6 s6 cM m7 n8 n5 n6 L0 L1
      go_wp2_with fail
      refine hK1.out _ _ trivial (fun hHeld6 => ?_)
      clear hK1 K1
      (try simp only [Act.put, List.getElem_toArray, List.getElem_cons_succ, List.getElem_cons_zero, List.setIfInBounds_toArray, List.set_cons_zero, List.set_cons_succ])
      (refine wpAnyH_take (i := 6) (v := ?_) rfl (by kernel_rfl) (by kernel_rfl) (by kernel_rfl) (fun _ _ _ h => h) (Or.inl ⟨by rfl, ?_⟩) (by assumption) ?_; rotate_left 1; (focus (intro wz hSz; (try dsimp only at hSz); go_simp; (try with_reducible rfl))); (try simp only [Act.put, List.setIfInBounds_toArray, List.set_cons_zero, List.set_cons_succ]))
      (refine wpAnyH_take (i := 7) (v := ?_) rfl (by kernel_rfl) (by kernel_rfl) (by kernel_rfl) (fun _ _ _ h => h) (Or.inl ⟨by rfl, ?_⟩) (by assumption) ?_; rotate_left 1; (focus (intro wz hSz; (try dsimp only at hSz); go_simp; (try with_reducible rfl))); (try simp only [Act.put, List.setIfInBounds_toArray, List.set_cons_zero, List.set_cons_succ]))
      (refine wpAnyH_take (i := 8) (v := ?_) rfl (by kernel_rfl) (by kernel_rfl) (by kernel_rfl) (fun _ _ _ h => h) (Or.inl ⟨by rfl, ?_⟩) (by assumption) ?_; rotate_left 1; (focus (intro wz hSz; (try dsimp only at hSz); go_simp; (try with_reducible rfl))); (try simp only [Act.put, List.setIfInBounds_toArray, List.set_cons_zero, List.set_cons_succ]))
      refine wpAnyH_ready (rs := [9]) (by kernel_rfl) (by simp) ?_
      refine AllReadyH.cons rfl (fun K1 hK1 => ?_) AllReadyH.nil
      go_simp
      refine hK1.out _ _ trivial (fun hHeldN => ?_)
      clear hK1 K1
      (try simp only [Act.put, List.getElem_toArray, List.getElem_cons_succ, List.getElem_cons_zero, List.setIfInBounds_toArray, List.set_cons_zero, List.set_cons_succ])
      (refine wpAnyH_take (i := 10) (v := ?_) rfl (by kernel_rfl) (by kernel_rfl) (by kernel_rfl) (fun _ _ _ h => h) (Or.inl ⟨by rfl, ?_⟩) (by assumption) ?_; rotate_left 1; (focus (intro wz hSz; (try dsimp only at hSz); go_simp; (try with_reducible rfl))); (try simp only [Act.put, List.setIfInBounds_toArray, List.set_cons_zero, List.set_cons_succ]))
      (try simp only [Act.put, List.getElem_toArray, List.getElem_cons_succ, List.getElem_cons_zero, List.setIfInBounds_toArray, List.set_cons_zero, List.set_cons_succ])
      refine wpAnyH_done (by kernel_rfl) ?_ _
      go_wp2_with fail
      go_meet
      case rel => exact ⟨rfl, rfl, s7.out⟩
    · go_simp
      refine (w1 _).mono ?_
      rintro e y4 ⟨v3, rfl, b3, hx4⟩
      obtain ⟨A7, a7, rfl, n7⟩ := b3.nt
      have B4 : Below y3.heap.size y3 y4 := below_trans (Below.refl _ _).drew hx4
      clear b3 hx4
      go_wp2_with fail
      refine hK1.out _ _ trivial (fun hHeldN => ?_)
      clear hK1 K1
      (try simp only [Act.put, List.getElem_toArray, List.getElem_cons_succ, List.getElem_cons_zero, List.setIfInBounds_toArray, List.set_cons_zero, List.set_cons_succ])
      refine wpAnyH_ready (rs := [0, 3]) (by kernel_rfl) (by simp) ?_
      refine AllReadyH.cons rfl (fun K1 hK1 => ?_) (AllReadyH.cons rfl (fun K1 hK1 => ?_) AllReadyH.nil)
      · have k0 := L0 y4 B4
        have k1 := L1 y4 B4
        go_simp
        refine hK1.out _ _ trivial (fun hHeldN => ?_)
        clear hK1 K1
        (try simp only [Act.put, List.getElem_toArray, List.getElem_cons_succ, List.getElem_cons_zero, List.setIfInBounds_toArray, List.set_cons_zero, List.set_cons_succ])
        refine wpAnyH_ready (rs := [3]) (by kernel_rfl) (by simp) ?_
        refine AllReadyH.cons rfl (fun K1 hK1 => ?_) AllReadyH.nil
        go_simp
        refine (w2 _).mono ?_
        rintro e y5 ⟨v4, rfl, b4, hx5⟩
        obtain ⟨A8, a8, rfl, n8⟩ := b4.nt
        have B5 := below_trans B4 hx5
        have m7 := n7.on hx5
        clear b4 n7 hx5
        go_wp2_with fail
        refine hK1.out _ _ trivial (fun hHeldN => ?_)
        clear hK1 K1
        (try simp only [Act.put, List.getElem_toArray, List.getElem_cons_succ, List.getElem_cons_zero, List.setIfInBounds_toArray, List.set_cons_zero, List.set_cons_succ])
        (refine wpAnyH_take (i := 4) (v := ?_) rfl (by kernel_rfl) (by kernel_rfl) (by kernel_rfl) (fun _ _ _ h => h) (Or.inl ⟨by rfl, ?_⟩) (by assumption) ?_; rotate_left 1; (focus (intro wz hSz; (try dsimp only at hSz); go_simp; (try with_reducible rfl))); (try simp only [Act.put, List.setIfInBounds_toArray, List.set_cons_zero, List.set_cons_succ]))
        refine wpAnyH_ready (rs := [5]) (by kernel_rfl) (by simp) ?_
        refine AllReadyH.cons rfl (fun K1 hK1 => ?_) AllReadyH.nil
        go_simp
        refine (cM y5 A5 a5 A6 a6 A7 a7 A8 a8 (n5.on B5) (n6.on B5) m7 n8).mono ?_
        rintro e y6 ⟨v5, v6, rfl, b5, b6, hx6⟩
        obtain ⟨A9, a9, rfl, n9⟩ := b5.nt
        obtain ⟨A10, a10, rfl, n10⟩ := b6.nt
        have B6 := below_trans B5 hx6
        have s6 := H3.out.on B6
        have s7 := Lib.hid (s6.put b5 b6 (Nat.lt_of_lt_of_le lq B5.size))
        obtain ⟨_, _, ⟨j0, j1⟩, ⟨t0, t1⟩, _⟩ := s6.r
        clear b5 b6 n9 n10 hx6 s6 cM m7 n8 n5 n6 L0 L1
        go_wp2_with fail
        refine hK1.out _ _ trivial (fun hHeld6 => ?_)
        clear hK1 K1
        (try simp only [Act.put, List.getElem_toArray, List.getElem_cons_succ, List.getElem_cons_zero, List.setIfInBounds_toArray, List.set_cons_zero, List.set_cons_succ])
        (refine wpAnyH_take (i := 6) (v := ?_) rfl (by kernel_rfl) (by kernel_rfl) (by kernel_rfl) (fun _ _ _ h => h) (Or.inl ⟨by rfl, ?_⟩) (by assumption) ?_; rotate_left 1; (focus (intro wz hSz; (try dsimp only at hSz); go_simp; (try with_reducible rfl))); (try simp only [Act.put, List.setIfInBounds_toArray, List.set_cons_zero, List.set_cons_succ]))
        (refine wpAnyH_take (i := 7) (v := ?_) rfl (by kernel_rfl) (by kernel_rfl) (by kernel_rfl) (fun _ _ _ h => h) (Or.inl ⟨by rfl, ?_⟩) (by assumption) ?_; rotate_left 1; (focus (intro wz hSz; (try dsimp only at hSz); go_simp; (try with_reducible rfl))); (try simp only [Act.put, List.setIfInBounds_toArray, List.set_cons_zero, List.set_cons_succ]))
        (refine wpAnyH_take (i := 8) (v := ?_) rfl (by kernel_rfl) (by kernel_rfl) (by kernel_rfl) (fun _ _ _ h => h) (Or.inl ⟨by rfl, ?_⟩) (by assumption) ?_; rotate_left 1; (focus (intro wz hSz; (try dsimp only at hSz); go_simp; (try with_reducible rfl))); (try simp only [Act.put, List.setIfInBounds_toArray, List.set_cons_zero, List.set_cons_succ]))
        refine wpAnyH_ready (rs := [9]) (by kernel_rfl) (by simp) ?_
        refine AllReadyH.cons rfl (fun K1 hK1 => ?_) AllReadyH.nil
        go_simp
        refine hK1.out _ _ trivial (fun hHeldN => ?_)
        clear hK1 K1
        (try simp only [Act.put, List.getElem_toArray, List.getElem_cons_succ, List.getElem_cons_zero, List.setIfInBounds_toArray, List.set_cons_zero, List.set_cons_succ])
        (refine wpAnyH_take (i := 10) (v := ?_) rfl (by kernel_rfl) (by kernel_rfl) (by kernel_rfl) (fun _ _ _ h => h) (Or.inl ⟨by rfl, ?_⟩) (by assumption) ?_; rotate_left 1; (focus (intro wz hSz; (try dsimp only at hSz); go_simp; (try with_reducible rfl))); (try simp only [Act.put, List.setIfInBounds_toArray, List.set_cons_zero, List.set_cons_succ]))
        (try simp only [Act.put, List.getElem_toArray, List.getElem_cons_succ, List.getElem_cons_zero, List.setIfInBounds_toArray, List.set_cons_zero, List.set_cons_succ])
        refine wpAnyH_done (by kernel_rfl) ?_ _
        go_wp2_with fail
        go_meet
        case rel => exact ⟨rfl, rfl, s7.out⟩
      · go_simp
        refine (w2 _).mono ?_
        rintro e y5 ⟨v4, rfl, b4, hx5⟩
        obtain ⟨A8, a8, rfl, n8⟩ := b4.nt
        have B5 := below_trans B4 hx5
        have m7 := n7.on hx5
        clear b4 n7 hx5
        go_wp2_with fail
        refine hK1.out _ _ trivial (fun hHeldN => ?_)
        clear hK1 K1
        (try simp only [Act.put, List.getElem_toArray, List.getElem_cons_succ, List.getElem_cons_zero, List.setIfInBounds_toArray, List.set_cons_zero, List.set_cons_succ])
        (refine wpAnyH_take (i := 4) (v := ?_) rfl (by kernel_rfl) (by kernel_rfl) (by kernel_rfl) (fun _ _ _ h => h) (Or.inl ⟨by rfl, ?_⟩) (by assumption) ?_; rotate_left 1; (focus (intro wz hSz; (try dsimp only at hSz); go_simp; (try with_reducible rfl))); (try simp only [Act.put, List.setIfInBounds_toArray, List.set_cons_zero, List.set_cons_succ]))
        refine wpAnyH_ready (rs := [0]) (by kernel_rfl) (by simp) ?_
        refine AllReadyH.cons rfl (fun K1 hK1 => ?_) AllReadyH.nil
        have k0 := L0 y5 B5
        have k1 := L1 y5 B5
        go_simp
        refine hK1.out _ _ trivial (fun hHeldN => ?_)
        clear hK1 K1
        (try simp only [Act.put, List.getElem_toArray, List.getElem_cons_succ, List.getElem_cons_zero, List.setIfInBounds_toArray, List.set_cons_zero, List.set_cons_succ])
        refine wpAnyH_ready (rs := [5]) (by kernel_rfl) (by simp) ?_
        refine AllReadyH.cons rfl (fun K1 hK1 => ?_) AllReadyH.nil
        go_simp
        refine (cM y5 A5 a5 A6 a6 A7 a7 A8 a8 (n5.on B5) (n6.on B5) m7 n8).mono ?_
        rintro e y6 ⟨v5, v6, rfl, b5, b6, hx6⟩
        obtain ⟨A9, a9, rfl, n9⟩ := b5.nt
        obtain ⟨A10, a10, rfl, n10⟩ := b6.nt
        have B6 := below_trans B5 hx6
        have s6 := H3.out.on B6
        have s7 := Lib.hid (s6.put b5 b6 (Nat.lt_of_lt_of_le lq B5.size))
        obtain ⟨_, _, ⟨j0, j1⟩, ⟨t0, t1⟩, _⟩ := s6.r
        clear b5 b6 n9 n10 hx6 s6 cM m7 n8 n5 n6 L0 L1
        go_wp2_with fail
        refine hK1.out _ _ trivial (fun hHeld6 => ?_)
        clear hK1 K1
        (try simp only [Act.put, List.getElem_toArray, List.getElem_cons_succ, List.getElem_cons_zero, List.setIfInBounds_toArray, List.set_cons_zero, List.set_cons_succ])
        (refine wpAnyH_take (i := 6) (v := ?_) rfl (by kernel_rfl) (by kernel_rfl) (by kernel_rfl) (fun _ _ _ h => h) (Or.inl ⟨by rfl, ?_⟩) (by assumption) ?_; rotate_left 1; (focus (intro wz hSz; (try dsimp only at hSz); go_simp; (try with_reducible rfl))); (try simp only [Act.put, List.setIfInBounds_toArray, List.set_cons_zero, List.set_cons_succ]))
        (refine wpAnyH_take (i := 7) (v := ?_) rfl (by kernel_rfl) (by kernel_rfl) (by kernel_rfl) (fun _ _ _ h => h) (Or.inl ⟨by rfl, ?_⟩) (by assumption) ?_; rotate_left 1; (focus (intro wz hSz; (try dsimp only at hSz); go_simp; (try with_reducible rfl))); (try simp only [Act.put, List.setIfInBounds_toArray, List.set_cons_zero, List.set_cons_succ]))
        (refine wpAnyH_take (i := 8) (v := ?_) rfl (by kernel_rfl) (by kernel_rfl) (by kernel_rfl) (fun _ _ _ h => h) (Or.inl ⟨by rfl, ?_⟩) (by assumption) ?_; rotate_left 1; (focus (intro wz hSz; (try dsimp only at hSz); go_simp; (try with_reducible rfl))); (try simp only [Act.put, List.setIfInBounds_toArray, List.set_cons_zero, List.set_cons_succ]))
        refine wpAnyH_ready (rs := [9]) (by kernel_rfl) (by simp) ?_
        refine AllReadyH.cons rfl (fun K1 hK1 => ?_) AllReadyH.nil
        go_simp
        refine hK1.out _ _ trivial (fun hHeldN => ?_)
        clear hK1 K1
        (try simp only [Act.put, List.getElem_toArray, List.getElem_cons_succ, List.getElem_cons_zero, List.setIfInBounds_toArray, List.set_cons_zero, List.set_cons_succ])
        (refine wpAnyH_take (i := 10) (v := ?_) rfl (by kernel_rfl) (by kernel_rfl) (by kernel_rfl) (fun _ _ _ h => h) (Or.inl ⟨by rfl, ?_⟩) (by assumption) ?_; rotate_left 1; (focus (intro wz hSz; (try dsimp only at hSz); go_simp; (try with_reducible rfl))); (try simp only [Act.put, List.setIfInBounds_toArray, List.set_cons_zero, List.set_cons_succ]))
        (try simp only [Act.put, List.getElem_toArray, List.getElem_cons_succ, List.getElem_cons_zero, List.setIfInBounds_toArray, List.set_cons_zero, List.set_cons_succ])
        refine wpAnyH_done (by kernel_rfl) ?_ _
        go_wp2_with fail
        go_meet
        case rel => exact ⟨rfl, rfl, s7.out⟩
  obtain ⟨rfl, rfl, s7⟩ := hcut
  clear n5 n6 L0 L1 lq H3 cM w2
  go_wp2_with fail
  refine (note_cell b _ s7.e4 s7.f4).mono ?_
  rintro e y3 ⟨rfl, rfl⟩
  have s8 := s7.note
  obtain ⟨y7, hy7⟩ : ∃ y7, wc.setCell ⟨b, 4, none⟩ (.int .i64 0) = y7 := ⟨_, rfl⟩
  rw [hy7] at s8 ⊢
  clear hy7 s7
  go_wp2_with fail
  refine (w1 _).mono ?_
  rintro e y8 ⟨v3, rfl, b3, hx8⟩
  obtain ⟨A7, a7, rfl, n7⟩ := b3.nt
  go_wp2_with fail
  refine (w1 _).mono ?_
  rintro e y9 ⟨v4, rfl, b4, hx9⟩
  obtain ⟨A8, a8, rfl, n8⟩ := b4.nt
  have s9 := (s8.on hx8).on hx9
  have lq : q < y7.heap.size := s8.r.lt
  have lq9 : q < y9.heap.size := s9.r.lt
  have p3 := b3.below hx9
  have p4 := b4.down hx8.size
  obtain ⟨y10, hy10⟩ : ∃ y10, y9.alloc (.cells #[.slice A7 (limbs 1).length a7, .slice A8 (limbs 1).length a8] 53) = y10 := ⟨_, rfl⟩
  have al9 := below_alloc (Below.refl y9.heap.size y9) (.cells #[.slice A7 (limbs 1).length a7, .slice A8 (limbs 1).length a8] 53)
  have g0 : y10.cell? ⟨y9.heap.size, 0, none⟩ = some (.slice A7 (limbs 1).length a7) := by subst hy10; go_simp
  have g1 : y10.cell? ⟨y9.heap.size, 1, none⟩ = some (.slice A8 (limbs 1).length a8) := by subst hy10; go_simp
  go_upto_region 9 with fail
  rw [hy10] at al9
  clear hy10
  have s10 := s9.on al9
  have m7 := (n7.on hx9).on al9
  have m8 := n8.on al9
  have p3 := p3.below al9
  have p4 := p4.below al9
  clear b3 b4 n7 n8 hx8 hx9 w1 s8 s9
  obtain ⟨v1, v2, ⟨k0, k1⟩, ⟨t0, t1⟩, b1, b2⟩ := s10.r
  obtain ⟨A9, a9, rfl, n9⟩ := b1.nt
  obtain ⟨A10, a10, rfl, n10⟩ := b2.nt
  have H10 := Lib.hid s10
  clear b1 b2 s10
  go_wp2_with fail
  refine (cF y10 A9 a9 A10 a10 A7 a7 A8 a8 n9 n10 m7 m8).mono ?_
  rintro e y11 ⟨rfl, hx11⟩
  have s11 := H10.out.on hx11
  have k2 := bel_cell hx11 k0
  have k3 := bel_cell hx11 k1
  have g2 := bel_cell hx11 g0
  have g3 := bel_cell hx11 g1
  have t2 := (hx11.frozen (p := ⟨q, 0, none⟩) (World.block_lt_of_cell? _ _ k0)).trans t0
  have t3 := (hx11.frozen (p := ⟨q, 1, none⟩) (World.block_lt_of_cell? _ _ k1)).trans t1
  have p5 := p3.below hx11
  have p6 := p4.below hx11
  clear k0 k1 g0 g1 t0 t1 p3 p4 cF n9 n10 m7 m8 H10 al9 hx11
  by_cases hlt : D1 < N1
  · have hc1 : cmpI N1 D1 = 1 := cmpI_gt hlt
    have hm : min (x - y) (T * d) = T * d := Nat.min_eq_right (Nat.le_of_lt (Top.out.1 hlt))
    have one := rd_self (Nat.mul_pos HT.out hd)
    have s12 := s11.put p5 p6 lq
    have e0 := s12.e4; have e1 := s12.c0; have e2 := s12.c1; have e3 := s12.z0; have e4 := s12.z1
    have S12 := Lib.hid s12
    have HM := Lib.hid hm
    have ONE := Lib.hid one
    clear s11 s12 hm one hlt p5 p6
    rw [hc1]
    clear hc1
    go_upto_region 12 with fail
    have k4 : ((y11.setCell ⟨q, 0, none⟩ (.slice A7 (limbs 1).length a7)).setCell ⟨q, 1, none⟩ (.slice A8 (limbs 1).length a8)).cell? ⟨q, 0, none⟩ = some (.slice A7 (limbs 1).length a7) := by go_simp
    have k5 : ((y11.setCell ⟨q, 0, none⟩ (.slice A7 (limbs 1).length a7)).setCell ⟨q, 1, none⟩ (.slice A8 (limbs 1).length a8)).cell? ⟨q, 1, none⟩ = some (.slice A8 (limbs 1).length a8) := by go_simp
    obtain ⟨y12, hy12⟩ : ∃ y12, (y11.setCell ⟨q, 0, none⟩ (.slice A7 (limbs 1).length a7)).setCell ⟨q, 1, none⟩ (.slice A8 (limbs 1).length a8) = y12 := ⟨_, rfl⟩
    rw [hy12] at S12 k4 k5 e0 e1 e2 e3 e4 ⊢
    clear hy12 k2 k3 t2 t3 g2 g3
    have FF := S12.out.done k4 k5
    have e5 : 1 = rdN (min (x - y) (T * d)) (T * d) := by rw [HM.out, ONE.out.1]
    have e6 : 1 = rdD (min (x - y) (T * d)) (T * d) := by rw [HM.out, ONE.out.2]
    obtain ⟨F1, F2, F3⟩ := FF
    have F1 := Eq.subst (motive := fun z => Big _ _ _ z) e5 F1
    have F2 := Eq.subst (motive := fun z => Big _ _ _ z) e6 F2
    clear e5 e6
    go_region
    all_goals (
      go_wp2_with fail
      (try simp only [Exit.inBlock, Exit.then])
      refine bodyPost_ret (v := .tuple #[.agg #[.slice A7 (limbs 1).length a7, .slice A8 (limbs 1).length a8], .int .i64 0]) ?_ rfl ⟨_, _, rfl, F1, F2, fun K hK => (F3 K hK).drew⟩
      rw [results_cell_tmp rfl]
      go_simp)
  · have hc1 : cmpI N1 D1 ≤ 0 := cmpI_le hlt
    have hm : min (x - y) (T * d) = x - y := Nat.min_eq_left (Nat.le_of_not_lt (fun h => hlt (Top.out.2 h)))
    have e0 := s11.e4; have e1 := s11.c0; have e2 := s11.c1; have e3 := s11.z0; have e4 := s11.z1
    have S11 := Lib.hid s11
    have HM := Lib.hid hm
    clear s11 hm hlt p5 p6
    go_upto_region 12 with fail
    clear t2 t3 g2 g3
    have FF := S11.out.done k2 k3
    have e5 : N1 = rdN (min (x - y) (T * d)) (T * d) := by rw [HM.out, E1.out]
    have e6 : D1 = rdD (min (x - y) (T * d)) (T * d) := by rw [HM.out, E2.out]
    obtain ⟨F1, F2, F3⟩ := FF
    have F1 := Eq.subst (motive := fun z => Big _ _ _ z) e5 F1
    have F2 := Eq.subst (motive := fun z => Big _ _ _ z) e6 F2
    clear e5 e6
    go_region
    all_goals (
      go_wp2_with fail
      (try simp only [Exit.inBlock, Exit.then])
      refine bodyPost_ret (v := .tuple #[.agg #[.slice A9 (limbs N1).length a9, .slice A10 (limbs D1).length a10], .int .i64 0]) ?_ rfl ⟨_, _, rfl, F1, F2, fun K hK => (F3 K hK).drew⟩
      rw [results_cell_tmp rfl]
      go_simp)

theorem over_rep (b x y T d : Nat) (w : World) (hS : SumR w b x y T) (hd : 0 < d) (hd2 : d ≤ 65536) (hT : 0 < T) (hx : x < B32 ^ 4) (hy : y < B32 ^ 4) (hT4 : T < B32 ^ 4) :
    Calls Tryz.prog 41 #[.pointer (some ⟨b, 0, none⟩), .int .i64 (d : Int)] w fun e w' => OvR w w' b (min (x - y) (T * d)) (T * d) e := by
  rcases Nat.lt_or_ge y x with h | h
  · exact over_high b x y T d w hS hd hd2 hT hx hy hT4 h
  · rw [Nat.sub_eq_zero_of_le h, Nat.zero_min]
    exact over_low b x y T d w hS hd hd2 hT hx hy hT4 h

end Go.Proofs.YteoaaphjbggobaaGreatDoor
