/- A pool and the reference's pool side by side. -/
import Derived.Test.YtpejoghdmkpfcaaGreatDoorPlrD
namespace Go.Proofs.YtpejoghdmkpfcaaGreatDoor
open Go.RowKit Go.Maps
set_option linter.unusedVariables false
set_option linter.unusedSimpArgs false

theorem plE_rev (W : Nat) (bits : List Bool) (d : List Nat) (n : Int) (m : List Bool) : plE W bits d.reverse n m = plE W bits d n m := by
  unfold plE; simp only [List.mem_reverse]
theorem opE_rev (W : Nat) (bits : List Bool) (d : List Nat) (n : Int) (m : List Bool) (t : Nat) : opE W bits d.reverse n m t = opE W bits d n m t := by
  unfold opE; rw [plE_rev]

/-- A pool (its bits bp, its used numbers u) and the reference's (br, d) that share no block; all of both is the call's own. -/
structure Duo (v w : World) (b nb mb q W : Nat) (bp : List Bool) (u : List Nat) (vb vd : Value) (br : List Bool) (d : List Nat) : Prop where
  p : PoolAt w b nb mb W bp u
  r : RpAt w v.heap.size q W vb vd br d
  hb : Below v.heap.size v w
  lo : v.heap.size ≤ b ∧ v.heap.size ≤ nb ∧ v.heap.size ≤ mb
  qs : q ≠ b ∧ q ≠ nb ∧ q ≠ mb
  vs : ∀ g, vb.ownBlock = some g ∨ vd.ownBlock = some g → g ≠ b ∧ g ≠ nb ∧ g ≠ mb
  sa : ∀ A c, w.cell? ⟨b, 2, none⟩ = some (.slice A bp.length c) → ∀ a, A = some a → v.heap.size ≤ a.block ∧ a.block ≠ q ∧ vd.ownBlock ≠ some a.block
section
variable {v w w' : World} {b nb mb q W : Nat} {bp br : List Bool} {u d : List Nat} {vb vd : Value}
theorem Duo.blt (h : Duo v w b nb mb q W bp u vb vd br d) : b < w.heap.size ∧ nb < w.heap.size ∧ mb < w.heap.size :=
  ⟨World.block_lt_of_cell? _ _ h.p.c0, World.block_lt_of_cell? _ _ h.p.d0, h.p.us.lt⟩
theorem Duo.below (h : Duo v w b nb mb q W bp u vb vd br d) (hb : Below w.heap.size w w') : Duo v w' b nb mb q W bp u vb vd br d := by
  refine ⟨h.p.on hb, h.r.on hb, h.hb.trans (hb.mono h.hb.size), h.lo, h.qs, h.vs, fun A c hc => ?_⟩
  obtain ⟨A0, c0, hc0, _⟩ := h.p.c2
  rw [bel_cell hb hc0] at hc
  cases hc
  exact h.sa _ _ hc0
theorem not_some {v : Value} {k : Nat} (h : ∀ g, v.ownBlock = some g → g ≠ k) : v.ownBlock = none ∨ v.ownBlock ≠ some k := by
  cases hv : v.ownBlock with
  | none => exact .inl rfl
  | some g => exact .inr (by simpa using h g hv)
/-- The pool's map was written. -/
theorem Duo.sealP (h : Duo v w b nb mb q W bp u vb vd br d) {u' : List Nat} (p' : PoolAt w' b nb mb W bp u') (hg : w.grownBy w' (some mb)) : Duo v w' b nb mb q W bp u' vb vd br d := by
  have hb2 := h.hb.grown hg h.hb.size (fun g hg => by cases hg; exact h.lo.2.2)
  refine ⟨p', h.r.keep hg (by simpa using fun e => h.qs.2.2 e.symm) (not_some fun g hg => (h.vs g (.inl hg)).2.2) (not_some fun g hg => (h.vs g (.inr hg)).2.2), hb2, h.lo, h.qs, h.vs, fun A c hc => ?_⟩
  obtain ⟨A0, c0, hc0, _⟩ := h.p.c2
  rw [hg.cell hc0 (by simpa using h.p.bm)] at hc
  cases hc
  exact h.sa _ _ hc0
/-- The pool's bits are others. -/
theorem Duo.refP (h : Duo v w b nb mb q W bp u vb vd br d) {bp' : List Bool} (p' : PoolAt w' b nb mb W bp' u) (hg : w.grownBy w' (some b)) (hf : ∀ A c, w'.cell? ⟨b, 2, none⟩ = some (.slice A bp'.length c) → ∀ a, A = some a → w.heap.size ≤ a.block) : Duo v w' b nb mb q W bp' u vb vd br d := by
  have hb2 := h.hb.grown hg h.hb.size (fun g hg => by cases hg; exact h.lo.1)
  refine ⟨p', h.r.keep hg (by simpa using fun e => h.qs.1 e.symm) (not_some fun g hg => (h.vs g (.inl hg)).1) (not_some fun g hg => (h.vs g (.inr hg)).1), hb2, h.lo, h.qs, h.vs, fun A c hc a ha => ?_⟩
  have h1 := hf A c hc a ha
  have h2 := h.r.lt
  have h3 := h.hb.size
  refine ⟨by omega, by omega, fun e => ?_⟩
  have := (World.ownsRow.lt h.r.od _ e).2
  omega
/-- A number was laid into the reference's pool. -/
theorem Duo.putR (h : Duo v w b nb mb q W bp u vb vd br d) {n : Int} (hp : RpPut w w' v.heap.size q W vb vd br d n) : ∃ vd', Duo v w' b nb mb q W bp u vb vd' br (d ++ [n.toNat]) := by
  obtain ⟨vd', w1, r', hg1, hg2, hat⟩ := hp
  obtain ⟨lb, ln, lm⟩ := h.blt
  have hbnd : ∀ k, vd.ownBlock = some k → v.heap.size ≤ k := fun k hk => (World.ownsRow.lt h.r.od k hk).1
  have nvd : ∀ k, (k = b ∨ k = nb ∨ k = mb) → some k ≠ vd.ownBlock := fun k hk e => by
    obtain ⟨h1, h2, h3⟩ := h.vs k (.inr e.symm)
    rcases hk with rfl | rfl | rfl
    · exact h1 rfl
    · exact h2 rfl
    · exact h3 rfl
  obtain ⟨A0, c0, hc0, ar0, _, _, _, l40⟩ := h.p.c2
  have p1 := h.p.kept hg1 (nvd b (.inl rfl)) (nvd nb (.inr (.inl rfl))) (nvd mb (.inr (.inr rfl))) (fun A c hc a ha => fun e => (h.sa A c hc a ha).2.2 e.symm)
  have k1 := hg1.cell hc0 (nvd b (.inl rfl))
  have p2 := p1.kept hg2 (by simpa using fun e => h.qs.1 e.symm) (by simpa using fun e => h.qs.2.1 e.symm) (by simpa using fun e => h.qs.2.2 e.symm) (fun A c hc a ha => by
    rw [k1] at hc
    cases hc
    simpa using (h.sa _ _ hc0 a ha).2.1)
  have k2 := hg2.cell k1 (by simpa using fun e => h.qs.1 e.symm)
  have hb1 := h.hb.grown hg1 h.hb.size (fun g hg => hbnd g hg)
  have hb2 := hb1.grown hg2 hb1.size (fun g hg => by cases hg; exact h.r.ql)
  refine ⟨vd', p2, r', hb2, h.lo, h.qs, fun g hg => ?_, fun A c hc a ha => ?_⟩
  · rcases hg with hg | hg
    · exact h.vs g (.inl hg)
    · rcases hat with hat | ⟨H, hat, hH⟩
      · exact h.vs g (.inr (hat ▸ hg))
      · rw [hat] at hg
        cases hg
        exact ⟨by omega, by omega, by omega⟩
  · rw [k2] at hc
    cases hc
    obtain ⟨h1, h2, h3⟩ := h.sa _ _ hc0 a ha
    refine ⟨h1, h2, fun e => ?_⟩
    rcases hat with hat | ⟨H, hat, hH⟩
    · exact h3 (hat ▸ e)
    · rw [hat] at e
      have := (l40 a ha).2
      simp at e
      omega
/-- The reference's bits are others. -/
theorem Duo.refR (h : Duo v w b nb mb q W bp u vb vd br d) {vb' : Value} {br' : List Bool} (r' : RpAt w' v.heap.size q W vb' vd br' d) (hg : w.grownBy w' (some q)) (hf : ∀ g, vb'.ownBlock = some g → w.heap.size ≤ g) : Duo v w' b nb mb q W bp u vb' vd br' d := by
  obtain ⟨lb, ln, lm⟩ := h.blt
  obtain ⟨A0, c0, hc0, ar0, _, _, _, l40⟩ := h.p.c2
  have hb2 := h.hb.grown hg h.hb.size (fun g hg => by cases hg; exact h.r.ql)
  refine ⟨h.p.kept hg (by simpa using fun e => h.qs.1 e.symm) (by simpa using fun e => h.qs.2.1 e.symm) (by simpa using fun e => h.qs.2.2 e.symm) (fun A c hc a ha => by simpa using (h.sa A c hc a ha).2.1), r', hb2, h.lo, h.qs, fun g hg => ?_, fun A c hc => ?_⟩
  · rcases hg with hg | hg
    · have := hf g hg
      exact ⟨by omega, by omega, by omega⟩
    · exact h.vs g (.inr hg)
  · rw [hg.cell hc0 (by simpa using fun e => h.qs.1 e.symm)] at hc
    cases hc
    exact h.sa _ _ hc0
/-- The pool is another one, of blocks of its own. -/
theorem duo_new {lo hi : Nat} (r : RpAt w v.heap.size q W vb vd br d) (hb : Below v.heap.size v w) (p : PoolIn lo hi w b nb mb W bp u) (hq : q < lo ∨ hi ≤ q) (hv : ∀ g, vb.ownBlock = some g ∨ vd.ownBlock = some g → g < lo ∨ hi ≤ g) (hlo : v.heap.size ≤ lo) : Duo v w b nb mb q W bp u vb vd br d := by
  have h1 := p.b1; have h2 := p.n1; have h3 := p.m1
  refine ⟨p.p, r, hb, ⟨by omega, by omega, by omega⟩, ⟨by omega, by omega, by omega⟩, fun g hg => ?_, fun A c hc a ha => ?_⟩
  · have := hv g hg
    exact ⟨by omega, by omega, by omega⟩
  · obtain ⟨h4, h5⟩ := p.a1 A c hc a ha
    refine ⟨by omega, by omega, fun e => ?_⟩
    have := hv _ (.inr e)
    omega
theorem Copy_in (h : PoolAt w b nb mb W bp u) :
    Calls Tryz.prog 11 #[.pointer (some ⟨b, 0, none⟩)] w fun e w' => ∃ b' nb' mb', e = .returned (.pointer (some ⟨b', 0, none⟩)) ∧ PoolIn w.heap.size w'.heap.size w' b' nb' mb' W bp u ∧ Below w.heap.size w w' := by
  refine (Copy_any b nb mb W bp u w h).mono ?_
  rintro e w' ⟨b', nb', mb', rfl, p, h1, h2, h3, h4, hb⟩
  refine ⟨b', nb', mb', rfl, ⟨p, ⟨h1, World.block_lt_of_cell? _ _ p.c0⟩, ⟨h2, World.block_lt_of_cell? _ _ p.d0⟩, ⟨h3, p.us.lt⟩, fun A' c' hc' a ha => ⟨h4 A' c' hc' a ha, ?_⟩⟩, hb⟩
  obtain ⟨A0, c0, hc0, _, _, _, _, h5⟩ := p.c2
  rw [hc0] at hc'
  cases hc'
  exact (h5 a ha).2
end

end Go.Proofs.YtpejoghdmkpfcaaGreatDoor
