/- A pool and the reference's pool side by side: what each call answers and leaves. -/
import Derived.Test.YtpejoghdmkpfcaaGreatDoorPlrE
namespace Go.Proofs.YtpejoghdmkpfcaaGreatDoor
open Go.RowKit Go.Maps
set_option linter.unusedVariables false
set_option linter.unusedSimpArgs false

section
variable {v w w' : World} {b nb mb q W : Nat} {bp br : List Bool} {u d : List Nat} {vb vd : Value}
theorem Duo.dl (h : Duo v w b nb mb q W bp u vb vd br d) (hu : u.length = d.length) : d.length ≤ 5000 := by
  have h1 := nodup_le _ u h.p.un h.p.ub
  have h2 := h.p.bl
  have h3 : bp.length / (2 * W) ≤ 4096 := by rcases h.p.wd with rfl | rfl | rfl <;> omega
  omega
theorem below_at {w w' : World} (hb : Below w.heap.size w w') (x : Nat) (hx : x < w.heap.size) : w'.heap[x]? = w.heap[x]? := hb.block x hx
theorem Duo.arr (h : Duo v w b nb mb q W bp u vb vd br d) {M : Option Addr} {m : List Bool} (hM : Arr 1 encB v v.heap.size M m) : Arr 1 encB w w.heap.size M m := hM.on h.hb

theorem RpPut.far {lo : Nat} {n : Int} (h : RpPut w w' lo q W vb vd br d n) (x : Nat) (hx : x < w.heap.size) (hq : x ≠ q) (hv : vd.ownBlock ≠ some x) : w'.heap[x]? = w.heap[x]? := by
  obtain ⟨vd', w1, _, h1, h2, _⟩ := h
  exact (h2.block x (Nat.lt_of_lt_of_le hx h1.size) (by simpa using hq)).trans (h1.block x hx (fun e => hv e.symm))
theorem duo_seal (h : Duo v w b nb mb q W bp d.reverse vb vd br d) (n : Int) (M : Option Addr) (mc : Nat) (m : List Bool) (hM : Arr 1 encB v v.heap.size M m) (lm : m.length ≤ mc) (mm : mc ≤ maxLen) :
    Calls Tryz.prog 12 #[.pointer (some ⟨b, 0, none⟩), .int .i64 n, .slice M m.length mc] w fun e w' => e = .returned (.tuple #[.int .u64 (plX W bp d n m), .int .i64 (plE W bp d n m)]) ∧
      ∃ u', Duo v w' b nb mb q W bp u' vb vd br d ∧ (plE W bp d n m = 0 ∧ u' = n.toNat :: d.reverse ∨ plE W bp d n m ≠ 0 ∧ u' = d.reverse) ∧ ∀ x, x < w.heap.size → x ≠ mb → w'.heap[x]? = w.heap[x]? := by
  have c := Seal_any b nb mb W bp d.reverse n M mc m w h.p (h.arr hM) lm mm
  simp only [plE_rev] at c
  refine c.mono ?_
  rintro e w' ⟨rfl, ⟨h1, hb⟩ | ⟨h1, p', hg⟩⟩
  · exact ⟨by unfold plX; split <;> rfl, _, h.below hb, .inr ⟨h1, rfl⟩, fun x hx _ => below_at hb x hx⟩
  · exact ⟨by unfold plX; split <;> rfl, _, h.sealP p' hg, .inl ⟨h1, rfl⟩, fun x hx hm => hg.block x hx (by simpa using hm)⟩
theorem duo_open (h : Duo v w b nb mb q W bp d.reverse vb vd br d) (n : Int) (M : Option Addr) (mc : Nat) (m : List Bool) (t : Nat) (hM : Arr 1 encB v v.heap.size M m) (lm : m.length ≤ mc) (mm : mc ≤ maxLen) :
    Calls Tryz.prog 13 #[.pointer (some ⟨b, 0, none⟩), .int .i64 n, .slice M m.length mc, .int .u64 t] w fun e w' => e = .returned (.int .i64 (opE W bp d n m t)) ∧
      ∃ u', Duo v w' b nb mb q W bp u' vb vd br d ∧ (opE W bp d n m t = 0 ∧ u' = n.toNat :: d.reverse ∨ opE W bp d n m t ≠ 0 ∧ u' = d.reverse) ∧ ∀ x, x < w.heap.size → x ≠ mb → w'.heap[x]? = w.heap[x]? := by
  have c := Open_any b nb mb W bp d.reverse n M mc m t w h.p (h.arr hM) lm mm
  simp only [opE_rev] at c
  refine c.mono ?_
  rintro e w' ⟨rfl, ⟨h1, hb⟩ | ⟨h1, p', hg⟩⟩
  · exact ⟨rfl, _, h.below hb, .inr ⟨h1, rfl⟩, fun x hx _ => below_at hb x hx⟩
  · exact ⟨rfl, _, h.sealP p' hg, .inl ⟨h1, rfl⟩, fun x hx hm => hg.block x hx (by simpa using hm)⟩
theorem duo_rseal (h : Duo v w b nb mb q W bp u vb vd br d) (n : Int) (M : Option Addr) (mc : Nat) (m : List Bool) (hM : Arr 1 encB v v.heap.size M m) (nM : M = none → mc = 0) (lm : m.length ≤ 60000) (hd : d.length ≤ 5000) :
    Calls Tryz.prog 48 #[.pointer (some ⟨q, 0, none⟩), .int .i64 n, .slice M m.length mc] w fun e w' => e = .returned (.tuple #[.int .u64 (plX W br d n m), .int .i64 (plE W br d n m)]) ∧
      ∃ d' vd', Duo v w' b nb mb q W bp u vb vd' br d' ∧ (plE W br d n m = 0 ∧ d' = d ++ [n.toNat] ∨ plE W br d n m ≠ 0 ∧ d' = d) ∧ ∀ x, x < w.heap.size → x ≠ q → vd.ownBlock ≠ some x → w'.heap[x]? = w.heap[x]? := by
  refine (rSeal_any n M mc m w h.r (h.arr hM) nM lm h.hb.size hd).mono ?_
  rintro e w' ⟨rfl, ⟨h1, hb⟩ | ⟨h1, hp⟩⟩
  · exact ⟨rfl, _, _, h.below hb, .inr ⟨h1, rfl⟩, fun x hx _ _ => below_at hb x hx⟩
  · obtain ⟨vd', h2⟩ := h.putR hp
    exact ⟨rfl, _, vd', h2, .inl ⟨h1, rfl⟩, fun x hx hq hv => hp.far x hx hq hv⟩
theorem duo_ropen (h : Duo v w b nb mb q W bp u vb vd br d) (n : Int) (M : Option Addr) (mc : Nat) (m : List Bool) (t : Nat) (hM : Arr 1 encB v v.heap.size M m) (nM : M = none → mc = 0) (lm : m.length ≤ 60000) (hd : d.length ≤ 5000) :
    Calls Tryz.prog 49 #[.pointer (some ⟨q, 0, none⟩), .int .i64 n, .slice M m.length mc, .int .u64 t] w fun e w' => e = .returned (.int .i64 (opE W br d n m t)) ∧
      ∃ d' vd', Duo v w' b nb mb q W bp u vb vd' br d' ∧ (opE W br d n m t = 0 ∧ d' = d ++ [n.toNat] ∨ opE W br d n m t ≠ 0 ∧ d' = d) ∧ ∀ x, x < w.heap.size → x ≠ q → vd.ownBlock ≠ some x → w'.heap[x]? = w.heap[x]? := by
  refine (rOpen_any n M mc m t w h.r (h.arr hM) nM lm h.hb.size hd).mono ?_
  rintro e w' ⟨rfl, ⟨h1, hb⟩ | ⟨h1, hp⟩⟩
  · exact ⟨rfl, _, _, h.below hb, .inr ⟨h1, rfl⟩, fun x hx _ _ => below_at hb x hx⟩
  · obtain ⟨vd', h2⟩ := h.putR hp
    exact ⟨rfl, _, vd', h2, .inl ⟨h1, rfl⟩, fun x hx hq hv => hp.far x hx hq hv⟩
theorem duo_refill (h : Duo v w b nb mb q W bp u vb vd br d) (M : Option Addr) (mc : Nat) (m : List Bool) (hM : Arr 1 encB v v.heap.size M m) (lm : m.length ≤ mc) (mm : mc ≤ maxLen) (nM : M = none → mc = 0) (l6 : m.length ≤ 60000) :
    Calls Tryz.prog 33 #[.pointer (some ⟨b, 0, none⟩), .slice M m.length mc] w fun e w' => e = .returned (.int .i64 (reE bp m)) ∧
      ∃ bp', Duo v w' b nb mb q W bp' u vb vd br d ∧ (reE bp m = 0 ∧ bp' = bp ++ m ∨ reE bp m ≠ 0 ∧ bp' = bp) ∧ ∀ x, x < w.heap.size → x ≠ b → w'.heap[x]? = w.heap[x]? := by
  refine (Refill_any b nb mb W bp u M mc m w h.p (h.arr hM) lm mm nM (by omega)).mono ?_
  rintro e w' ⟨rfl, ⟨h1, hb⟩ | ⟨h1, p', hg, hf⟩⟩
  · exact ⟨rfl, _, h.below hb, .inr ⟨h1, rfl⟩, fun x hx _ => below_at hb x hx⟩
  · exact ⟨rfl, _, h.refP p' hg hf, .inl ⟨h1, rfl⟩, fun x hx hm => hg.block x hx (by simpa using hm)⟩
theorem duo_rrefill (h : Duo v w b nb mb q W bp u vb vd br d) (M : Option Addr) (mc : Nat) (m : List Bool) (hM : Arr 1 encB v v.heap.size M m) (nM : M = none → mc = 0) (l6 : m.length ≤ 60000) :
    Calls Tryz.prog 51 #[.pointer (some ⟨q, 0, none⟩), .slice M m.length mc] w fun e w' => e = .returned (.int .i64 (reE br m)) ∧
      ∃ br' vb', Duo v w' b nb mb q W bp u vb' vd br' d ∧ (reE br m = 0 ∧ br' = br ++ m ∨ reE br m ≠ 0 ∧ br' = br) ∧ ∀ x, x < w.heap.size → x ≠ q → vd.ownBlock ≠ some x → w'.heap[x]? = w.heap[x]? := by
  refine (rRefill_any M mc m w h.r (h.arr hM) nM l6 h.hb.size).mono ?_
  rintro e w' ⟨rfl, ⟨h1, hb⟩ | ⟨h1, vb', r', hg, hf⟩⟩
  · exact ⟨rfl, _, _, h.below hb, .inr ⟨h1, rfl⟩, fun x hx _ _ => below_at hb x hx⟩
  · exact ⟨rfl, _, vb', h.refR r' hg hf, .inl ⟨h1, rfl⟩, fun x hx hq _ => hg.block x hx (by simpa using hq)⟩
theorem duo_next (h : Duo v w b nb mb q W bp u vb vd br d) (s : Int) :
    Calls Tryz.prog 18 #[.pointer (some ⟨b, 0, none⟩), .int .i64 s] w fun e w' => e = .returned (.tuple #[.int .i64 (nxI W bp u s : Nat), .int .i64 (nxE W bp u s)]) ∧ Duo v w' b nb mb q W bp u vb vd br d ∧ Below w.heap.size w w' := by
  refine (Next_pool b nb mb W bp u s w h.p).mono ?_
  rintro e w' ⟨rfl, hb⟩
  exact ⟨rfl, h.below hb, hb⟩
theorem duo_rnext (h : Duo v w b nb mb q W bp d.reverse vb vd br d) (s : Int) :
    Calls Tryz.prog 50 #[.pointer (some ⟨q, 0, none⟩), .int .i64 s] w fun e w' => e = .returned (.tuple #[.int .i64 (nxI W br d.reverse s : Nat), .int .i64 (nxE W br d.reverse s)]) ∧ Duo v w' b nb mb q W bp d.reverse vb vd br d := by
  refine (rpNext_any s w h.r (fun x hx => ?_)).mono ?_
  · have h1 := h.p.ub x (by simpa using hx)
    have h2 := Nat.div_le_self bp.length (2 * W)
    have := h.p.bl
    omega
  · rintro e w' ⟨rfl, hb⟩
    exact ⟨rfl, h.below hb⟩
/-- The copy of the reference's pool seals. -/
theorem copy_seal {q' : Nat} {vb' vd' : Value} {w0 : World} (h : RpAt w w0.heap.size q' W vb' vd' br d) (hq : w0.heap.size ≤ q') (hb : Below w0.heap.size w0 w) (n : Int) (M : Option Addr) (mc : Nat) (m : List Bool) (hM : Arr 1 encB w w.heap.size M m) (nM : M = none → mc = 0) (lm : m.length ≤ 60000) (hd : d.length ≤ 5000) :
    Calls Tryz.prog 48 #[.pointer (some ⟨q', 0, none⟩), .int .i64 n, .slice M m.length mc] w fun e w' => e = .returned (.tuple #[.int .u64 (plX W br d n m), .int .i64 (plE W br d n m)]) ∧ Below w0.heap.size w0 w' := by
  refine (rSeal_any n M mc m w h hM nM lm hb.size hd).mono ?_
  rintro e w' ⟨rfl, ⟨h1, hb2⟩ | ⟨h1, vd2, w1, r', hg1, hg2, _⟩⟩
  · exact ⟨rfl, below_trans hb hb2⟩
  · have B1 := hb.grown hg1 hb.size (fun g hg => (World.ownsRow.lt h.od g hg).1)
    exact ⟨rfl, B1.grown hg2 B1.size (fun g hg => by cases hg; exact hq)⟩
/-- Both behind a step. -/
theorem duo_both {E : Int} {u' d' : List Nat} {k : Nat} (h1 : E = 0 ∧ u' = k :: d.reverse ∨ E ≠ 0 ∧ u' = d.reverse) (h2 : E = 0 ∧ d' = d ++ [k] ∨ E ≠ 0 ∧ d' = d) : u' = d'.reverse := by
  rcases h1 with ⟨h1, rfl⟩ | ⟨h1, rfl⟩ <;> rcases h2 with ⟨h2, rfl⟩ | ⟨h2, rfl⟩
  · simp
  · exact (h2 h1).elim
  · exact (h1 h2).elim
  · rfl
theorem duo_bits {E : Int} {bits m bp' br' : List Bool} (h1 : E = 0 ∧ bp' = bits ++ m ∨ E ≠ 0 ∧ bp' = bits) (h2 : E = 0 ∧ br' = bits ++ m ∨ E ≠ 0 ∧ br' = bits) : bp' = br' := by
  rcases h1 with ⟨h1, rfl⟩ | ⟨h1, rfl⟩ <;> rcases h2 with ⟨h2, rfl⟩ | ⟨h2, rfl⟩
  · rfl
  · exact (h2 h1).elim
  · exact (h1 h2).elim
  · rfl
end

end Go.Proofs.YtpejoghdmkpfcaaGreatDoor
