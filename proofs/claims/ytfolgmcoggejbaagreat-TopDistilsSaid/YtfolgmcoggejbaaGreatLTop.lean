/- The statement TopDistils: for any job the law returns true and its argument reads as it did. No condition. -/
import Derived.Test.YtfolgmcoggejbaaGreatOpenG
import Derived.Test.YtfolgmcoggejbaaGreatTopY
namespace Go.Proofs.YtfolgmcoggejbaaGreat.topDistils
open Go.ChangeShapes Go.WideShapes Go.ChangeAt Go.RowKit Go.Deep Go.Joins
set_option linter.unusedVariables false
set_option linter.unusedSimpArgs false

theorem encW_len (n : Nat) : (encW n).length = 1 := rfl
theorem arr9 {cs : Array Value} (h : cs.size = 9) : ∃ c0 c1 c2 c3 c4 c5 c6 c7 c8, cs = #[c0, c1, c2, c3, c4, c5, c6, c7, c8] := by
  obtain ⟨l⟩ := cs
  match l, h with
  | [c0, c1, c2, c3, c4, c5, c6, c7, c8], _ => exact ⟨_, _, _, _, _, _, _, _, _, rfl⟩
theorem dec_u16 {H : Type} {en : TypeId × Value → H} {w : World} {base : Nat} {spare : Nat → Bool} {held : Bool} {n : Nat} {cs : List Value} {y : DataW H × List MemPlace} (h : DataW.trod en Tryz.prog w base spare held n 115 cs = some y) : ∃ x : Nat, cs = encW x ∧ x < 65536 := by
  obtain ⟨x, rfl, _, hw⟩ := DataW.trod_int Tryz.underlying115 h
  have hb := bounds_u16 hw
  exact ⟨x.toNat, by unfold encW; rw [show ((x.toNat : Nat) : Int) = x from by omega], by omega⟩

theorem walk (A : Option Addr) (c : Nat) (l : List Bool) (B : Option Addr) (d : Nat) (es : List Nat) (p b s g wd ep sd : Int) (w : World) (hA : Arr 1 encB w w.heap.size A l) (hl : l.length ≤ c) (hc : c ≤ maxLen) (nA : A = none → c = 0) (_ : ∀ y ∈ l, True)
    (hB : Arr 1 encW w w.heap.size B es) (hd : es.length ≤ d) (hdm : d ≤ maxLen) (_ : B = none → d = 0) (he : ∀ y ∈ es, y < 65536) (hp : (Lit.int .u8 p).wf = true) (hb : (Lit.int .u8 b).wf = true) (hs : (Lit.int .u8 s).wf = true) (hg : (Lit.int .u8 g).wf = true) (hwd : (Lit.int .u8 wd).wf = true) (hep : (Lit.int .u8 ep).wf = true) (hsd : (Lit.int .u64 sd).wf = true) :
    Calls Tryz.prog 3 #[.agg #[.slice A l.length c, .slice B es.length d, .int .u8 p, .int .u8 b, .int .u8 s, .int .u8 g, .int .u8 wd, .int .u8 ep, .int .u64 sd]] w fun e w' => e = .returned (.bool true) ∧ Below w.heap.size w w' := by
  have b1 := bounds_u8 hp; have b2 := bounds_u8 hb; have b3 := bounds_u8 hs; have b4 := bounds_u8 hg; have b5 := bounds_u8 hwd; have b6 := bounds_u8 hep; have b7 := bounds_u64 hsd
  obtain ⟨p, rfl⟩ := Int.eq_ofNat_of_zero_le b1.1
  obtain ⟨b, rfl⟩ := Int.eq_ofNat_of_zero_le b2.1
  obtain ⟨s, rfl⟩ := Int.eq_ofNat_of_zero_le b3.1
  obtain ⟨g, rfl⟩ := Int.eq_ofNat_of_zero_le b4.1
  obtain ⟨wd, rfl⟩ := Int.eq_ofNat_of_zero_le b5.1
  obtain ⟨ep, rfl⟩ := Int.eq_ofNat_of_zero_le b6.1
  obtain ⟨sd, rfl⟩ := Int.eq_ofNat_of_zero_le b7.1
  exact top_walk A c l B d es p b s g wd ep sd w hA nA hl hc hB hd hdm he (by omega) (by omega) (by omega) (by omega) (by omega) (by omega) (by omega)

theorem own : ownKnob Tryz.prog.godebug = none := by kernel_rfl
theorem laidOut : laidOutB Tryz.prog = true := by kernel_rfl

set_option maxRecDepth 100000 in
theorem lifted (os : Os) (started : os.Started) (H : Type) (enc : TypeId × Value → H) :
    ReturnsInHanded {} Tryz.checked os 3 .any (Rows.topDistilsSpec.pre6 enc Tryz.prog Tryz.f3 Rows.topDistilsRow.domain false) (Rows.topDistilsSpec.post enc Tryz.prog Tryz.f3 false true false false) := by
  refine returnsInHanded_of_change (C := Tryz.checked) own started (by kernel_rfl) Tryz.func3
    (ChangeSpec.witness6 (enc := enc) (C := Tryz.checked) false ⟨#[], #[.agg #[.slice none 0 0, .slice none 0 0, .int .u8 0, .int .u8 0, .int .u8 0, .int .u8 0, .int .u8 0, .int .u8 0, .int .u64 0]], []⟩ 8 (by kernel_rfl) (by kernel_rfl) (by kernel_rfl) (by kernel_rfl)) ?_
  intro W base args ds gs before hval0 hW hcnd _
  have hval : ∀ (j : Nat) t v, Tryz.f3.params[j]? = some t → args[j]? = some v → Value.okWide Tryz.prog W .any base t v := hval0
  have hW' := hW
  obtain ⟨p, q, hA0, hV, rfl, hfz, hnd⟩ := hW
  have hA : DataW.TrodAll enc Tryz.prog W 0 (fun _ => true) true Tryz.f3.params.toList args.toList ds p := hA0
  rw [Tryz.params3] at hA hval
  obtain ⟨v0, vs0, d0, ds0, p0, q0, hargs, rfl, rfl, h0, r0⟩ := trodAll_cons hA
  obtain ⟨rfl, rfl, rfl⟩ := trodAll_nil r0
  obtain rfl : args = #[v0] := by cases args; simp_all
  obtain ⟨rfl, rfl⟩ := trodVars_none hV
  have lt0 : ∀ x ∈ p0, x.block < W.heap.size := by obtain ⟨m, hm⟩ := h0; exact DataW.trod_lt m _ _ _ hm
  have k0 := h0
  obtain ⟨cs0, rfl, hsz0⟩ := okWide_struct Tryz.underlying26 (hval 0 26 v0 rfl rfl)
  obtain ⟨c0_0, c0_1, c0_2, c0_3, c0_4, c0_5, c0_6, c0_7, c0_8, rfl⟩ := arr9 (hsz0.trans (show Tryz.prog.cellsOf 26 = 9 from by kernel_rfl))
  obtain ⟨fuel0, hf0⟩ := h0
  obtain ⟨_, n0', hd0⟩ := trod_fields Tryz.underlying26 (by kernel_rfl) (by kernel_rfl) hf0
  obtain ⟨_, hy0_0⟩ := hd0 0 _ c0_0 rfl rfl
  obtain ⟨A0_0, n0_0, l0_0, hcs0_0, hl0_0, hm0_0, hz0_0, ha0_0, ho0_0⟩ := open_arr (enc := encB) _ encB_len (by decide) Tryz.underlying22 (by kernel_rfl) (fun n cs y h => dec_bool h) hy0_0
  obtain rfl : c0_0 = .slice A0_0 l0_0.length n0_0 := by simpa using hcs0_0
  obtain ⟨_, hy0_1⟩ := hd0 1 _ c0_1 rfl rfl
  obtain ⟨A0_1, n0_1, l0_1, hcs0_1, hl0_1, hm0_1, hz0_1, ha0_1, ho0_1⟩ := open_arr (enc := encW) _ encW_len (by decide) Tryz.underlying23 (by kernel_rfl) (fun n cs y h => dec_u16 h) hy0_1
  obtain rfl : c0_1 = .slice A0_1 l0_1.length n0_1 := by simpa using hcs0_1
  obtain ⟨_, hy0_2⟩ := hd0 2 _ c0_2 rfl rfl
  obtain ⟨x0_2, e0_2, _, w0_2⟩ := DataW.trod_int Tryz.underlying5 hy0_2
  obtain rfl : c0_2 = .int .u8 x0_2 := by simpa using e0_2
  obtain ⟨_, hy0_3⟩ := hd0 3 _ c0_3 rfl rfl
  obtain ⟨x0_3, e0_3, _, w0_3⟩ := DataW.trod_int Tryz.underlying5 hy0_3
  obtain rfl : c0_3 = .int .u8 x0_3 := by simpa using e0_3
  obtain ⟨_, hy0_4⟩ := hd0 4 _ c0_4 rfl rfl
  obtain ⟨x0_4, e0_4, _, w0_4⟩ := DataW.trod_int Tryz.underlying5 hy0_4
  obtain rfl : c0_4 = .int .u8 x0_4 := by simpa using e0_4
  obtain ⟨_, hy0_5⟩ := hd0 5 _ c0_5 rfl rfl
  obtain ⟨x0_5, e0_5, _, w0_5⟩ := DataW.trod_int Tryz.underlying5 hy0_5
  obtain rfl : c0_5 = .int .u8 x0_5 := by simpa using e0_5
  obtain ⟨_, hy0_6⟩ := hd0 6 _ c0_6 rfl rfl
  obtain ⟨x0_6, e0_6, _, w0_6⟩ := DataW.trod_int Tryz.underlying5 hy0_6
  obtain rfl : c0_6 = .int .u8 x0_6 := by simpa using e0_6
  obtain ⟨_, hy0_7⟩ := hd0 7 _ c0_7 rfl rfl
  obtain ⟨x0_7, e0_7, _, w0_7⟩ := DataW.trod_int Tryz.underlying5 hy0_7
  obtain rfl : c0_7 = .int .u8 x0_7 := by simpa using e0_7
  obtain ⟨_, hy0_8⟩ := hd0 8 _ c0_8 rfl rfl
  obtain ⟨x0_8, e0_8, _, w0_8⟩ := DataW.trod_int Tryz.underlying24 hy0_8
  obtain rfl : c0_8 = .int .u64 x0_8 := by simpa using e0_8
  clear hA0 hval0
  refine (walk A0_0 n0_0 l0_0 A0_1 n0_1 l0_1 x0_2 x0_3 x0_4 x0_5 x0_6 x0_7 x0_8 W ha0_0 hl0_0 hm0_0 hz0_0 ho0_0 ha0_1 hl0_1 hm0_1 hz0_1 ho0_1 w0_2 w0_3 w0_4 w0_5 w0_6 w0_7 w0_8).mono fun e W' ⟨he, bel⟩ => ?_
  subst he
  exact ⟨_, rfl, _, _, _, [], _, [], hW', trodAll_mk1 (shut_bool Tryz.underlying4 _), (trodAll_cons_mk (Below.trod laidOut (by kernel_rfl) (of_decide_eq_true (by kernel_rfl)) k0 bel lt0) trodAll_mk0), rfl, bel.frame _, fun h => by cases h⟩

theorem over : Rows.topDistilsRow.holds Tryz.pinned (OpenSpec.ofChange Rows.topDistilsSpec) :=
  OpenClaim.holds_of_wide 3 Tryz.f3 rfl rfl rfl rfl rfl rfl rfl ⟨rfl, rfl, rfl, rfl, rfl⟩ rfl rfl rfl rfl rfl (by kernel_rfl) Tryz.func3 (by kernel_rfl)
    (of_decide_eq_true (by kernel_rfl)) (by unfold Func.isWrapper; first | (rw [if_pos (by decide +kernel)]; kernel_rfl) | (rw [if_neg (by decide +kernel)]; exact ⟨rfl, rfl⟩))
    (fun os started H enc _ => lifted os started H enc)

theorem proved : Rows.TopDistilsSaid := over
#print axioms proved
end Go.Proofs.YtfolgmcoggejbaaGreat.topDistils
