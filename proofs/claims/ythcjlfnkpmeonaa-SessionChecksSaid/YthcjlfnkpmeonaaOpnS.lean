/- How a setup and a letter come in. No condition. -/
import Derived.Test.YthcjlfnkpmeonaaOpnF
import Derived.Test.YthcjlfnkpmeonaaStpA
import Derived.Test.YthcjlfnkpmeonaaSesC
namespace Go.Proofs.Ythcjlfnkpmeonaa
open Go.ChangeShapes Go.WideShapes Go.ChangeAt Go.RowKit Go.Deep Go.Joins
set_option linter.unusedVariables false
set_option linter.unusedSimpArgs false

theorem dec_u32s {H : Type} {en : TypeId × Value → H} {w : World} {base : Nat} {spare : Nat → Bool} {held : Bool} {n : Nat} {cs : List Value} {y : DataW H × List MemPlace} (h : DataW.trod en Try.prog w base spare held n 108 cs = some y) : ∃ x : Nat, cs = enc32 x ∧ x < 4294967296 := by
  obtain ⟨x, rfl, _, hw⟩ := DataW.trod_int Try.underlying108 h
  have hb := bounds_u32 hw
  exact ⟨x.toNat, by unfold enc32; rw [show ((x.toNat : Nat) : Int) = x from by omega], by omega⟩
theorem dec_ints {H : Type} {en : TypeId × Value → H} {w : World} {base : Nat} {spare : Nat → Bool} {held : Bool} {n : Nat} {cs : List Value} {y : DataW H × List MemPlace} (h : DataW.trod en Try.prog w base spare held n 3 cs = some y) : ∃ x : Int, cs = encI x ∧ True := by
  obtain ⟨x, rfl, _, _⟩ := DataW.trod_int Try.underlying3 h
  exact ⟨x, rfl, trivial⟩
theorem arr34 {cs : Array Value} (h : cs.size = 34) : ∃ c0 c1 c2 c3 c4 c5 c6 c7 c8 c9 c10 c11 c12 c13 c14 c15 c16 c17 c18 c19 c20 c21 c22 c23 c24 c25 c26 c27 c28 c29 c30 c31 c32 c33, cs = #[c0, c1, c2, c3, c4, c5, c6, c7, c8, c9, c10, c11, c12, c13, c14, c15, c16, c17, c18, c19, c20, c21, c22, c23, c24, c25, c26, c27, c28, c29, c30, c31, c32, c33] := by
  obtain ⟨l⟩ := cs
  match l, h with
  | c0 :: c1 :: c2 :: c3 :: c4 :: c5 :: c6 :: c7 :: c8 :: c9 :: c10 :: c11 :: c12 :: c13 :: c14 :: c15 :: c16 :: c17 :: c18 :: c19 :: c20 :: c21 :: c22 :: c23 :: c24 :: c25 :: c26 :: c27 :: c28 :: c29 :: c30 :: c31 :: c32 :: c33 :: [], _ => exact ⟨_, _, _, _, _, _, _, _, _, _, _, _, _, _, _, _, _, _, _, _, _, _, _, _, _, _, _, _, _, _, _, _, _, _, rfl⟩
theorem arr5s {cs : Array Value} (h : cs.size = 5) : ∃ c0 c1 c2 c3 c4, cs = #[c0, c1, c2, c3, c4] := by
  obtain ⟨l⟩ := cs
  match l, h with
  | [c0, c1, c2, c3, c4], _ => exact ⟨_, _, _, _, _, rfl⟩
section
variable {H : Type} {en : TypeId × Value → H} {w : World} {base : Nat} {sp : Nat → Bool} {held : Bool}
theorem one_nat {fuel : Nat} {c : Value} {y : DataW H × List MemPlace} (h : DataW.trod en Try.prog w base sp held fuel 28 [c] = some y) : ∃ A k l, c = .slice A l.length k ∧ Nt w A k l := by
  obtain ⟨A, k, l, hcs, hl, hm, hz, ha, ho⟩ := open_arr (enc := enc32) _ enc32_len (by decide) Try.underlying28 (by kernel_rfl) (fun n cs y h => dec_u32s h) h
  exact ⟨A, k, l, by simpa using hcs, ⟨ha, hl, hm, fun x hx => ho x hx, hz⟩⟩
theorem two_nats {fuel : Nat} {c0 c1 : Value} {y : DataW H × List MemPlace} (h : DataW.trod en Try.prog w base sp held fuel 30 [c0, c1] = some y) : ∃ f : Frc, c0 = .slice f.A f.l.length f.c ∧ c1 = .slice f.C f.m.length f.d ∧ f.In w := by
  obtain ⟨xs, n, _, _, _, hl, hd⟩ := DataW.trod_struct Try.underlying30 h
  obtain ⟨_, z0⟩ := field_of hd hl 0 28 0 1 (by kernel_rfl) (by kernel_rfl)
  obtain ⟨_, z1⟩ := field_of hd hl 1 28 1 1 (by kernel_rfl) (by kernel_rfl)
  obtain ⟨A, k, l, e0, n0⟩ := one_nat z0
  obtain ⟨C, d, m, e1, n1⟩ := one_nat z1
  exact ⟨⟨A, k, l, C, d, m⟩, e0, e1, ⟨n0, n1⟩⟩
theorem three_casc {fuel : Nat} {c0 c1 c2 : Value} {y : DataW H × List MemPlace} (h : DataW.trod en Try.prog w base sp held fuel 33 [c0, c1, c2] = some y) : ∃ (a b : Int) (s : Nat), c0 = .int .i64 a ∧ c1 = .int .i64 b ∧ c2 = .int .u64 (s : Int) := by
  obtain ⟨xs, n, _, _, _, hl, hd⟩ := DataW.trod_struct Try.underlying33 h
  obtain ⟨_, z0⟩ := field_of hd hl 0 3 0 1 (by kernel_rfl) (by kernel_rfl)
  obtain ⟨_, z1⟩ := field_of hd hl 1 3 1 1 (by kernel_rfl) (by kernel_rfl)
  obtain ⟨_, z2⟩ := field_of hd hl 2 31 2 1 (by kernel_rfl) (by kernel_rfl)
  obtain ⟨a, e0⟩ := one_int z0
  obtain ⟨b, e1⟩ := one_int z1
  obtain ⟨s, e2⟩ := one_u64 z2
  exact ⟨a, b, s, e0, e1, e2⟩
set_option maxRecDepth 100000 in
theorem open_stp {W : World} {base2 : Nat} {v : Value} {d : DataW H} {p : List MemPlace} (hv : Value.okWide Try.prog W .any base2 35 v) (h : DataW.Trod en Try.prog w base sp held 35 v d p) : ∃ s : Stp, v = s.val ∧ s.In w := by
  obtain ⟨cs, rfl, hsz⟩ := okWide_struct Try.underlying35 hv
  obtain ⟨c0, c1, c2, c3, c4, c5, c6, c7, c8, c9, c10, c11, c12, c13, c14, c15, c16, c17, c18, c19, c20, c21, c22, c23, c24, c25, c26, c27, c28, c29, c30, c31, c32, c33, rfl⟩ := arr34 (hsz.trans (show Try.prog.cellsOf 35 = 34 from by kernel_rfl))
  obtain ⟨fuel, hf⟩ := h
  obtain ⟨xs, n, _, _, _, hl, hd⟩ := DataW.trod_struct Try.underlying35 hf
  obtain ⟨_, z0⟩ := field_of hd hl 0 26 0 18 (by kernel_rfl) (by kernel_rfl)
  obtain ⟨_, z1⟩ := field_of hd hl 1 3 18 1 (by kernel_rfl) (by kernel_rfl)
  obtain ⟨_, z2⟩ := field_of hd hl 2 3 19 1 (by kernel_rfl) (by kernel_rfl)
  obtain ⟨_, z3⟩ := field_of hd hl 3 3 20 1 (by kernel_rfl) (by kernel_rfl)
  obtain ⟨_, z4⟩ := field_of hd hl 4 3 21 1 (by kernel_rfl) (by kernel_rfl)
  obtain ⟨_, z5⟩ := field_of hd hl 5 3 22 1 (by kernel_rfl) (by kernel_rfl)
  obtain ⟨_, z6⟩ := field_of hd hl 6 30 23 2 (by kernel_rfl) (by kernel_rfl)
  obtain ⟨_, z7⟩ := field_of hd hl 7 30 25 2 (by kernel_rfl) (by kernel_rfl)
  obtain ⟨_, z8⟩ := field_of hd hl 8 33 27 3 (by kernel_rfl) (by kernel_rfl)
  obtain ⟨_, z9⟩ := field_of hd hl 9 3 30 1 (by kernel_rfl) (by kernel_rfl)
  obtain ⟨_, z10⟩ := field_of hd hl 10 3 31 1 (by kernel_rfl) (by kernel_rfl)
  obtain ⟨_, z11⟩ := field_of hd hl 11 3 32 1 (by kernel_rfl) (by kernel_rfl)
  obtain ⟨_, z12⟩ := field_of hd hl 12 31 33 1 (by kernel_rfl) (by kernel_rfl)
  obtain ⟨o, rfl, rfl, rfl, rfl, rfl, rfl, rfl, rfl, rfl, rfl, rfl, rfl, rfl, rfl, rfl, rfl, rfl, rfl⟩ := opt_cells z0
  obtain ⟨x1, rfl⟩ := one_int z1
  obtain ⟨x2, rfl⟩ := one_int z2
  obtain ⟨x3, rfl⟩ := one_int z3
  obtain ⟨x4, rfl⟩ := one_int z4
  obtain ⟨x5, rfl⟩ := one_int z5
  obtain ⟨f, rfl, rfl, hf1⟩ := two_nats z6
  obtain ⟨g, rfl, rfl, hg1⟩ := two_nats z7
  obtain ⟨a, b, t, rfl, rfl, rfl⟩ := three_casc z8
  obtain ⟨x9, rfl⟩ := one_int z9
  obtain ⟨x10, rfl⟩ := one_int z10
  obtain ⟨x11, rfl⟩ := one_int z11
  obtain ⟨x12, rfl⟩ := one_u64 z12
  exact ⟨⟨o, x1, x2, x3, x4, x5, f, g, a, b, t, x9, x10, x11, x12⟩, rfl, ⟨hf1, hg1⟩⟩
set_option maxRecDepth 100000 in
theorem open_ltr {W : World} {base2 : Nat} {v : Value} {d : DataW H} {p : List MemPlace} (hv : Value.okWide Try.prog W .any base2 38 v) (h : DataW.Trod en Try.prog w base sp held 38 v d p) : ∃ l : Ltr, v = l.val ∧ l.In w := by
  obtain ⟨cs, rfl, hsz⟩ := okWide_struct Try.underlying38 hv
  obtain ⟨c0, c1, c2, c3, c4, rfl⟩ := arr5s (hsz.trans (show Try.prog.cellsOf 38 = 5 from by kernel_rfl))
  obtain ⟨fuel, hf⟩ := h
  obtain ⟨xs, n, _, _, _, hl, hd⟩ := DataW.trod_struct Try.underlying38 hf
  obtain ⟨_, z0⟩ := field_of hd hl 0 3 0 1 (by kernel_rfl) (by kernel_rfl)
  obtain ⟨_, z1⟩ := field_of hd hl 1 3 1 1 (by kernel_rfl) (by kernel_rfl)
  obtain ⟨_, z2⟩ := field_of hd hl 2 3 2 1 (by kernel_rfl) (by kernel_rfl)
  obtain ⟨_, z3⟩ := field_of hd hl 3 36 3 1 (by kernel_rfl) (by kernel_rfl)
  obtain ⟨_, z4⟩ := field_of hd hl 4 31 4 1 (by kernel_rfl) (by kernel_rfl)
  obtain ⟨x0, rfl⟩ := one_int z0
  obtain ⟨x1, rfl⟩ := one_int z1
  obtain ⟨x2, rfl⟩ := one_int z2
  obtain ⟨A, k, l, hcs, hl2, hm, hz, ha, _⟩ := open_arr (enc := encI) _ encI_len (by decide) Try.underlying36 (by kernel_rfl) (fun n cs y h => dec_ints h) z3
  have hcs' : [c3] = [Value.slice A l.length k] := hcs
  obtain rfl : c3 = .slice A l.length k := by simpa using hcs'
  obtain ⟨x4, rfl⟩ := one_u64 z4
  exact ⟨⟨x0, x1, x2, A, k, l, x4⟩, rfl, ⟨ha, hl2, hm, hz⟩⟩
end

end Go.Proofs.Ythcjlfnkpmeonaa
