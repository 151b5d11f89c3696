/- The statement DistilNil: for any number and any bits the law returns true and its arguments read as they did. No condition but what the card ties: the listed tables are as the program's text lays them. -/
import Derived.Test.YtoccbcjkjcgdlaaDoorDoorD
import Derived.Test.YtoccbcjkjcgdlaaDoorKnownD
import Derived.Test.YtoccbcjkjcgdlaaDoorPolN
import Derived.Test.YtoccbcjkjcgdlaaDoorTie
import Derived.Test.YtoccbcjkjcgdlaaDoorCards
import Derived.SevenTiedAt
namespace Go.Proofs.YtoccbcjkjcgdlaaDoor.distilNil
open Go.ChangeShapes Go.WideShapes Go.ChangeAt Go.RowKit Go.Deep Go.Joins
set_option linter.unusedVariables false
set_option linter.unusedSimpArgs false

set_option maxRecDepth 100000 in
set_option maxHeartbeats 4000000 in
theorem main (n : Int) (A : Option Addr) (l c : Nat) (v : World) (ht : Tab v) :
    Calls Tryd.prog 7 #[.int .i64 n, .slice A l c] v fun e w' => e = .returned (.bool true) ∧ Below v.heap.size v w' := by
  have htl := ht.lt
  have cK := fun w' (hb : Below v.heap.size v w') => known_any w' (ht.on hb htl)
  go_enter Tryd.func7, Tryd.ntmps7
  go_wp2_with fail
  go_loopw [7] (fun i wr => ∃ k : Nat, k ≤ 2 ∧ i = .int .i64 k ∧ wr.cell? ⟨v.heap.size + 1, 0, none⟩ = some (.pointer none) ∧ wr.cell? ⟨v.heap.size + 1, 1, none⟩ = some (.pointer (some ⟨v.heap.size, 0, none⟩)) ∧ wr.cell? ⟨v.heap.size, 0, none⟩ = some (.pointer none) ∧ Below v.heap.size v wr) (fun i _ => 2 - (intOf i).toNat)
  case atStart => exact ⟨0, by decide, rfl, by simp, by simp, bel_cell (below_alloc (Below.refl _ _) _) (new_cell rfl), below_alloc (below_alloc (Below.refl _ _) _) _⟩
  case round =>
    obtain ⟨k, hk, rfl, x0, x1, y0, hb⟩ := hrel
    by_cases h2 : k < 2
    · have d1 : decide ((k : Int) < 2) = true := by simp; omega
      obtain ⟨p, hp, np⟩ : ∃ p, wr.cell? ⟨v.heap.size + 1, k, none⟩ = some p ∧ NoPool wr p := by
        rcases Nat.lt_or_ge k 1 with h | h
        · obtain rfl : k = 0 := by omega
          exact ⟨_, x0, .inl rfl⟩
        · obtain rfl : k = 1 := by omega
          exact ⟨_, x1, .inr ⟨_, rfl, y0⟩⟩
      have cS := noSeal_any n A l c wr np
      have cO := fun w' (h : NoPool w' p) => noOpen_any n A l c 0 w' h
      have cN := fun w' (h : NoPool w' p) => noNext_any n w' h
      have cR := fun w' (h : NoPool w' p) => noRefill_any (m := .slice A l c) w' h
      have cM := fun w' (h : NoPool w' p) => noRoom_any w' h
      have cU := fun w' (h : NoPool w' p) => noUsed_any w' h
      have cC := fun w' (h : NoPool w' p) => noCopy_any w' h
      go_wp2_with (first
        | (go_at_call 13; refine cS.mono ?_; rintro e w1 ⟨rfl, hb1⟩; have np1 := np.on hb1; have hp1 := bel_cell hb1 hp)
        | (go_at_call 14; refine (cO _ np1).mono ?_; rintro e w2 ⟨rfl, hb2⟩; have np2 := np1.on hb2; have hp2 := bel_cell hb2 hp1)
        | (go_at_call 12; refine (cN _ np2).mono ?_; rintro e w' ⟨rfl, rfl⟩)
        | (go_at_call 25; refine (cR _ np2).mono ?_; rintro e w' ⟨rfl, rfl⟩)
        | (go_at_call 26; refine (cM _ np2).mono ?_; rintro e w' ⟨rfl, rfl⟩)
        | (go_at_call 27; refine (cU _ np2).mono ?_; rintro e w' ⟨rfl, rfl⟩)
        | (go_at_call 28; refine (cC _ np2).mono ?_; rintro e w' ⟨rfl, rfl⟩))
      have q2 := below_trans hb1 hb2
      exact ⟨⟨k + 1, by omega, by go_num, bel_cell q2 x0, bel_cell q2 x1, bel_cell q2 y0, below_trans hb q2⟩, by simp [intOf]; omega⟩
    · have d1 : decide ((k : Int) < 2) = false := by simp; omega
      go_wp2_with (go_at_call 10; refine (cK _ hb).mono ?_; rintro e w5 ⟨rfl, hb5⟩)
      go_ret
      exact ⟨rfl, below_trans hb hb5⟩

theorem walk (n : Int) (A : Option Addr) (c : Nat) (l : List Bool) (w : World) (ht : Tab w) (_ : (Lit.int .i64 n).wf = true) (h : Arr 1 encB w w.heap.size A l) (hl : l.length ≤ c) (hc : c ≤ maxLen) (_ : A = none → c = 0) (_ : ∀ x ∈ l, True) :
    Calls Tryd.prog 7 #[.int .i64 n, .slice A l.length c] w fun e w' => e = .returned (.bool true) ∧ Below w.heap.size w w' :=
  main n A l.length c w ht

set_option maxRecDepth 100000 in
theorem lifted (os : Os) (started : os.Started) (H : Type) (enc : TypeId × Value → H) :
    ReturnsInHanded {} Tryd.checked os 7 .any (fun w args => (Rows.distilNilSpec.pre enc Tryd.prog Tryd.f7 [] false w args ∧ laidMetH Tryd.prog laid3 w) ∧ sizedMet enc Tryd.prog Tryd.f7 (OpenSpec.ofChange Rows.distilNilSpec) false w args) (Rows.distilNilSpec.post enc Tryd.prog Tryd.f7 false true false false) := by
  refine returnsInHanded_of_change_and (C := Tryd.checked) (X := fun w _ => laidMetH Tryd.prog laid3 w) (fun _ _ _ hh h => h.of_heap hh) own started (by kernel_rfl) Tryd.func7
    (ChangeSpec.witness_shaped (enc := enc) (C := Tryd.checked) (os := os) (X := fun w _ => laidMetH Tryd.prog laid3 w) false (World.doorLaid Tryd.prog 400 os) #[.int .i64 0, .slice none 0 0] 8 rfl (World.shaped_of_RefB (by kernel_rfl) (by kernel_rfl)) (by kernel_rfl) (by kernel_rfl) (by kernel_rfl) (door3 os _)) ?_
  intro W base args ds gs before hval0 hW _ hsz hL _
  have hval : ∀ (j : Nat) t v, Tryd.f7.params[j]? = some t → args[j]? = some v → Value.okWide Tryd.prog W .any base t v := hval0
  have hW' := hW
  obtain ⟨p, q, hA0, hV, rfl, hfz, hnd⟩ := hW
  have hA : DataW.TrodAll enc Tryd.prog W 0 (fun _ => true) true Tryd.f7.params.toList args.toList ds p := hA0
  rw [Tryd.params7] at hA hval
  obtain ⟨v0, vs0, d0, ds0, p0, q0, hargs, rfl, rfl, h0, r0⟩ := trodAll_cons hA
  obtain ⟨v1, vs1, d1, ds1, p1, q1, rfl, rfl, rfl, h1, r1⟩ := trodAll_cons r0
  obtain ⟨rfl, rfl, rfl⟩ := trodAll_nil r1
  obtain rfl : args = #[v0, v1] := by cases args; simp_all
  obtain ⟨rfl, rfl⟩ := trodVars_none hV
  have lt0 : ∀ x ∈ p0, x.block < W.heap.size := by obtain ⟨m, hm⟩ := h0; exact DataW.trod_lt m _ _ _ hm
  have k0 := h0
  obtain ⟨x0, rfl, rfl, rfl, w0⟩ := open_int Tryd.underlying3 (hval 0 3 v0 rfl rfl) h0
  have lt1 : ∀ x ∈ p1, x.block < W.heap.size := by obtain ⟨m, hm⟩ := h1; exact DataW.trod_lt m _ _ _ hm
  have k1 := h1
  obtain ⟨A1, len1, n1, rfl⟩ := okWide_slice Tryd.underlying24 (hval 1 24 v1 rfl rfl)
  obtain ⟨fuel1, hf1⟩ := h1
  obtain ⟨A1', n1', l1, hcs1, hl1, hm1, hz1, ha1, ho1⟩ := open_arr (enc := encB) _ encB_len (by decide) Tryd.underlying24 (by kernel_rfl) (fun n cs y h => dec_bool h) hf1
  simp [Value.cells] at hcs1
  obtain ⟨rfl, rfl, rfl⟩ := hcs1
  clear hA0 hval0
  have ht := tab3 hL
  refine (walk x0 A1 n1 l1 W ht w0 ha1 hl1 hm1 hz1 ho1).mono fun e W' ⟨he, bel⟩ => ?_
  subst he
  exact ⟨_, rfl, _, _, _, [], _, [], hW', trodAll_mk1 (shut_bool Tryd.underlying4 _), (trodAll_cons_mk (Below.trod laidOut (by kernel_rfl) (of_decide_eq_true (by kernel_rfl)) k0 bel lt0) (trodAll_cons_mk (Below.trod laidOut (by kernel_rfl) (of_decide_eq_true (by kernel_rfl)) k1 bel lt1) trodAll_mk0)), rfl, bel.frame _, fun h => by cases h⟩

theorem over : Rows.distilNilRow.holds Tryd.pinned (OpenSpec.ofChange Rows.distilNilSpec) :=
  OpenClaim.holds_of_wide 7 Tryd.f7 rfl rfl rfl rfl rfl rfl rfl ⟨rfl, rfl, rfl, rfl, rfl⟩ rfl rfl rfl rfl rfl (by kernel_rfl) Tryd.func7 (by kernel_rfl)
    (of_decide_eq_true (by kernel_rfl)) (by unfold Func.isWrapper; first | (rw [if_pos (by decide +kernel)]; kernel_rfl) | (rw [if_neg (by decide +kernel)]; exact ⟨rfl, rfl⟩))
    (fun os started H enc _ => lifted os started H enc)

theorem proved : Rows.DistilNilCardSaid :=
  Claim7.holds_tied_plain_at .later [] [.data, .data, .data] true _ true over (fun _ h => by cases h) (by kernel_rfl) (fun _ h => by cases h) distilNil_row_tie rfl ⟨rfl, rfl⟩ (by kernel_rfl) rfl
    (fun f fn hf hfn => by
      obtain rfl : f = 7 := Option.some.inj ((show Tryd.prog.funcNamed "waveplate/waveplatelaw06.DistilNil" = some 7 by kernel_rfl).symm.trans hf) |>.symm
      obtain rfl : fn = Tryd.f7 := (Option.some.inj (Tryd.func7.symm.trans hfn)).symm
      exact ⟨by kernel_rfl, fun j t ht => by
        rw [Tryd.params7] at ht
        have hm : t ∈ [3, 24] := by simpa using Array.mem_of_getElem? ht
        have hall : ([3, 24].all fun u => !Tryd.prog.wantsStandIn u) = true := by kernel_rfl
        exact (show Tryd.prog.wantsStandIn t = false by simpa using List.all_eq_true.1 hall t hm)⟩)
    (by kernel_rfl)
#print axioms proved
end Go.Proofs.YtoccbcjkjcgdlaaDoor.distilNil
