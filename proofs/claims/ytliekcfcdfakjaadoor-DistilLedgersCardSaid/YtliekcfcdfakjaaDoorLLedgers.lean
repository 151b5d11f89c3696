/- The statement DistilLedgers: for any ledger and any two numbers the law returns true and its arguments read as they did. No condition but what the card ties: the listed tables are as the program's text lays them. -/
import Derived.Test.YtliekcfcdfakjaaDoorDoorD
import Derived.Test.YtliekcfcdfakjaaDoorKnownD
import Derived.Test.YtliekcfcdfakjaaDoorTxtR
import Derived.Test.YtliekcfcdfakjaaDoorTie
import Derived.Test.YtliekcfcdfakjaaDoorCards
import Derived.SevenTiedAt
namespace Go.Proofs.YtliekcfcdfakjaaDoor.distilLedgers
open Go.ChangeShapes Go.WideShapes Go.ChangeAt Go.RowKit Go.Deep Go.Joins
set_option linter.unusedVariables false
set_option linter.unusedSimpArgs false

set_option maxHeartbeats 1000000 in
theorem sameItems_same (A B : Option Addr) (n m : Nat) (l : List Itm) (w : World) (hA : Arr 2 Itm.enc w w.heap.size A l) (hB : Arr 2 Itm.enc w w.heap.size B l) (hl : l.length ≤ 4611686018427387904) :
    Calls Tryd.prog 23 #[.slice A l.length n, .slice B l.length m] w fun e w' => e = .returned (.bool true) ∧ Below w.heap.size w w' := by
  go_enter Tryd.func23, Tryd.ntmps23
  go_wp2
  go_loopw [5] (fun i wr => ∃ k : Nat, k ≤ l.length ∧ i = .int .i64 k ∧ Below w.heap.size w wr) (fun i _ => l.length - (intOf i).toNat)
  case atStart => exact ⟨0, Nat.zero_le _, rfl, Below.refl _ _⟩
  case round =>
    obtain ⟨k, hk, rfl, hb⟩ := hrel
    by_cases hlt : k < l.length
    · obtain ⟨b, off, qs, qb, rfl, hbb, hq, c0, c1⟩ := hA.itm hlt hb
      obtain ⟨b', off', qs', qb', rfl, hbb', hq', c0', c1'⟩ := hB.itm hlt hb
      obtain ⟨rfl, rfl⟩ : qs = qs' ∧ qb = qb' := by have := hq.out.symm.trans hq'.out; simpa using this
      have d0 := later_cell c0; have d1 := later_cell c1; have d0' := later_cell c0'; have d1' := later_cell c1'
      go_wp2
      refine wp_region_later (by kernel_rfl) (by kernel_rfl) ?_
      repeat (go_big_quiet_step (fail))
      refine wpQuiet_nil ?_
      rintro w1 ⟨⟨_, hb1⟩, rfl⟩
      go_wp2
      go_roundw
      case rel => exact ⟨k + 1, by omega, by go_num, below_trans hb hb1⟩
      case measure => simp [intOf]; omega
    · go_wp2
      go_ret
      exact ⟨rfl, hb⟩

set_option maxRecDepth 100000 in
set_option maxHeartbeats 4000000 in
theorem main (A : Option Addr) (c : Nat) (l : List Itm) (k b : Int) (w : World) (ht : Tab w) (h : Arr 2 Itm.enc w w.heap.size A l) (hnil : A = none → c = 0) :
    Calls Tryd.prog 4 #[.slice A l.length c, .int .i64 k, .int .i64 b] w fun e w' => e = .returned (.bool true) ∧ Below w.heap.size w w' := by
  have htl := ht.lt
  by_cases hl : 1100 < l.length
  · have d1 : decide (1100 < (l.length : Int)) = true := by simp; omega
    go_enter Tryd.func4, Tryd.ntmps4
    go_wp2_with (go_at_call 14; refine (known_any w ht).mono ?_; rintro e w5 ⟨rfl, hb5⟩)
    go_ret
    exact ⟨rfl, hb5⟩
  have d1 : decide (1100 < (l.length : Int)) = false := by simp; omega
  have hl2 : l.length ≤ 1100 := by omega
  obtain ⟨i0, hi, hz0, hz1, hz2⟩ := iparts item_info
  have Hi := Lib.hid hi; have Hz0 := Lib.hid hz0; have Hz1 := Lib.hid hz1; have Hz2 := Lib.hid hz2
  clear hi hz0 hz1 hz2
  obtain ⟨E, hE⟩ : ∃ E, (ent l k b).e = E := ⟨_, rfl⟩
  obtain ⟨LL, hLL⟩ : ∃ L, (ent l k b).l = L := ⟨_, rfl⟩
  obtain ⟨T, hT⟩ : ∃ T, totE l = T := ⟨_, rfl⟩
  obtain ⟨G, hG⟩ : ∃ G, ledE l = G := ⟨_, rfl⟩
  obtain ⟨O, hO⟩ : ∃ O, ofI l k = O := ⟨_, rfl⟩
  obtain ⟨P, hP⟩ : ∃ P, ofE l k = P := ⟨_, rfl⟩
  obtain ⟨X, hX⟩ : ∃ X, (if ledE l = 0 then textL l else []) = X := ⟨_, rfl⟩
  have hLn : LL.length ≤ 1101 := by
    rw [← hLL]; unfold ent
    split
    · simp [Ent.l]
    · split
      · simp [Ent.l]
      · split
        · simp [Ent.l]
        · split
          · simp [Ent.l]
          · split
            · split
              · simp [Ent.l]
              · simp [Ent.l]; omega
            · split
              · simp [Ent.l]
              · simp [Ent.l]; omega
  have cE := fun A' c' w' (hA : Arr 2 Itm.enc w' w'.heap.size A' l) (hn : A' = none → c' = 0) => Enter_any A' c' l k b w' hA (by omega) hn
  have cE2 := fun w' (hb : Below w.heap.size w w') => rEnter_any A c l k b w' (h.on hb) (by omega) hnil
  have cT := fun A' c' w' (hA : Arr 2 Itm.enc w' w'.heap.size A' l) => Total_any A' c' l w' hA (by omega)
  have cT2 := fun w' (hb : Below w.heap.size w w') => rTotal_any A c l w' (h.on hb) (by omega)
  have cC := fun A' c' w' (hA : Arr 2 Itm.enc w' w'.heap.size A' l) => dCheck_any A' c' l w' hA (by omega)
  have cC2 := fun w' (hb : Below w.heap.size w w') => rLed_any A c l w' (h.on hb) (by omega)
  have cO := fun A' c' w' (hA : Arr 2 Itm.enc w' w'.heap.size A' l) => dOf_any A' c' l k w' hA (by omega)
  have cO2 := fun w' (hb : Below w.heap.size w w') => rOf6_any A c l k w' (h.on hb) (by omega)
  have cX := fun A' c' w' (hA : Arr 2 Itm.enc w' w'.heap.size A' l) (hh : Tab w') => Text_any A' c' l w' hA (by omega) hh
  have cX2 := fun w' (hb : Below w.heap.size w w') => rText_any A c l w' (h.on hb) (by omega)
  simp only [hX] at cX cX2
  simp only [hE, hLL] at cE cE2
  simp only [hT, hG] at cT cT2
  simp only [hG] at cC cC2 cX cX2
  simp only [hO, hP] at cO cO2
  clear hE hLL hT hG hO hP hX
  go_enter Tryd.func4, Tryd.ntmps4
  go_wp2_with (at_builtin; refine wpList_app rfl _ _ 22 rfl w.heap.size 39 i0 _ 2 16 Tryd.underlying22 Hi.out Hz0.out Hz1.out Hz2.out rfl (by decide) Itm.enc_len Itm.one _ ([] : List Itm) l _ c w.heap.size rfl (own_empty w _ _ (Nat.le_refl _)) rfl (h.keep (below_alloc (Below.refl _ _) _)) hnil (by simp; omega) (by decide) (by simp) ?_; intro v1 w1 own1 hb1; rw [List.nil_append] at own1)
  have q1 : Below w.heap.size w w1 := (below_alloc (Below.refl w.heap.size w) _).trans hb1
  obtain ⟨A1, c1, hv1, _, _, hn1, ar1⟩ := own1.form Itm.enc_len
  subst hv1
  clear own1
  refine (cE A1 c1 w1 ar1 hn1).mono ?_
  rintro e w2 ⟨v2, rfl, own2, hb2⟩
  have q2 := below_trans q1 hb2
  clear cE
  go_wp2_with fail
  refine (cE2 w2 q2).mono ?_
  rintro e w3 ⟨v3, rfl, own3, hb3⟩
  have q3 := below_trans q2 hb3
  have p3 := below_trans hb2 hb3
  clear cE2
  have own2' := own2.below hb3
  obtain ⟨A3, c3, hv3, _, _, _, ar3⟩ := own3.form Itm.enc_len
  subst hv3
  obtain ⟨A2, c2, hv2, _, _, _, ar2⟩ := own2'.form Itm.enc_len
  go_wp2_with fail
  refine (cT A1 c1 w3 (ar1.on p3)).mono ?_
  rintro e w4 ⟨rfl, hb4⟩
  have q4 := below_trans q3 hb4
  have p4 := below_trans p3 hb4
  clear cT
  go_wp2_with fail
  refine (cT2 w4 q4).mono ?_
  rintro e w' ⟨rfl, rfl⟩
  clear cT2
  subst hv2
  go_wp2_with fail
  refine (sameItems_same A2 A3 c2 c3 LL w4 (ar2.on hb4) (ar3.on hb4) (by omega)).mono ?_
  rintro e w5 ⟨rfl, hb5⟩
  have q5 := below_trans q4 hb5
  have p5 := below_trans p4 hb5
  go_wp2_with fail
  refine (cC A1 c1 w5 (ar1.on p5)).mono ?_
  rintro e w6 ⟨rfl, hb6⟩
  have q6 := below_trans q5 hb6
  have p6 := below_trans p5 hb6
  clear cC
  go_wp2_with fail
  refine (cC2 w6 q6).mono ?_
  rintro e w' ⟨rfl, rfl⟩
  clear cC2
  go_wp2_with fail
  refine (cO A1 c1 w6 (ar1.on p6)).mono ?_
  rintro e w7 ⟨rfl, hb7⟩
  have q7 := below_trans q6 hb7
  have p7 := below_trans p6 hb7
  clear cO
  go_wp2_with fail
  refine (cO2 w7 q7).mono ?_
  rintro e w' ⟨rfl, rfl⟩
  clear cO2
  go_wp2_with fail
  refine (cX A1 c1 w7 (ar1.on p7) (ht.on q7 htl)).mono ?_
  rintro e w8 ⟨rfl, hb8⟩
  have q8 := below_trans q7 hb8
  have p8 := below_trans p7 hb8
  clear cX
  go_wp2_with fail
  refine (cX2 w8 q8).mono ?_
  rintro e w9 ⟨rfl, hb9⟩
  have q9 := below_trans q8 hb9
  have p9 := below_trans p8 hb9
  clear cX2
  have own9 := own2'.below (below_trans hb4 (below_trans hb5 (below_trans hb6 (below_trans hb7 (below_trans hb8 hb9)))))
  have s1 := q1.size
  go_wp2_with fail
  go_loopw [18] (fun i wr => ∃ (j : Nat) (L : List Itm), j ≤ LL.length ∧ L.length = LL.length ∧ i = .int .i64 j ∧ Own wr w1.heap.size 39 2 Itm.enc (.slice A2 LL.length c2) L ∧ Below w1.heap.size w1 wr) (fun i _ => LL.length - (intOf i).toNat)
  case atStart => exact ⟨0, LL, Nat.zero_le _, rfl, rfl, own9, p9⟩
  case round =>
    obtain ⟨j, L, hj, hLe, rfl, ow, pb⟩ := hrel
    by_cases hlt : j < LL.length
    · obtain ⟨g, cap, hv, hg1, hg2⟩ := own_ptr ow (by omega)
      simp only [Value.slice.injEq] at hv
      obtain ⟨rfl, _, rfl⟩ := hv
      obtain ⟨x, hx⟩ : ∃ x, L[j]? = some x := ⟨L[j], List.getElem?_eq_getElem (by omega)⟩
      have x1 := ow.atK hLe Itm.enc_len hx (j := 1) rfl
      have x2 := ow.frK hLe (j * 2 + 1)
      have x3 := ow.setK (x' := ⟨x.kind, -1⟩) hLe Itm.enc_len hx (j := 1) (u := .int .i64 (-1)) (by decide) rfl
      have HLe := Lib.hid hLe
      have Hx := Lib.hid hx
      clear hLe hx
      have i1 : (j : Int) < (LL.length : Int) := by omega
      go_wp2_with fail
      go_roundw
      case rel => exact ⟨j + 1, L.set j ⟨x.kind, -1⟩, by omega, by rw [List.length_set]; exact HLe.out, by go_num, x3, pb.setCell hg1 _⟩
      case measure => simp [intOf]; omega
    · have qe : Below w.heap.size w wr := q1.trans (pb.mono s1)
      go_wp2_with fail
      refine (sameItems_same A1 A c1 c l wr (ar1.on pb) (h.on qe) (by omega)).mono ?_
      rintro e wa ⟨rfl, hba⟩
      have qa := below_trans qe hba
      go_wp2_with fail
      refine (known_any _ (ht.on qa htl)).mono ?_
      rintro e wb ⟨rfl, hbb⟩
      go_wp2_with fail
      go_ret
      exact ⟨rfl, below_trans qa hbb⟩

theorem walk (A : Option Addr) (c : Nat) (l : List Itm) (k b : Int) (w : World) (ht : Tab w) (h : Arr 2 Itm.enc w w.heap.size A l) (hl : l.length ≤ c) (hc : c ≤ maxLen) (hnil : A = none → c = 0) (_ : ∀ x ∈ l, i64ok x.kind ∧ i64ok x.bits) (_ : (Lit.int .i64 k).wf = true) (_ : (Lit.int .i64 b).wf = true) :
    Calls Tryd.prog 4 #[.slice A l.length c, .int .i64 k, .int .i64 b] w fun e w' => e = .returned (.bool true) ∧ Below w.heap.size w w' := main A c l k b w ht h hnil

set_option maxRecDepth 100000 in
theorem lifted (os : Os) (started : os.Started) (H : Type) (enc : TypeId × Value → H) :
    ReturnsInHanded {} Tryd.checked os 4 .any (fun w args => (Rows.distilLedgersSpec.pre enc Tryd.prog Tryd.f4 [] false w args ∧ laidMetH Tryd.prog laid3 w) ∧ sizedMet enc Tryd.prog Tryd.f4 (OpenSpec.ofChange Rows.distilLedgersSpec) false w args) (Rows.distilLedgersSpec.post enc Tryd.prog Tryd.f4 false true false false) := by
  refine returnsInHanded_of_change_and (C := Tryd.checked) (X := fun w _ => laidMetH Tryd.prog laid3 w) (fun _ _ _ hh h => h.of_heap hh) own started (by kernel_rfl) Tryd.func4
    (ChangeSpec.witness_shaped (enc := enc) (C := Tryd.checked) (os := os) (X := fun w _ => laidMetH Tryd.prog laid3 w) false (World.doorLaid Tryd.prog 400 os) #[.slice none 0 0, .int .i64 0, .int .i64 0] 8 rfl (World.shaped_of_RefB (by kernel_rfl) (by kernel_rfl)) (by kernel_rfl) (by kernel_rfl) (by kernel_rfl) (door3 os _)) ?_
  intro W base args ds gs before hval0 hW _ hsz hL _
  have hval : ∀ (j : Nat) t v, Tryd.f4.params[j]? = some t → args[j]? = some v → Value.okWide Tryd.prog W .any base t v := hval0
  have hW' := hW
  obtain ⟨p, q, hA0, hV, rfl, hfz, hnd⟩ := hW
  have hA : DataW.TrodAll enc Tryd.prog W 0 (fun _ => true) true Tryd.f4.params.toList args.toList ds p := hA0
  rw [Tryd.params4] at hA hval
  obtain ⟨v0, vs0, d0, ds0, p0, q0, hargs, rfl, rfl, h0, r0⟩ := trodAll_cons hA
  obtain ⟨v1, vs1, d1, ds1, p1, q1, rfl, rfl, rfl, h1, r1⟩ := trodAll_cons r0
  obtain ⟨v2, vs2, d2, ds2, p2, q2, rfl, rfl, rfl, h2, r2⟩ := trodAll_cons r1
  obtain ⟨rfl, rfl, rfl⟩ := trodAll_nil r2
  obtain rfl : args = #[v0, v1, v2] := by cases args; simp_all
  obtain ⟨rfl, rfl⟩ := trodVars_none hV
  have lt0 : ∀ x ∈ p0, x.block < W.heap.size := by obtain ⟨m, hm⟩ := h0; exact DataW.trod_lt m _ _ _ hm
  have k0 := h0
  obtain ⟨A0, len0, n0, rfl⟩ := okWide_slice Tryd.underlying22 (hval 0 22 v0 rfl rfl)
  obtain ⟨fuel0, hf0⟩ := h0
  obtain ⟨A0', n0', l0, hcs0, hl0, hm0, hz0, ha0, ho0⟩ := open_arr (enc := Itm.enc) _ Itm.enc_len (by decide) Tryd.underlying22 (by kernel_rfl) (fun n cs y h => dec_item h) hf0
  simp [Value.cells] at hcs0
  obtain ⟨rfl, rfl, rfl⟩ := hcs0
  have lt1 : ∀ x ∈ p1, x.block < W.heap.size := by obtain ⟨m, hm⟩ := h1; exact DataW.trod_lt m _ _ _ hm
  have k1 := h1
  obtain ⟨x1, rfl, rfl, rfl, w1⟩ := open_int Tryd.underlying3 (hval 1 3 v1 rfl rfl) h1
  have lt2 : ∀ x ∈ p2, x.block < W.heap.size := by obtain ⟨m, hm⟩ := h2; exact DataW.trod_lt m _ _ _ hm
  have k2 := h2
  obtain ⟨x2, rfl, rfl, rfl, w2⟩ := open_int Tryd.underlying3 (hval 2 3 v2 rfl rfl) h2
  clear hA0 hval0
  have ht := tab3 hL
  refine (walk A0 n0 l0 x1 x2 W ht ha0 hl0 hm0 hz0 ho0 w1 w2).mono fun e W' ⟨he, bel⟩ => ?_
  subst he
  exact ⟨_, rfl, _, _, _, [], _, [], hW', trodAll_mk1 (shut_bool Tryd.underlying4 _), (trodAll_cons_mk (Below.trod laidOut (by kernel_rfl) (of_decide_eq_true (by kernel_rfl)) k0 bel lt0) (trodAll_cons_mk (Below.trod laidOut (by kernel_rfl) (of_decide_eq_true (by kernel_rfl)) k1 bel lt1) (trodAll_cons_mk (Below.trod laidOut (by kernel_rfl) (of_decide_eq_true (by kernel_rfl)) k2 bel lt2) trodAll_mk0))), rfl, bel.frame _, fun h => by cases h⟩

theorem over : Rows.distilLedgersRow.holds Tryd.pinned (OpenSpec.ofChange Rows.distilLedgersSpec) :=
  OpenClaim.holds_of_wide 4 Tryd.f4 rfl rfl rfl rfl rfl rfl rfl ⟨rfl, rfl, rfl, rfl, rfl⟩ rfl rfl rfl rfl rfl (by kernel_rfl) Tryd.func4 (by kernel_rfl)
    (of_decide_eq_true (by kernel_rfl)) (by unfold Func.isWrapper; first | (rw [if_pos (by decide +kernel)]; kernel_rfl) | (rw [if_neg (by decide +kernel)]; exact ⟨rfl, rfl⟩))
    (fun os started H enc _ => lifted os started H enc)

theorem proved : Rows.DistilLedgersCardSaid :=
  Claim7.holds_tied_plain_at .later [] [.data, .data, .data] true _ true over (fun _ h => by cases h) (by kernel_rfl) (fun _ h => by cases h) distilLedgers_row_tie rfl ⟨rfl, rfl⟩ (by kernel_rfl) rfl
    (fun f fn hf hfn => by
      obtain rfl : f = 4 := Option.some.inj ((show Tryd.prog.funcNamed "waveplate/waveplatelaw06.DistilLedgers" = some 4 by kernel_rfl).symm.trans hf) |>.symm
      obtain rfl : fn = Tryd.f4 := (Option.some.inj (Tryd.func4.symm.trans hfn)).symm
      exact ⟨by kernel_rfl, fun j t ht => by
        rw [Tryd.params4] at ht
        have hm : t ∈ [22, 3, 3] := by simpa using Array.mem_of_getElem? ht
        have hall : ([22, 3, 3].all fun u => !Tryd.prog.wantsStandIn u) = true := by kernel_rfl
        exact (show Tryd.prog.wantsStandIn t = false by simpa using List.all_eq_true.1 hall t hm)⟩)
    (by kernel_rfl)
#print axioms proved
end Go.Proofs.YtliekcfcdfakjaaDoor.distilLedgers
