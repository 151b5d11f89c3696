/- The small example with which each statement of layer 6 ends: 'known' returns true, where the library's table of powers of ten is laid. -/
import Derived.Test.YtpejoghdmkpfcaaGreatDoorTxtA
import Derived.Test.YtpejoghdmkpfcaaGreatDoorLenA
namespace Go.Proofs.YtpejoghdmkpfcaaGreatDoor
open Go.RowKit
set_option linter.unusedVariables false
set_option linter.unusedSimpArgs false

theorem ex_ent1 : ent [] 1 3 = .yes [⟨1, 3⟩] := ent_nil rfl rfl
theorem ex_ent2 : ent [⟨1, 3⟩] 1 4 = .yes [⟨1, 7⟩] := by
  rw [ent_last (x := ⟨1, 3⟩) (by decide) rfl rfl rfl]; rfl
theorem ex_led : ledE [⟨1, 7⟩] = 0 := by decide
theorem dig7 : Lib.itoa 7 = [55] := by
  rw [show (7 : Int) = ((7 : Nat) : Int) from rfl, Lib.itoa_nonneg, Lib.decDigits_one (by decide)]; rfl
theorem ex_text : textL [⟨1, 7⟩] = [112, 97, 114, 105, 116, 121, 32, 55, 10] := by
  simp only [textL, lineL, List.flatMap_cons, List.flatMap_nil, dig7]; rfl
theorem ex_len : lenI 64 0 [⟨3, 16⟩] 10 = 37 ∧ lenE 64 0 [⟨3, 16⟩] 10 = 0 := by
  obtain ⟨h1, h2, h3⟩ := len_yes (n := 64) (t := 0) (m := 10) (l := [⟨3, 16⟩]) (by decide) (by decide)
  refine ⟨?_, h1⟩
  rw [h2]
  have hc : costI 64 0 = 1 := by
    unfold costI
    rw [if_pos (by decide)]
    have : ballN (64 : Int).toNat 0 = 1 := by
      show sumTo (ch 64) (ballM 64 0) = 1
      rw [show ballM 64 0 = 1 from by decide]
      show 0 + ch 64 0 = 1
      rw [ch_zero]
    rw [this, bitLen_pos (by decide), show 1 / 2 = 0 from rfl, bitLen_zero]; rfl
  have ht : totE [⟨3, 16⟩] = 16 := by decide
  unfold lenV
  rw [hc, ht]; decide

set_option maxRecDepth 100000 in
set_option maxHeartbeats 2000000 in
theorem known_any (w : World) (ht : Tab w) : Calls Tryz.prog 6 #[] w fun e w' => e = .returned (.bool true) ∧ Below w.heap.size w w' := by
  have htl := ht.lt
  have c1 := Enter_any none 0 [] 1 3 w Arr.nil (by decide) (fun _ => rfl)
  rw [ex_ent1] at c1
  simp only [Ent.e, Ent.l] at c1
  go_enter Tryz.func6, Tryz.ntmps6
  go_wp2_with fail
  refine c1.mono ?_
  rintro e w1 ⟨v1, rfl, o1, hb1⟩
  obtain ⟨A1, k1, hv1, ll1, mm1, nn1, ar1⟩ := o1.form Itm.enc_len
  subst hv1
  have c2 := Enter_any A1 k1 [⟨1, 3⟩] 1 4 w1 ar1 (by decide) nn1
  rw [ex_ent2] at c2
  simp only [Ent.e, Ent.l] at c2
  clear c1
  go_wp2_with fail
  refine c2.mono ?_
  rintro e w2 ⟨v2, rfl, o2, hb2⟩
  obtain ⟨g, cap, hv2, hg1, hg2⟩ := own_ptr o2 (by decide)
  subst hv2
  have q2 := below_trans hb1 hb2
  have x1 : w2.cell? ⟨g, 1, none⟩ = some (.int .i64 7) := o2.atK rfl Itm.enc_len (k := 0) (x := ⟨1, 7⟩) rfl (j := 1) rfl
  have ar2 : Arr 2 Itm.enc w2 w2.heap.size (some ⟨g, 0, none⟩) [⟨1, 7⟩] := by
    obtain ⟨A2, k2, hv2, ll2, mm2, nn2, ar2⟩ := o2.form Itm.enc_len
    simp only [Value.slice.injEq] at hv2
    rw [hv2.1]; exact ar2
  have c3 := Text_main _ cap [⟨1, 7⟩] w2 ar2 ex_led (ht.on q2 htl)
  rw [ex_text] at c3
  clear c2
  go_wp2_with fail
  refine c3.mono ?_
  rintro e w3 ⟨rfl, hb3⟩
  have x3 := bel_cell hb3 x1
  have q3 := below_trans q2 hb3
  have hA := arr_lit (enc := Itm.enc) (sz := 2) w3 [⟨3, 16⟩] #[.int .i64 3, .int .i64 16] 65 rfl Itm.enc_len
  have c4 := Length_any 64 0 _ 1 [⟨3, 16⟩] 10 _ hA (by decide)
  rw [ex_len.1, ex_len.2] at c4
  clear c3
  go_wp2_with fail
  refine c4.mono ?_
  rintro e w4 ⟨rfl, hb4⟩
  have x4 := bel_cell hb4 (bel_cell (below_alloc (Below.refl _ _) _) x3)
  clear c4
  go_wp2_with fail
  go_ret
  exact ⟨rfl, below_trans (below_alloc q3 _) hb4⟩

end Go.Proofs.YtpejoghdmkpfcaaGreatDoor
