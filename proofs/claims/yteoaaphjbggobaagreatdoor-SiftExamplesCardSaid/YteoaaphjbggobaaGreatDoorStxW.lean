/- Contract of sift's Parse. For texts of at most 65536 bytes, in a world in which the library's tables, errors and its longest search are laid. -/
import Derived.Test.YteoaaphjbggobaaGreatDoorStxA
import Derived.Test.YteoaaphjbggobaaGreatDoorAnn
namespace Go.Proofs.YteoaaphjbggobaaGreatDoor
open Go.RowKit
set_option linter.unusedVariables false
set_option linter.unusedSimpArgs false

theorem bas_cases (b : List UInt8) : (b = [48] ∧ basP b = some 0) ∨ (b = [49] ∧ basP b = some 1) ∨ (basP b = none ∧ b ≠ [48] ∧ b ≠ [49]) := by
  unfold basP
  by_cases h0 : b = [48]
  · exact .inl ⟨h0, by rw [if_pos h0]⟩
  · by_cases h1 : b = [49]
    · exact .inr (.inl ⟨h1, by rw [if_neg h0, if_pos h1]⟩)
    · exact .inr (.inr ⟨by rw [if_neg h0, if_neg h1], h0, h1⟩)
set_option maxRecDepth 100000 in
set_option maxHeartbeats 4000000 in
theorem ParseH_any (S : List UInt8) (w : World) (hS : S.length ≤ 65536) (hE : Env w) :
    Calls Tryz.prog 9 #[.string ⟨S.toArray⟩] w fun e w' => ∃ v E L, e = .returned (.tuple #[v, .int .i64 E]) ∧ Own w' w.heap.size 38 2 Hrd.enc v L ∧ ReadH S E L ∧ L.length ≤ 65536 ∧ Below w.heap.size w w' := by
  obtain ⟨i0, hi, hz0, hz1, hz2⟩ := info_parts heard_info
  have Hi := Lib.hid hi; have Hz0 := Lib.hid hz0; have Hz1 := Lib.hid hz1; have Hz2 := Lib.hid hz2
  clear hi hz0 hz1 hz2
  have hsz : (⟨S.toArray⟩ : ByteArray).size = S.length := by show S.toArray.size = _; simp
  have d1 : decide (65536 < (S.length : Int)) = false := by simp; omega
  go_enter Tryz.func9, Tryz.ntmps9
  go_wp2_with fail
  go_loopw [4, 5] (fun lv rv wr => ∃ (r : List UInt8) (L : List Hrd), rv = .string ⟨r.toArray⟩ ∧ L.length + r.length ≤ S.length ∧ Hid (prs r L = prs S []) ∧ Own wr w.heap.size 38 2 Hrd.enc lv L ∧ Below w.heap.size w wr) (fun _ rv _ => strLen rv)
  case atStart => exact ⟨S, [], rfl, by simp, Lib.hid rfl, Own.nil, Below.refl _ _⟩
  case round =>
    obtain ⟨r, L, rfl, hl, hinv, ow, hb⟩ := hrel
    obtain ⟨w6, rfl⟩ : ∃ w6, w6 = wr := ⟨_, rfl⟩
    by_cases hr : r = []
    · subst hr
      have hL : prs S [] = some L := hinv.out.symm
      obtain ⟨A, c, rfl, lc, mc, nc, ar⟩ := ow.form Hrd.enc_len
      have cT := TextH_any A c L w6 ar (by omega) (hE.on hb).tab
      have hl3 : L.length ≤ 65536 := by omega
      rcases read_prs hL with ⟨h1, h2, h3⟩ | ⟨h1, h3⟩
      · rw [if_pos h1, h1, h2] at cT
        go_wp2_with (go_at_call 8; refine cT.mono ?_; rintro e w7 ⟨rfl, hb7⟩)
        go_ret2
        exact ⟨_, 0, L, rfl, ow.below hb7, h3, hl3, below_trans hb hb7⟩
      · by_cases h0 : hdE L = 0
        · rw [if_pos h0, h0] at cT
          have h2 : (textH L == S) = false := by simpa using fun h => h1 ⟨h0, h⟩
          clear h1 h0
          generalize textH L = T at *
          go_wp2_with (go_at_call 8; refine cT.mono ?_; rintro e w7 ⟨rfl, hb7⟩)
          go_ret2
          exact ⟨_, 6, [], rfl, Own.nil, h3, by decide, below_trans hb hb7⟩
        · rw [if_neg h0] at cT
          have h0' : (hdE L != 0) = true := by simpa using h0
          generalize hdE L = E at *
          clear h1 h0
          go_wp2_with (go_at_call 8; refine cT.mono ?_; rintro e w7 ⟨rfl, hb7⟩)
          go_ret2
          exact ⟨_, 6, [], rfl, Own.nil, h3, by decide, below_trans hb hb7⟩
    · have hr3 : r.length ≤ 65536 := by omega
      have hE6 := hE.on hb
      have c1 := Cut_any r 10 w6 hE6 hr3
      have l1 := cut_le1 10 r
      have l2 := cut_len (c := 10) hr
      have l3 := cut_le1 32 (Lib.cut r [10]).1
      have l4 := cut_le2 32 (Lib.cut r [10]).1
      have c2 := fun w' (hb' : Below w6.heap.size w6 w') => Cut_any (Lib.cut r [10]).1 32 w' (hE6.on hb') (by omega)
      have c4 := fun w' (hb' : Below w6.heap.size w6 w') => Atoi_any (Lib.cut (Lib.cut r [10]).1 [32]).1 w' (hE6.on hb') (by omega)
      have ok : ∀ v b, Lib.atoiAll (Lib.cut (Lib.cut r [10]).1 [32]).1 = .ok v → basP (Lib.cut (Lib.cut r [10]).1 [32]).2.1 = some b → prs (Lib.cut r [10]).2.1 (L ++ [⟨v, b⟩]) = prs S [] := fun v b h1 h2 => (prs_ok hr h1 h2).symm.trans hinv.out
      have bad1 : basP (Lib.cut (Lib.cut r [10]).1 [32]).2.1 = none → ReadH S 6 [] := fun h2 => read_none (hinv.out.symm.trans (prs_bas hr h2))
      have bad2 : (∀ v, Lib.atoiAll (Lib.cut (Lib.cut r [10]).1 [32]).1 ≠ .ok v) → ReadH S 6 [] := fun h1 => read_none (hinv.out.symm.trans (prs_no hr h1))
      have e1 : r.isEmpty = false := by simpa using hr
      generalize (Lib.cut (Lib.cut r [10]).1 [32]).2.2 = f2 at *
      generalize (Lib.cut r [10]).2.2 = f1 at *
      generalize (Lib.cut (Lib.cut r [10]).1 [32]).1 = nm at *
      generalize (Lib.cut (Lib.cut r [10]).1 [32]).2.1 = nb at *
      generalize (Lib.cut r [10]).1 = ln at *
      generalize (Lib.cut r [10]).2.1 = mo at *
      have l9 : L.length + 1 ≤ 65536 := by omega
      have hm3 : mo.length + (L.length + 1) ≤ S.length := by omega
      go_wp2_with (first
        | (go_at_call 31; refine Calls.on (args' := #[.string ⟨r.toArray⟩, .string ⟨#[10]⟩]) rfl ?_; refine c1.mono ?_; rintro e w7 ⟨rfl, hb7⟩)
        | (go_at_call 31; refine Calls.on (args' := #[.string ⟨ln.toArray⟩, .string ⟨#[32]⟩]) rfl ?_; refine (c2 _ hb7).mono ?_; rintro e w8 ⟨rfl, hb8⟩; have b8 := below_trans hb7 hb8))
      refine (c4 _ b8).mono ?_
      rintro e w10 ⟨n, x, rfl, hx, hb10⟩
      have b10 := below_trans b8 hb10
      have ow10 := ow.below b10
      have q10 := below_trans hb b10
      clear c4 c2 c1
      rcases hx with ⟨rfl, hv⟩ | ⟨⟨p, rfl⟩, hv⟩
      · rcases bas_cases nb with ⟨rfl, h0⟩ | ⟨rfl, h0⟩ | ⟨h0, g1, g2⟩
        · have hR := Lib.hid (ok n 0 hv h0)
          have oby : (L.length + 1) * 16 ≤ 140737488355328 := by omega
          have o16 : 0 < 16 := by decide
          have sz := q10.size
          clear ok bad1 bad2 h0 hv
          go_wp2_with (at_builtin; refine wpList_snoc (g := w10.heap.size) rfl _ _ 32 rfl w.heap.size 38 i0 _ 2 16 Tryz.underlying32 Hi.out Hz0.out Hz1.out Hz2.out rfl (by decide) _ L ⟨n, 0⟩ #[.int .i64 n, .int .i64 0] 38 rfl ow10 rfl rfl rfl (Hrd.one _) oby o16 sz rfl ?_; intro v5 w11 own11 hb11)
          have hlt : (⟨mo.toArray⟩ : ByteArray).size < (⟨r.toArray⟩ : ByteArray).size := by show mo.toArray.size < r.toArray.size; simpa using l2
          exact ⟨⟨mo, L ++ [⟨n, 0⟩], rfl, by simp; omega, hR, own11, q10.trans hb11⟩, hlt⟩
        · have hR := Lib.hid (ok n 1 hv h0)
          have oby : (L.length + 1) * 16 ≤ 140737488355328 := by omega
          have o16 : 0 < 16 := by decide
          have sz := q10.size
          clear ok bad1 bad2 h0 hv
          go_wp2_with (at_builtin; refine wpList_snoc (g := w10.heap.size) rfl _ _ 32 rfl w.heap.size 38 i0 _ 2 16 Tryz.underlying32 Hi.out Hz0.out Hz1.out Hz2.out rfl (by decide) _ L ⟨n, 1⟩ #[.int .i64 n, .int .i64 1] 38 rfl ow10 rfl rfl rfl (Hrd.one _) oby o16 sz rfl ?_; intro v5 w11 own11 hb11)
          have hlt : (⟨mo.toArray⟩ : ByteArray).size < (⟨r.toArray⟩ : ByteArray).size := by show mo.toArray.size < r.toArray.size; simpa using l2
          exact ⟨⟨mo, L ++ [⟨n, 1⟩], rfl, by simp; omega, hR, own11, q10.trans hb11⟩, hlt⟩
        · have hR := bad1 h0
          have e5 : (nb == [48]) = false := by simpa using g1
          have e6 : (nb == [49]) = false := by simpa using g2
          have e7 : (nb != [48]) = true := by simpa using g1
          have e8 : (nb != [49]) = true := by simpa using g2
          clear ok bad1 bad2 h0 g1 g2 hv
          go_wp2_with fail
          go_ret2
          exact ⟨_, 6, [], rfl, Own.nil, hR, by decide, q10⟩
      · have hR := bad2 hv
        clear ok bad1 bad2 hv
        go_wp2_with fail
        go_ret2
        exact ⟨_, 6, [], rfl, Own.nil, hR, by decide, q10⟩

end Go.Proofs.YteoaaphjbggobaaGreatDoor
