/- The walk of the statement DistilForges. For any two messages and tags. -/
import Derived.Test.YtpejoghdmkpfcaaGreatDoorPolE
import Derived.Test.YtpejoghdmkpfcaaGreatDoorForP
import Derived.Test.YtpejoghdmkpfcaaGreatDoorKnownD
import Derived.Test.YtpejoghdmkpfcaaGreatDoorFrgAll
namespace Go.Proofs.YtpejoghdmkpfcaaGreatDoor
open Go.RowKit Go.Maps
set_option linter.unusedVariables false
set_option linter.unusedSimpArgs false

theorem for_ways {m o : List Bool} {tag fg C : Nat} (h1 : (m = o ∧ tag = fg) → C = 256) (h2 : ¬ (m = o ∧ tag = fg) → C ≤ max m.length o.length / 8 + 2) :
    (decide (m = o) = true ∧ ((tag : Int) == (fg : Int)) = true ∧ ((C : Int) == 256) = true) ∨ ((decide (m = o) = false ∨ (decide (m = o) = true ∧ ((tag : Int) == (fg : Int)) = false)) ∧ C ≤ max m.length o.length / 8 + 2) := by
  by_cases hab : m = o
  · by_cases htf : tag = fg
    · have hn2 := h1 ⟨hab, htf⟩
      left; exact ⟨decide_eq_true hab, by simp; omega, by simp; omega⟩
    · right; exact ⟨.inr ⟨decide_eq_true hab, by simp; omega⟩, h2 (fun h => htf h.2)⟩
  · right; exact ⟨.inl (decide_eq_false hab), h2 (fun h => hab h.1)⟩

theorem usedS_nil : usedS [] = [] := by simp [usedS]

set_option maxRecDepth 100000 in
set_option maxHeartbeats 16000000 in
theorem forges_walk (A : Option Addr) (cA : Nat) (m : List Bool) (B : Option Addr) (cB : Nat) (o : List Bool) (tag fg : Nat) (v : World) (ht : Tab v) (hA : Arr 1 encB v v.heap.size A m) (lA : m.length ≤ cA) (mA : cA ≤ maxLen) (nA : A = none → cA = 0) (hB : Arr 1 encB v v.heap.size B o) (lB : o.length ≤ cB) (mB : cB ≤ maxLen) (nB : B = none → cB = 0) (t8 : tag < 256) (g8 : fg < 256) :
    Calls Tryz.prog 3 #[.slice A m.length cA, .slice B o.length cB, .int .u8 tag, .int .u8 fg] v fun e w' => e = .returned (.bool true) ∧ Below v.heap.size v w' := by
  have htl := ht.lt
  have cK := fun w' (hb : Below v.heap.size v w') => known_any w' (ht.on hb htl)
  have hl63 : m.length ≤ 9223372036854775807 := Nat.le_trans lA (Nat.le_trans mA (by decide))
  have hs63 : o.length ≤ 9223372036854775807 := Nat.le_trans lB (Nat.le_trans mB (by decide))
  by_cases h1 : 60 < m.length ∨ 60 < o.length
  · have ways : (decide (60 < (m.length : Int)) = true) ∨ (decide (60 < (m.length : Int)) = false ∧ decide (60 < (o.length : Int)) = true) := by simp; omega
    clear h1
    rcases ways with d1 | ⟨d1, d2⟩
    all_goals (
      go_enter Tryz.func3, Tryz.ntmps3
      go_wp2_with (go_at_call 6; refine (cK _ (Below.refl _ _)).mono ?_; rintro e w5 ⟨rfl, hb5⟩)
      go_ret
      exact ⟨rfl, hb5⟩)
  have d1 : decide (60 < (m.length : Int)) = false := by simp; omega
  have d2 : decide (60 < (o.length : Int)) = false := by simp; omega
  have m60 : m.length ≤ 60 := by omega
  have o60 : o.length ≤ 60 := by omega
  have cF := Forgeries_any 8 tag fg A cA m B cB o v hA lA mA hB lB mB
  obtain ⟨f1, f2, f3, f4⟩ := for_count t8 g8 m60 o60
  rw [f1, f2] at cF
  have FW := Lib.hid (for_ways f3 f4)
  have C256 := cntTo_le (keyP 8 m o (tag ^^^ fg)) 256
  clear f1 f2 f3 f4
  obtain ⟨C, hC⟩ : ∃ C, cntTo (keyP 8 m o (tag ^^^ fg)) 256 = C := ⟨_, rfl⟩
  rw [hC] at cF FW C256
  have HC := Lib.hid hC
  clear hC h1 hl63 hs63
  obtain ⟨i0, hi, hz0, hz1, hz2⟩ := info_parts bool_info3
  have Hi := Lib.hid hi; have Hz0 := Lib.hid hz0; have Hz1 := Lib.hid hz1; have Hz2 := Lib.hid hz2
  clear hi hz0 hz1 hz2
  go_enter Tryz.func3, Tryz.ntmps3
  go_wp2_with fail
  refine cF.mono ?_
  rintro e w1 ⟨rfl, hb1⟩
  clear cF
  go_wp2_with fail
  go_loopw [11, 12, 13] (fun ft ac ky wr => ∃ k c : Nat, k ≤ 256 ∧ c ≤ k ∧ ft = .int .i64 k ∧ ac = .int .i64 c ∧ ky = .int .u64 k ∧ Hid (cntTo (keyP 8 m o (tag ^^^ fg)) k = c) ∧ Below v.heap.size v wr) (fun _ _ ky _ => 300 - (intOf ky).toNat)
  case atStart => exact ⟨0, 0, by omega, by omega, rfl, rfl, rfl, Lib.hid rfl, hb1⟩
  case round =>
    obtain ⟨k, c, hk, hc, rfl, rfl, rfl, hcnt, hb⟩ := hrel
    obtain ⟨w6, rfl⟩ : ∃ w6, w6 = wr := ⟨_, rfl⟩
    clear hb1
    rcases (show k < 256 ∨ k = 256 by omega) with hlt | rfl
    · have hh : hashN 8 k m < 2 ^ 8 := hashN_lt (.inl rfl) m
      have cH := rHash_any 8 k A cA m w6 (.inl rfl) (by simpa using hlt) (hA.on hb) (by omega) nA
      have hx := xor_64 (a := hashN 8 k m) (b := tag) (by omega) (by omega)
      obtain ⟨pad, hpad⟩ : ∃ pad, hashN 8 k m ^^^ tag = pad := ⟨_, rfl⟩
      rw [hpad] at hx
      obtain ⟨e1, t1, o1, p256⟩ := for_pool (m := m) (o := o) (k := k) (tag := tag) (fg := fg) (pad := pad) hlt t8 m60 o60 hpad
      have hstep : Hid (cntTo (keyP 8 m o (tag ^^^ fg)) (k + 1) = c + (if keyP 8 m o (tag ^^^ fg) k = true then 1 else 0)) := Lib.hid (by rw [cntTo, hcnt.out])
      obtain ⟨kp, hkp⟩ : ∃ kp, keyP 8 m o (tag ^^^ fg) k = kp := ⟨_, rfl⟩
      rw [hkp] at o1 hstep
      obtain ⟨bits, hbits⟩ : ∃ bits, numL k 8 ++ numL pad 8 = bits := ⟨_, rfl⟩
      have hbl : bits.length = 16 := by rw [← hbits, List.length_append, numL_len, numL_len]
      rw [hbits] at e1 t1 o1
      have cP := fun w' A' c' (ar : Arr 1 encB w' w'.heap.size A' bits) (nn : A' = none → c' = 0) (l1 : bits.length ≤ c') (l2 : c' ≤ maxLen) => NewPool_in 8 (.inl rfl) A' c' bits w' ar nn l1 l2 (by omega)
      have cS := fun w' b nb mb (p : PoolAt w' b nb mb 8 bits []) (ar : Arr 1 encB w' w'.heap.size A m) => Seal_any b nb mb 8 bits [] 0 A cA m w' p ar lA mA
      have cO := fun w' b nb mb (p : PoolAt w' b nb mb 8 bits []) (ar : Arr 1 encB w' w'.heap.size B o) => Open_any b nb mb 8 bits [] 0 B cB o fg w' p ar lB mB
      have cC := fun w' b nb mb (p : PoolAt w' b nb mb 8 bits []) => Copy_any b nb mb 8 bits [] w' p
      have cU := fun w' b nb mb (p : PoolAt w' b nb mb 8 bits []) => Used_any b nb mb 8 bits [] w' p
      simp only [e1, t1, o1, usedS_nil, ↓reduceIte] at cS cO cU
      have HB := Lib.hid hbits; have HL := Lib.hid hbl
      clear e1 t1 o1 hkp hpad hbits hbl hcnt
      generalize hashN 8 k m = h0 at *
      have cN1 := fun w' => Number_any k 8 w' (by decide) (by omega)
      have cN2 := fun w' => Number_any pad 8 w' (by decide) (by omega)
      clear hh
      go_wp2_with fail
      refine cH.mono ?_
      rintro e w7 ⟨rfl, hb7⟩
      have q7 := below_trans hb hb7
      clear cH
      go_wp2_with fail
      refine (cN1 _).mono ?_
      rintro e w8 ⟨v1, rfl, own1, hb8⟩
      have q8 := below_trans q7 hb8
      go_wp2_with fail
      refine (cN2 _).mono ?_
      rintro e w9 ⟨v2, rfl, own2, hb9⟩
      have q9 := below_trans q8 hb9
      have own1 := own1.below hb9
      obtain ⟨A2, c2, rfl, l2, m2, n2, ar2⟩ := own2.form encB_len
      have by9 : ((numL k 8).length + (numL pad 8).length) * 1 ≤ 140737488355328 := by rw [numL_len, numL_len]; decide
      have sz9 : w7.heap.size ≤ w9.heap.size := Nat.le_trans hb8.size hb9.size
      clear cN1 cN2 own2
      go_wp2_with (at_builtin; refine wpList_app rfl _ _ 22 rfl w7.heap.size 4 i0 _ 1 1 Tryz.underlying22 Hi.out Hz0.out Hz1.out Hz2.out rfl (by decide) encB_len encB_one _ (numL k 8) (numL pad 8) A2 c2 w9.heap.size rfl own1 rfl ar2 n2 by9 (by decide) sz9 ?_; intro v3 w10 own3 hb10; rw [HB.out] at own3)
      obtain ⟨A3, c3, rfl, l3, m3, n3, ar3⟩ := own3.form encB_len
      have q10 : Below v.heap.size v w10 := q9.trans (hb10.mono q7.size)
      clear own1 own3 ar2 by9 sz9 hb10
      go_wp2_with fail
      refine (cP w10 A3 c3 ar3 n3 l3 m3).mono ?_
      rintro e w11 ⟨b, nb, mb, rfl, pa, hb11⟩
      have q11 := below_trans q10 hb11
      clear cP ar3
      go_wp2_with fail
      refine (cC w11 b nb mb pa.p).mono ?_
      rintro e w12 ⟨b', nb', mb', rfl, pc, g1, g2, g3, g4, hb12⟩
      have q12 := below_trans q11 hb12
      have pa12 := pa.below hb12
      clear cC pa g4
      go_wp2_with fail
      refine (cS w12 b' nb' mb' pc (hA.on q12)).mono ?_
      rintro e w13 ⟨rfl, hres⟩
      have g13 : w12.grownBy w13 (some mb') := by
        rcases hres with ⟨h, _⟩ | ⟨_, _, h2⟩
        · exact (h rfl).elim
        · exact h2
      have pa13 := pa12.keep g13 (fun g hg => by cases hg; exact .inr g3)
      have q13 : Below v.heap.size v w13 := q12.grown g13 q12.size (fun g hg => by cases hg; exact Nat.le_trans q11.size g3)
      clear hres g13 pa12 pc cS
      go_wp2_with fail
      cases kp
      · simp only [Bool.false_eq_true, ↓reduceIte] at cO hstep
        refine (cO w13 b nb mb pa13.p (hB.on q13)).mono ?_
        rintro e w14 ⟨rfl, hres⟩
        have hb14 : Below w13.heap.size w13 w14 := by
          rcases hres with ⟨_, h⟩ | ⟨h, _⟩
          · exact h
          · exact absurd h (by decide)
        have pa14 := pa13.below hb14
        have q14 := below_trans q13 hb14
        clear hres pa13 cO
        go_wp2_with fail
        refine (cU w14 b nb mb pa14.p).mono ?_
        rintro e w15 ⟨vu, rfl, ou, hb15⟩
        have q15 := below_trans q14 hb15
        obtain ⟨Au, cu, rfl, _, _, _, _⟩ := ou.form encI_len
        clear ou cU
        go_wp2_with fail
        exact ⟨⟨k + 1, c, by omega, by omega, by go_num, rfl, by go_num, Lib.hid (by rw [hstep.out]; rfl), q15⟩, by simp [intOf]; omega⟩
      · simp only [↓reduceIte] at cO hstep
        refine (cO w13 b nb mb pa13.p (hB.on q13)).mono ?_
        rintro e w14 ⟨rfl, hres⟩
        have g14 : w13.grownBy w14 (some mb) := by
          rcases hres with ⟨h, _⟩ | ⟨_, _, h2⟩
          · exact (h rfl).elim
          · exact h2
        have q14 : Below v.heap.size v w14 := q13.grown g14 q13.size (fun g hg => by cases hg; exact Nat.le_trans q10.size pa13.m1.1)
        clear hres pa13 cO cU
        go_wp2_with fail
        exact ⟨⟨k + 1, c + 1, by omega, by omega, by go_num, by go_num, by go_num, Lib.hid hstep.out, q14⟩, by simp [intOf]; omega⟩
    · have hcC : c = C := by rw [← hcnt.out]; exact HC.out
      subst hcC
      have cS := fun w' (h : Below v.heap.size v w') => Same_any A B cA cB m o w' (hA.on h) (hB.on h) (by omega) (by omega)
      have fw := FW.out
      obtain ⟨M, hM⟩ : ∃ M : Nat, max m.length o.length = M := ⟨_, rfl⟩
      have hM60 : M ≤ 60 := by omega
      have hws := wordsL_length (w := 8) (by decide) (List.replicate M false)
      rw [List.length_replicate] at hws
      rw [hM, ← hws] at fw
      have cW : ∀ (w' : World) (A' : Option Addr) (c' : Nat), Arr 1 encB w' w'.heap.size A' (List.replicate M false) → (A' = none → c' = 0) → Calls Tryz.prog 16 #[.int .i64 8, .slice A' M c'] w' fun e v' => ∃ x, e = .returned x ∧ Own v' w'.heap.size 27 1 enc64 x (wordsL 8 (List.replicate M false)) ∧ Below w'.heap.size w' v' := fun w' A' c' h hn => by
        have := Words_any 8 A' c' (List.replicate M false) w' (.inl rfl) h (by rw [List.length_replicate]; omega) hn
        rw [List.length_replicate] at this; exact this
      generalize wordsL 8 (List.replicate M false) = ws at *
      have HM := Lib.hid hM
      have Hws := Lib.hid hws
      clear HC hcnt C256 hc hk hM hws FW
      simp only [show ((256 : Nat) : Int) = 256 from rfl]
      rcases fw with ⟨dab, tf, tN⟩ | ⟨dab | ⟨dab, tf⟩, hNle⟩
      all_goals (
        go_wp2_with (first
          | (go_at_call 15; refine (cS _ hb).mono ?_; rintro e w7 ⟨rfl, hb7⟩; rw [dab]; have q7 := below_trans hb hb7)
          | (at_make; refine wpList_mk rfl _ _ 22 rfl 4 i0 _ 1 Tryz.underlying22 Hi.out Hz0.out Hz1.out Hz2.out rfl (fun b : Bool => Value.bool b) false rfl _ _ _ _ M rfl rfl (by have := HM.out; omega) (by have := HM.out; omega) (by omega) (by unfold maxLen; omega) ?_; intro w8 own8 hb8; have q8 := below_trans q7 hb8; obtain ⟨A7, c7, e7, _, _, n7, ar7⟩ := own8.form (enc := encB) encB_len; simp only [Value.slice.injEq] at e7; obtain ⟨e7a, e7b, e7c⟩ := e7; clear e7b; subst e7a e7c)
          | (go_at_call 16; ((with_reducible refine (cW _ _ _ ar7 n7).mono ?_)); rintro e w9 ⟨x8, rfl, own9, hb9⟩; have q9 := below_trans q8 hb9; obtain ⟨A8, c8, e8, _, _, _, _⟩ := own9.form enc64_len; subst e8)
          | (go_at_call 6; refine (cK _ q9).mono ?_; rintro e w10 ⟨rfl, hb10⟩))
        go_ret
        exact ⟨rfl, below_trans q9 hb10⟩)

end Go.Proofs.YtpejoghdmkpfcaaGreatDoor
