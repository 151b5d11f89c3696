/- The walk of the statement DistilPools. For any width, bits and steps. -/
import Derived.Test.YtpejoghdmkpfcaaGreatDoorPlrG
import Derived.Test.YtpejoghdmkpfcaaGreatDoorKnownD
namespace Go.Proofs.YtpejoghdmkpfcaaGreatDoor
open Go.RowKit Go.Maps
set_option linter.unusedVariables false
set_option linter.unusedSimpArgs false

/-- A step of the statement. -/
structure Stp where
  Do : Int
  Nm : Int
  A : Option Addr
  c : Nat
  m : List Bool
  t : Nat
def Stp.enc (x : Stp) : List Value := [.int .i64 x.Do, .int .i64 x.Nm, .slice x.A x.m.length x.c, .int .u64 x.t]
theorem Stp.enc_len (x : Stp) : x.enc.length = 4 := rfl
def Stp.Ok (v : World) (x : Stp) : Prop := Arr 1 encB v v.heap.size x.A x.m ∧ x.m.length ≤ x.c ∧ x.c ≤ maxLen ∧ (x.A = none → x.c = 0)
theorem Arr.stp {w w' : World} {B : Nat} {A : Option Addr} {k : Nat} {l : List Stp} (h : Arr 4 Stp.enc w B A l) (hk : k < l.length) (hb : Below B w w') :
    ∃ b off x, A = some ⟨b, off, none⟩ ∧ b < B ∧ Hid (l[k]? = some x) ∧ w'.cell? ⟨b, off + k * 4, none⟩ = some (.int .i64 x.Do) ∧ w'.cell? ⟨b, off + k * 4 + 1, none⟩ = some (.int .i64 x.Nm) ∧
      w'.cell? ⟨b, off + k * 4 + 2, none⟩ = some (.slice x.A x.m.length x.c) ∧ w'.cell? ⟨b, off + k * 4 + 3, none⟩ = some (.int .u64 x.t) := by
  obtain ⟨b, off, rfl, hbb, hc⟩ := h.get hk hb
  exact ⟨b, off, _, rfl, hbb, Lib.hid (List.getElem?_eq_getElem hk), hc 0 _ rfl, hc 1 _ rfl, hc 2 _ rfl, hc 3 _ rfl⟩

theorem next_seal {w : World} {b nb mb W : Nat} {bits : List Bool} {u : List Nat} (h : PoolAt w b nb mb W bits u) (hn : nxE W bits u 0 = 0) : plE W bits u ((nxI W bits u 0 : Nat) : Int) [] = 0 := by
  have hI : nxI W bits u 0 = nxtK u 0 := by unfold nxI; rw [if_pos hn]; rfl
  have hR : ¬ bits.length / (2 * W) ≤ nxtK u 0 := by
    unfold nxE at hn
    rw [if_pos (.inl rfl)] at hn
    intro hc
    rw [if_pos (show bits.length / (2 * W) ≤ nxtK u (Int.toNat 0) from hc)] at hn
    exact absurd hn (by decide)
  obtain ⟨_, h2, h3⟩ := nxtK_spec 0 u
  have hnot : ¬ nxtK u 0 ∈ u := fun hm => by
    have hev : nxtK u 0 % 2 = 0 := by
      rcases h2 with h2 | ⟨i, _, hi, h4⟩
      · rw [h2]
      · omega
    have := h3 _ hm hev
    omega
  rw [hI]
  unfold plE
  rw [if_neg (by omega), if_neg (by omega), if_neg (by simpa using hnot)]
  have lK : ∀ (l : List Bool), bval (l.take W) < 2 ^ W := fun l => by
    have := bval_lt (l.take W)
    have h8 : 2 ^ (l.take W).length ≤ 2 ^ W := Nat.pow_le_pow_right (by decide) (by rw [List.length_take]; omega)
    exact Nat.lt_of_lt_of_le this h8
  exact (tg_ok _ (lK _) (hsh_ok (by rcases h.wd with rfl | rfl | rfl <;> decide) (lK _) (by simp)).1).1
theorem RpAt.down {w : World} {lo lo' q W : Nat} {vb vd : Value} {bits : List Bool} {d : List Nat} (h : RpAt w lo q W vb vd bits d) (hl : lo' ≤ lo) : RpAt w lo' q W vb vd bits d :=
  ⟨h.wd, h.row, own_down hl h.ob, own_down hl h.od, h.qb, h.qd, h.bd, Nat.le_trans hl h.ql, h.bl, h.dl⟩

set_option maxRecDepth 100000 in
set_option maxHeartbeats 16000000 in
theorem pools_walk (W : Int) (A : Option Addr) (cA : Nat) (bits : List Bool) (C : Option Addr) (cC : Nat) (st : List Stp) (v : World) (ht : Tab v) (hA : Arr 1 encB v v.heap.size A bits) (lA : bits.length ≤ cA) (mA : cA ≤ maxLen) (nA : A = none → cA = 0) (hC : Arr 4 Stp.enc v v.heap.size C st) (lC : st.length ≤ cC) (mC : cC ≤ maxLen) (hok : ∀ x ∈ st, x.Ok v) :
    Calls Tryz.prog 4 #[.int .i64 W, .slice A bits.length cA, .slice C st.length cC] v fun e w' => e = .returned (.bool true) ∧ Below v.heap.size v w' := by
  have htl := ht.lt
  have cK := fun w' (hb : Below v.heap.size v w') => known_any w' (ht.on hb htl)
  have hl63 : bits.length ≤ 9223372036854775807 := Nat.le_trans lA (Nat.le_trans mA (by decide))
  have hs63 : st.length ≤ 9223372036854775807 := Nat.le_trans lC (Nat.le_trans mC (by decide))
  by_cases h1 : 800 < bits.length ∨ 30 < st.length
  · have ways : (decide (800 < (bits.length : Int)) = true) ∨ (decide (800 < (bits.length : Int)) = false ∧ decide (30 < (st.length : Int)) = true) := by simp; omega
    clear h1
    rcases ways with d1 | ⟨d1, d2⟩
    all_goals (
      go_enter Tryz.func4, Tryz.ntmps4
      go_wp2_with (go_at_call 6; refine (cK _ (Below.refl _ _)).mono ?_; rintro e w5 ⟨rfl, hb5⟩)
      go_ret
      exact ⟨rfl, hb5⟩)
  have d1 : decide (800 < (bits.length : Int)) = false := by simp; omega
  have d2 : decide (30 < (st.length : Int)) = false := by simp; omega
  have l800 : bits.length ≤ 800 := by omega
  have l30 : st.length ≤ 30 := by omega
  clear h1 hl63 hs63
  obtain ⟨i0, hi, hz0, hz1, hz2⟩ := info_parts bool_info3
  have Hi := Lib.hid hi; have Hz0 := Lib.hid hz0; have Hz1 := Lib.hid hz1; have Hz2 := Lib.hid hz2
  have by1 : (([] : List Bool).length + bits.length) * 1 ≤ 140737488355328 := by simp; omega
  have oe := own_empty (α := Bool) (sz := 1) (enc := encB) v v.heap.size 4 (Nat.le_refl _)
  have qe := below_alloc (Below.refl v.heap.size v) (.cells #[] 4)
  have are := hA.on qe
  have sze := qe.size
  clear hi hz0 hz1 hz2
  rcases wd_cases W with ⟨n, rfl, hn, hB⟩ | ⟨hB, _, _, _⟩
  rotate_left
  · have cP := fun A' c' l' w' => NewPool_bad W hB A' c' l' w'
    have cQ := fun A' c' l' w' => rNewPool_bad W hB A' c' l' w'
    clear hB
    go_enter Tryz.func4, Tryz.ntmps4
    go_wp2_with (first
      | (at_builtin; refine wpList_app rfl _ _ 22 rfl v.heap.size 4 i0 _ 1 1 Tryz.underlying22 Hi.out Hz0.out Hz1.out Hz2.out rfl (by decide) encB_len encB_one _ ([] : List Bool) bits A cA _ rfl oe rfl are nA by1 (by decide) sze ?_; intro v2 w2 own2 hb2; have q2 := qe.trans hb2; obtain ⟨A2, c2, hv2, _, _, _, _⟩ := own2.form encB_len; subst hv2)
      | (go_at_call 9; refine (cP _ _ _ _).mono ?_; rintro e w3 ⟨rfl, hb3⟩; have q3 := below_trans q2 hb3)
      | (go_at_call 17; refine (cQ _ _ _ _).mono ?_; rintro e w4 ⟨rfl, hb4⟩; have q4 := below_trans q3 hb4)
      | (go_at_call 6; refine (cK _ q4).mono ?_; rintro e w5 ⟨rfl, hb5⟩))
    go_ret
    exact ⟨rfl, below_trans q4 hb5⟩
  · have wd3 : n = 8 ∨ n = 16 ∨ n = 32 := hn
    have HA := Lib.hid hA
    have cP := fun A' c' w' (ar : Arr 1 encB w' w'.heap.size A' bits) (nn : A' = none → c' = 0) (l1 : bits.length ≤ c') (l2 : c' ≤ maxLen) => NewPool_in n wd3 A' c' bits w' ar nn l1 l2 (by omega)
    have cQ := fun w' (hb : Below v.heap.size v w') => rNewPool_any n wd3 A cA bits w' (hA.on hb) nA (by omega)
    clear hB hn
    go_enter Tryz.func4, Tryz.ntmps4
    go_wp2_with (at_builtin; refine wpList_app rfl _ _ 22 rfl v.heap.size 4 i0 _ 1 1 Tryz.underlying22 Hi.out Hz0.out Hz1.out Hz2.out rfl (by decide) encB_len encB_one _ ([] : List Bool) bits A cA _ rfl oe rfl are nA by1 (by decide) sze ?_; intro v2 w2 own2 hb2; rw [List.nil_append] at own2; have q2 := qe.trans hb2; obtain ⟨A2, c2, hv2, l2, m2, n2, ar2⟩ := own2.form encB_len; subst hv2)
    have G2 : ∀ g, Value.ownBlock (.slice A2 bits.length c2) = some g → g < w2.heap.size := fun g hg => (World.ownsRow.lt own2 g hg).2
    refine (cP A2 c2 w2 ar2 n2 l2 m2).mono ?_
    rintro e w3 ⟨b, nb, mb, rfl, pa, hb3⟩
    have q3 := below_trans q2 hb3
    have own3 := own2.below hb3
    clear cP oe qe are sze own2 ar2
    go_wp2_with fail
    refine (cQ w3 q3).mono ?_
    rintro e w4 ⟨q, vb, rfl, rp, hb4⟩
    have q4 := below_trans q3 hb4
    have pa4 := pa.below hb4
    have own4 := own3.below hb4
    have sz23 := hb3.size
    have sz34 := hb4.size
    have sz02 := q2.size
    clear cQ own3 pa hA q3 hb3 hb4 q2
    go_wp2_with fail
    go_loopw [12] (fun i wr => ∃ (k : Nat) (gl : List Bool), k ≤ bits.length ∧ i = .int .i64 k ∧ gl.length = bits.length ∧ Own wr v.heap.size 4 1 (fun x => [Value.bool x]) (.slice A2 bits.length c2) gl ∧ PoolIn w2.heap.size w3.heap.size wr b nb mb n bits [] ∧ RpAt wr w3.heap.size q n vb (.slice none 0 0) bits [] ∧ Below v.heap.size v wr) (fun i _ => bits.length + 1 - (intOf i).toNat)
    case atStart => exact ⟨0, bits, Nat.zero_le _, rfl, rfl, own4, pa4, rp, q4⟩
    case round =>
      obtain ⟨k, gl, hk, rfl, hgl, own, pa, rp, hb⟩ := hrel
      obtain ⟨w6, rfl⟩ : ∃ w6, w6 = wr := ⟨_, rfl⟩
      clear own4 pa4 q4
      rcases Nat.lt_or_ge k bits.length with hlt | hge
      · obtain ⟨gm, cm, hvm, hg1, hg2⟩ := own_ptr own (by omega)
        simp only [Value.slice.injEq] at hvm
        obtain ⟨rfl, _, rfl⟩ := hvm
        have gm2 := G2 gm rfl
        obtain ⟨x, hx⟩ : ∃ x, gl[k]? = some x := ⟨_, List.getElem?_eq_getElem (by omega)⟩
        have cx := Own.at1 (f := Value.bool) own hgl hx
        have fx := Own.fr1 (f := Value.bool) own hgl k
        have own' := Own.set1 (f := Value.bool) own hgl k (!x)
        have gr := grown_setCell w6 gm k (.bool (!x))
        have pa' := pa.keep gr (fun g hg => by cases hg; exact .inl gm2)
        have hql := rp.ql
        have rp' := rp.keep gr (fun e => by cases e; omega) (not_some fun g hg => by have := (World.ownsRow.lt rp.ob g hg).1; omega) (.inl rfl)
        have hb' := hb.grown gr hb.size (fun g hg => by cases hg; exact hg1)
        have HG := Lib.hid hgl
        clear own pa rp hb hgl hx
        go_wp2_with fail
        exact ⟨⟨k + 1, gl.set k (!x), by omega, by go_num, by rw [List.length_set]; exact HG.out, own', pa', rp', hb'⟩, by simp [intOf]; omega⟩
      · have hkl : k = bits.length := by omega
        subst hkl
        have D0 : Duo v w6 b nb mb q n bits ([] : List Nat).reverse vb (.slice none 0 0) bits [] := duo_new (rp.down (by omega)) hb pa (.inr rp.ql) (fun g hg => by
          rcases hg with hg | hg
          · exact .inr (World.ownsRow.lt rp.ob g hg).1
          · cases hg) (by omega)
        clear own pa rp hb hgl hge hk G2 sz23 sz34 sz02
        go_wp2_with fail
        go_loopw [8, 13] (fun pp i wr => ∃ (k b nb mb : Nat) (bits' : List Bool) (d : List Nat) (vb vd : Value), k ≤ st.length ∧ i = .int .i64 k ∧ pp = .pointer (some ⟨b, 0, none⟩) ∧ Duo v wr b nb mb q n bits' d.reverse vb vd bits' d) (fun _ i _ => st.length + 1 - (intOf i).toNat)
        case atStart => exact ⟨0, b, nb, mb, bits, [], vb, _, Nat.zero_le _, rfl, rfl, D0⟩
        case round =>
          clear D0
          obtain ⟨k, b, nb, mb, bits', d, vb, vd, hk, rfl, rfl, D⟩ := hrel
          obtain ⟨w7, rfl⟩ : ∃ w7, w7 = wr := ⟨_, rfl⟩
          rcases Nat.lt_or_ge k st.length with hlt | hge
          · obtain ⟨cb, co, x, rfl, hcb, hx, c0, c1, c2', c3⟩ := hC.stp hlt D.hb
            obtain ⟨okA, ok1, ok2, ok3⟩ := hok x (List.mem_of_getElem? hx.out)
            by_cases hm : 200 < x.m.length
            · have dm : decide (200 < (x.m.length : Int)) = true := by simp; omega
              have hb := D.hb
              clear hm
              go_wp2_with (go_at_call 6; refine (cK _ hb).mono ?_; rintro e w5 ⟨rfl, hb5⟩)
              go_ret
              exact ⟨rfl, below_trans hb hb5⟩
            · have dm : decide (200 < (x.m.length : Int)) = false := by simp; omega
              have okM := okA.on D.hb
              have hmL : x.m.length ≤ 60000 := by omega
              have hd := D.dl (by simp)
              obtain ⟨X, hX⟩ : ∃ X, (wrap64 (x.Do.tmod 6 + 6)).tmod 6 = X := ⟨_, rfl⟩
              have rest : ∀ (w8 : World) (b nb mb : Nat), Duo v w8 b nb mb q n bits' d.reverse vb vd bits' d → True := fun _ _ _ _ _ => trivial
              clear hm rest
              cases h4 : (X == 4)
              · skip
                clear hd okM
                obtain ⟨cb2, co2, x2, hC2, _, hx2, z0, z1, z2, z3⟩ := hC.stp hlt D.hb
                cases hC2
                obtain rfl : x2 = x := Option.some.inj (hx2.out.symm.trans hx.out)
                have cPl := play_any D x2.Do x2.Nm x2.A x2.c x2.m x2.t okA ok1 ok2 ok3 hmL
                clear c0 c1 c2' c3
                go_wp2_with fail
                refine cPl.mono ?_
                rintro e y9 ⟨rfl, bits2, d2, vb2, vd2, E9⟩
                have cR := Room_any b nb mb n bits2 d2.reverse y9 E9.p
                have cR2 := fun w' (h : RpAt w' v.heap.size q n vb2 vd2 bits2 d2) => rRoom_any w' h
                have cU := fun w' (h : PoolAt w' b nb mb n bits2 d2.reverse) => Used_any b nb mb n bits2 d2.reverse w' h
                have cU2 := fun w' (h : RpAt w' v.heap.size q n vb2 vd2 bits2 d2) => rUsed_any w' h
                have hUs : usedS d2.reverse = usedR (bits2.length / (2 * n)) d2 := by rw [usedS_eq E9.p.un E9.p.ub, usedR_rev]
                have hUl := usedR_len (bits2.length / (2 * n)) d2
                have hR6 : bits2.length / (2 * n) ≤ 65536 := Nat.le_trans (Nat.div_le_self _ _) E9.p.bl
                simp only [hUs] at cU
                generalize usedR (bits2.length / (2 * n)) d2 = U at *
                generalize bits2.length / (2 * n) = R at *
                have HU := Lib.hid (Nat.le_trans hUl hR6)
                clear z0 z1 z2 z3 cPl hUs hUl
                go_wp2_with fail
                refine cR.mono ?_
                rintro e y10 ⟨rfl, hy10⟩
                have E10 := E9.below hy10
                clear cR
                go_wp2_with fail
                refine (cR2 _ E10.r).mono ?_
                rintro e y11 ⟨rfl, hy11⟩
                have E11 := E10.below hy11
                clear cR2
                go_wp2_with fail
                refine (cU _ E11.p).mono ?_
                rintro e y12 ⟨vu, rfl, ou, hy12⟩
                have E12 := E11.below hy12
                obtain ⟨Au, cu, rfl, _, _, _, aru⟩ := ou.form encI_len
                clear cU ou
                go_wp2_with fail
                refine (cU2 _ E12.r).mono ?_
                rintro e y13 ⟨vr, rfl, orr, hy13⟩
                have E13 := E12.below hy13
                obtain ⟨Ar, cr, rfl, _, _, _, arr⟩ := orr.form encI_len
                clear cU2 orr
                go_wp2_with fail
                refine (ints_same Au Ar cu cr U y13 (aru.on hy13) arr HU.out).mono ?_
                rintro e y14 ⟨rfl, hy14⟩
                have E14 := E13.below hy14
                go_wp2_with fail
                exact ⟨⟨k + 1, b, nb, mb, bits2, d2, vb2, vd2, by omega, by go_num, rfl, E14⟩, by simp [intOf]; omega⟩
              · skip
                go_wp2_with fail
                refine (Copy_in D.p).mono ?_
                rintro e w8 ⟨b2, nb2, mb2, rfl, pc, hb8⟩
                have D8 := D.below hb8
                have hq8 := D.r.lt
                have hvb := fun g (hg : vb.ownBlock = some g) => (World.ownsRow.lt D.r.ob g hg).2
                have hvd := fun g (hg : vd.ownBlock = some g) => (World.ownsRow.lt D.r.od g hg).2
                have hmb := D.blt.2.2
                have hlo := D.hb.size
                clear c0 c1 c2' c3 okM hd D
                go_wp2_with fail
                refine (duo_next D8 0).mono ?_
                rintro e w9 ⟨rfl, D9, hb9⟩
                have pc9 := pc.below hb9
                have hns := next_seal D9.p
                clear pc D8 hb8 hb9
                by_cases hE : nxE n bits' d.reverse 0 = 0
                · have hpl := hns hE
                  rw [hE]
                  generalize nxI n bits' d.reverse 0 = N at *
                  have cS := Seal_any b nb mb n bits' d.reverse (N : Int) none 0 [] w9 D9.p Arr.nil (by simp) (by decide)
                  simp only [hpl, ↓reduceIte, List.length_nil] at cS
                  generalize plT n bits' (N : Int) [] = T at *
                  clear hns hE hpl
                  go_wp2_with fail
                  refine cS.mono ?_
                  rintro e w10 ⟨rfl, hres⟩
                  have hres2 : PoolAt w10 b nb mb n bits' ((N : Int).toNat :: d.reverse) ∧ w9.grownBy w10 (some mb) := by
                    rcases hres with ⟨h, _⟩ | ⟨_, h1, h2⟩
                    · exact (h rfl).elim
                    · exact ⟨h1, h2⟩
                  have D10 := D9.sealP hres2.1 hres2.2
                  have pc10 := pc9.keep hres2.2 (fun g hg => by cases hg; exact .inl hmb)
                  have D11 : Duo v w10 b2 nb2 mb2 q n bits' d.reverse vb vd bits' d := duo_new D10.r D10.hb pc10 (.inl hq8) (fun g hg => .inl (hg.elim (hvb g) (hvd g))) hlo
                  clear hres hres2 D10 D9 pc10 pc9 cS hvb hvd hq8 hmb hlo
                  have c0 := trivial; have c1 := trivial; have c2' := trivial; have c3 := trivial
                  obtain ⟨cb2, co2, x2, hC2, _, hx2, z0, z1, z2, z3⟩ := hC.stp hlt D11.hb
                  cases hC2
                  obtain rfl : x2 = x := Option.some.inj (hx2.out.symm.trans hx.out)
                  have cPl := play_any D11 x2.Do x2.Nm x2.A x2.c x2.m x2.t okA ok1 ok2 ok3 hmL
                  clear c0 c1 c2' c3
                  go_wp2_with fail
                  refine cPl.mono ?_
                  rintro e y9 ⟨rfl, bits2, d2, vb2, vd2, E9⟩
                  have cR := Room_any b2 nb2 mb2 n bits2 d2.reverse y9 E9.p
                  have cR2 := fun w' (h : RpAt w' v.heap.size q n vb2 vd2 bits2 d2) => rRoom_any w' h
                  have cU := fun w' (h : PoolAt w' b2 nb2 mb2 n bits2 d2.reverse) => Used_any b2 nb2 mb2 n bits2 d2.reverse w' h
                  have cU2 := fun w' (h : RpAt w' v.heap.size q n vb2 vd2 bits2 d2) => rUsed_any w' h
                  have hUs : usedS d2.reverse = usedR (bits2.length / (2 * n)) d2 := by rw [usedS_eq E9.p.un E9.p.ub, usedR_rev]
                  have hUl := usedR_len (bits2.length / (2 * n)) d2
                  have hR6 : bits2.length / (2 * n) ≤ 65536 := Nat.le_trans (Nat.div_le_self _ _) E9.p.bl
                  simp only [hUs] at cU
                  generalize usedR (bits2.length / (2 * n)) d2 = U at *
                  generalize bits2.length / (2 * n) = R at *
                  have HU := Lib.hid (Nat.le_trans hUl hR6)
                  clear z0 z1 z2 z3 cPl hUs hUl
                  go_wp2_with fail
                  refine cR.mono ?_
                  rintro e y10 ⟨rfl, hy10⟩
                  have E10 := E9.below hy10
                  clear cR
                  go_wp2_with fail
                  refine (cR2 _ E10.r).mono ?_
                  rintro e y11 ⟨rfl, hy11⟩
                  have E11 := E10.below hy11
                  clear cR2
                  go_wp2_with fail
                  refine (cU _ E11.p).mono ?_
                  rintro e y12 ⟨vu, rfl, ou, hy12⟩
                  have E12 := E11.below hy12
                  obtain ⟨Au, cu, rfl, _, _, _, aru⟩ := ou.form encI_len
                  clear cU ou
                  go_wp2_with fail
                  refine (cU2 _ E12.r).mono ?_
                  rintro e y13 ⟨vr, rfl, orr, hy13⟩
                  have E13 := E12.below hy13
                  obtain ⟨Ar, cr, rfl, _, _, _, arr⟩ := orr.form encI_len
                  clear cU2 orr
                  go_wp2_with fail
                  refine (ints_same Au Ar cu cr U y13 (aru.on hy13) arr HU.out).mono ?_
                  rintro e y14 ⟨rfl, hy14⟩
                  have E14 := E13.below hy14
                  go_wp2_with fail
                  exact ⟨⟨k + 1, b2, nb2, mb2, bits2, d2, vb2, vd2, by omega, by go_num, rfl, E14⟩, by simp [intOf]; omega⟩
                · have hE' : (nxE n bits' d.reverse 0 == 0) = false := by simpa using hE
                  generalize nxE n bits' d.reverse 0 = E at *
                  generalize nxI n bits' d.reverse 0 = N at *
                  have D11 : Duo v w9 b2 nb2 mb2 q n bits' d.reverse vb vd bits' d := duo_new D9.r D9.hb pc9 (.inl hq8) (fun g hg => .inl (hg.elim (hvb g) (hvd g))) hlo
                  clear hns hE D9 pc9 hvb hvd hq8 hmb hlo
                  have c0 := trivial; have c1 := trivial; have c2' := trivial; have c3 := trivial
                  obtain ⟨cb2, co2, x2, hC2, _, hx2, z0, z1, z2, z3⟩ := hC.stp hlt D11.hb
                  cases hC2
                  obtain rfl : x2 = x := Option.some.inj (hx2.out.symm.trans hx.out)
                  have cPl := play_any D11 x2.Do x2.Nm x2.A x2.c x2.m x2.t okA ok1 ok2 ok3 hmL
                  clear c0 c1 c2' c3
                  go_wp2_with fail
                  refine cPl.mono ?_
                  rintro e y9 ⟨rfl, bits2, d2, vb2, vd2, E9⟩
                  have cR := Room_any b2 nb2 mb2 n bits2 d2.reverse y9 E9.p
                  have cR2 := fun w' (h : RpAt w' v.heap.size q n vb2 vd2 bits2 d2) => rRoom_any w' h
                  have cU := fun w' (h : PoolAt w' b2 nb2 mb2 n bits2 d2.reverse) => Used_any b2 nb2 mb2 n bits2 d2.reverse w' h
                  have cU2 := fun w' (h : RpAt w' v.heap.size q n vb2 vd2 bits2 d2) => rUsed_any w' h
                  have hUs : usedS d2.reverse = usedR (bits2.length / (2 * n)) d2 := by rw [usedS_eq E9.p.un E9.p.ub, usedR_rev]
                  have hUl := usedR_len (bits2.length / (2 * n)) d2
                  have hR6 : bits2.length / (2 * n) ≤ 65536 := Nat.le_trans (Nat.div_le_self _ _) E9.p.bl
                  simp only [hUs] at cU
                  generalize usedR (bits2.length / (2 * n)) d2 = U at *
                  generalize bits2.length / (2 * n) = R at *
                  have HU := Lib.hid (Nat.le_trans hUl hR6)
                  clear z0 z1 z2 z3 cPl hUs hUl
                  go_wp2_with fail
                  refine cR.mono ?_
                  rintro e y10 ⟨rfl, hy10⟩
                  have E10 := E9.below hy10
                  clear cR
                  go_wp2_with fail
                  refine (cR2 _ E10.r).mono ?_
                  rintro e y11 ⟨rfl, hy11⟩
                  have E11 := E10.below hy11
                  clear cR2
                  go_wp2_with fail
                  refine (cU _ E11.p).mono ?_
                  rintro e y12 ⟨vu, rfl, ou, hy12⟩
                  have E12 := E11.below hy12
                  obtain ⟨Au, cu, rfl, _, _, _, aru⟩ := ou.form encI_len
                  clear cU ou
                  go_wp2_with fail
                  refine (cU2 _ E12.r).mono ?_
                  rintro e y13 ⟨vr, rfl, orr, hy13⟩
                  have E13 := E12.below hy13
                  obtain ⟨Ar, cr, rfl, _, _, _, arr⟩ := orr.form encI_len
                  clear cU2 orr
                  go_wp2_with fail
                  refine (ints_same Au Ar cu cr U y13 (aru.on hy13) arr HU.out).mono ?_
                  rintro e y14 ⟨rfl, hy14⟩
                  have E14 := E13.below hy14
                  go_wp2_with fail
                  exact ⟨⟨k + 1, b2, nb2, mb2, bits2, d2, vb2, vd2, by omega, by go_num, rfl, E14⟩, by simp [intOf]; omega⟩
          · have hkl : k = st.length := by omega
            subst hkl
            have hb := D.hb
            go_wp2_with (go_at_call 6; refine (cK _ hb).mono ?_; rintro e w5 ⟨rfl, hb5⟩)
            go_ret
            exact ⟨rfl, below_trans hb hb5⟩

end Go.Proofs.YtpejoghdmkpfcaaGreatDoor
