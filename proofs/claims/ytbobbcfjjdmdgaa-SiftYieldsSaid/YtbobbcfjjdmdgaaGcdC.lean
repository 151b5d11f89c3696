/- Contract of exact's common. For numbers of at most 1000 limbs. -/
import Derived.Test.YtbobbcfjjdmdgaaGcdB
import Derived.Deep.DeepCutAuto
import Derived.Deep.CutBlock
namespace Go.Proofs.Ytbobbcfjjdmdgaa
open Go.RowKit
set_option linter.unusedVariables false
set_option linter.unusedSimpArgs false

/-- The number that a slice of limbs shows. -/
def numIn (w : World) (v : Value) : Nat :=
  match v with
  | .slice (some a) n _ =>
    match w.heap[a.block]? with
    | some (.cells cur _ _) => V ((cur.toList.take n).map fun u => match u with | .int _ z => z.toNat | _ => 0)
    | _ => 0
  | _ => 0
theorem numIn_big {w : World} {B x : Nat} {v : Value} (h : Big w B v x) : numIn w v = x := by
  rcases h.2 with ⟨hv, h0⟩ | ⟨g, cap, cur, hv, _, hg, _, _, _, ht⟩
  · subst hv
    have := limbs_none h0
    subst this
    rfl
  · subst hv
    have e : cur.toList.take (limbs x).length = (limbs x).flatMap enc32 := by simpa using ht
    simp only [numIn, hg]
    rw [e]
    have : ((limbs x).flatMap enc32).map (fun u => match u with | Value.int _ z => z.toNat | _ => 0) = limbs x := by
      induction limbs x with
      | nil => rfl
      | cons y t ih => simp [enc32] at ih ⊢; exact ih
    rw [this, V_limbs]

theorem big_nt {w : World} {B g n c x : Nat} (h : Big w B (.slice (some ⟨g, 0, none⟩) n c) x) : n = (limbs x).length ∧ Nt w (some ⟨g, 0, none⟩) c (limbs x) := by
  obtain ⟨A1, c1, hv, hn⟩ := h.nt
  simp only [Value.slice.injEq] at hv
  obtain ⟨rfl, h2, rfl⟩ := hv
  exact ⟨h2, hn⟩
theorem limbs_pos {x : Nat} (h : 0 < (limbs x).length) : 0 < x := Nat.pos_of_ne_zero fun e => by subst e; rw [limbs_zero] at h; exact Nat.lt_irrefl _ h
/-- minus, of two numbers of the call's own. -/
theorem minus_two (B : Nat) (va vb : Value) (x y : Nat) (w : World) (h : Two w B va vb x y) (hle : y ≤ x) (hx : (limbs x).length ≤ 1000) (hB : B ≤ w.heap.size) :
    Calls Try.prog 168 #[va, vb] w fun e w' => ∃ v, e = .returned v ∧ Two w' B v vb (x - y) y ∧ Below w.heap.size w w' := by
  obtain ⟨A1, c1, rfl, n1⟩ := h.a.nt
  obtain ⟨A2, c2, rfl, n2⟩ := h.b.nt
  have hy := limbs_mono hle
  have c := minus_any A1 c1 _ A2 c2 _ w n1 n2 (by omega) (by omega) (by rw [V_limbs, V_limbs]; exact hle)
  rw [V_limbs, V_limbs] at c
  refine c.mono ?_
  rintro e w' ⟨v, rfl, b1, hb⟩
  exact ⟨v, rfl, ⟨b1.down hB, h.b.below hb, ap_low h.b b1⟩, hb⟩
/-- order, of two numbers. -/
theorem order_two (B : Nat) (va vb : Value) (x y : Nat) (w : World) (h : Two w B va vb x y) :
    Calls Try.prog 55 #[va, vb] w fun e w' => e = .returned (.int .i64 (cmpI x y)) ∧ Below w.heap.size w w' := by
  obtain ⟨A1, c1, rfl, n1⟩ := h.a.nt
  obtain ⟨A2, c2, rfl, n2⟩ := h.b.nt
  have c := order_any A1 c1 _ A2 c2 _ w n1.arr n2.arr n1.len n1.cap n2.len n2.cap n1.dig n2.dig
  rw [V_limbs, V_limbs] at c
  exact c
theorem Two.on {w w' : World} {B : Nat} {va vb : Value} {x y : Nat} (h : Two w B va vb x y) (hb : Below w.heap.size w w') : Two w' B va vb x y := ⟨h.a.below hb, h.b.below hb, h.ap⟩
theorem bit_two {w : World} {B g c x p : Nat} (h : Big w B (.slice (some ⟨g, 0, none⟩) (limbs x).length c) x) (hx : 0 < (limbs x).length) (hl : (limbs x).length ≤ 1000000) (hp : x % 2 = p) :
    Calls Try.prog 175 #[.slice (some ⟨g, 0, none⟩) (limbs x).length c, .int .i64 0] w fun e w' => e = .returned (.int .u32 (p : Int)) ∧ w = w' := by
  have hb := bit_any _ c (limbs x) 0 w (big_nt h).2 hl (by omega)
  rw [V_limbs, Nat.pow_zero, Nat.div_one, hp] at hb
  exact hb

set_option maxRecDepth 100000 in
set_option maxHeartbeats 4000000 in
theorem common_any (A : Option Addr) (c : Nat) (l : List Nat) (C : Option Addr) (d : Nat) (m : List Nat) (w : World) (hA : Nt w A c l) (hC : Nt w C d m) (hl : l.length ≤ 1000) (hm : m.length ≤ 1000) :
    Calls Try.prog 170 #[.slice A l.length c, .slice C m.length d] w fun e w' => ∃ v, e = .returned v ∧ Big w' w.heap.size v (Nat.gcd (V l) (V m)) ∧ Below w.heap.size w w' := by
  obtain ⟨i0, hi, hz0, hz1, hz2⟩ := info_parts u32_info
  have cA := clone_any A c l w hA (by omega)
  have cC := fun w' hb => clone_any C d m w' (hC.on hb) (by omega)
  have kX := limbs_le hA.dig
  have kY := limbs_le hC.dig
  have bX := V_le_len hA.dig
  obtain ⟨X, hX⟩ : ∃ X, V l = X := ⟨_, rfl⟩
  obtain ⟨Y, hY⟩ : ∃ Y, V m = Y := ⟨_, rfl⟩
  rw [hX] at cA kX bX
  rw [hX, hY]
  simp only [hY] at cC kY
  go_enter Try.func170, Try.ntmps170
  go_wp2_with fail
  refine cA.mono ?_
  rintro e w1 ⟨va, rfl, ba, hb1⟩
  go_wp2_with fail
  refine (cC w1 hb1).mono ?_
  rintro e w2 ⟨vb, rfl, bb, hb2⟩
  have apab := (ap_low ba bb).symm
  have two : Two w2 w.heap.size va vb X Y := ⟨ba.below hb2, bb.down hb1.size, apab⟩
  have hb12 := below_trans hb1 hb2
  obtain ⟨A1, c1, hva, _⟩ := ba.nt
  obtain ⟨A2, c2, hvb, _⟩ := bb.nt
  clear ba bb apab cA cC hb1 hb2
  by_cases x0 : (limbs X).length = 0
  · have x00 := limbs_none x0
    have two' := Lib.hid two
    subst hva hvb
    rw [x0]
    clear two
    go_wp2_with fail
    go_ret
    subst x00
    rw [Nat.gcd_zero_left]
    exact ⟨_, rfl, two'.out.b, hb12⟩
  by_cases y0 : (limbs Y).length = 0
  · have y00 := limbs_none y0
    have two' := Lib.hid two
    subst hva hvb
    clear two
    rw [y0]
    go_wp2_with fail
    go_ret
    subst y00
    rw [Nat.gcd_zero_right]
    exact ⟨_, rfl, two'.out.a, hb12⟩
  have xp : 0 < X := Nat.pos_of_ne_zero fun h => x0 (by rw [h, limbs_zero]; rfl)
  have x0b : (((limbs X).length : Int) == 0) = false := by rw [beq_eq_false_iff_ne]; omega
  have y0b : (((limbs Y).length : Int) == 0) = false := by rw [beq_eq_false_iff_ne]; omega
  have yp : 0 < Y := Nat.pos_of_ne_zero fun h => y0 (by rw [h, limbs_zero]; rfl)
  have kX2 : (limbs X).length ≤ 1000 := by omega
  have kY2 : (limbs Y).length ≤ 1000 := by omega
  obtain ⟨G, hG⟩ : ∃ G, Nat.gcd X Y = G := ⟨_, rfl⟩
  have hTw : Tw X Y X Y 0 := ⟨by simp, by simp⟩
  subst hva hvb
  have XLT : Hid (X < B32 ^ l.length) := Lib.hid (by rw [← hX]; exact valB_lt hA.dig)
  clear bX hX hY
  have HG := Lib.hid hG
  clear hG
  go_upto_block 0 with fail
  go_cut [0, 1, 5] (fun va vb i wr => ∃ (x y t : Nat), i = .int .i64 t ∧ t ≤ 32000 ∧ Hid (Tw X Y x y t) ∧ Hid (¬ (x % 2 = 0 ∧ y % 2 = 0)) ∧ 0 < x ∧ 0 < y ∧ x ≤ X ∧ y ≤ Y ∧ Two wr w.heap.size va vb x y ∧ Below w.heap.size w wr)
  case first =>
    go_wp2_with fail
    go_loopw [0, 1, 5] (fun va vb i wr => ∃ (x y t : Nat), i = .int .i64 t ∧ t ≤ 32000 ∧ Hid (Tw X Y x y t) ∧ 0 < x ∧ 0 < y ∧ x ≤ X ∧ y ≤ Y ∧ Two wr w.heap.size va vb x y ∧ Below w.heap.size w wr) (fun _ _ i _ => 32001 - (intOf i).toNat)
    case atStart => exact ⟨X, Y, 0, rfl, by omega, Lib.hid hTw, xp, yp, Nat.le_refl _, Nat.le_refl _, two, hb12⟩
    case round =>
      obtain ⟨x, y, t, rfl, ht, tw, x1, y1, xX, yY, tt, hb⟩ := hrel
      obtain ⟨g1, c1', rfl, hg1, lx⟩ := big_shape tt.a x1
      obtain ⟨g2, c2', rfl, hg2, ly⟩ := big_shape tt.b y1
      have kx := limbs_mono xX
      have ky := limbs_mono yY
      obtain ⟨p, hp⟩ : ∃ p, x % 2 = p := ⟨_, rfl⟩
      obtain ⟨q, hq⟩ : ∃ q, y % 2 = q := ⟨_, rfl⟩
      have cBx := bit_two tt.a lx (by omega) hp
      have cBy := bit_two tt.b ly (by omega) hq
      have hp2 : p = 0 ∨ p = 1 := by omega
      have hq2 : q = 0 ∨ q = 1 := by omega
      have Hp := Lib.hid hp
      have Hq := Lib.hid hq
      have Tt := Lib.hid tt
      clear hp hq tt
      rcases hp2 with rfl | rfl
      · rcases hq2 with rfl | rfl
        · have cH := half_two w.heap.size _ _ x y wr Tt.out x1 (by omega)
          have t32 := tw.out.lt x1 XLT.out
          have tw' := Lib.hid (tw.out.next Hp.out Hq.out)
          have x2 : 0 < x / 2 := by have := Hp.out; omega
          have y2 : 0 < y / 2 := by have := Hq.out; omega
          have Q1 := Lib.hid (show x / 2 ≤ X by omega)
          have Q2 := Lib.hid (show y / 2 ≤ Y by omega)
          go_wp2_with (first
            | (go_at_call 175; refine Calls.on (args' := #[.slice (some ⟨g1, 0, none⟩) (limbs x).length c1', .int .i64 0]) rfl ?_; refine cBx.mono ?_; rintro e w' ⟨rfl, rfl⟩)
            | (go_at_call 175; refine Calls.on (args' := #[.slice (some ⟨g2, 0, none⟩) (limbs y).length c2', .int .i64 0]) rfl ?_; refine cBy.mono ?_; rintro e w' ⟨rfl, rfl⟩))
          refine cH.mono ?_
          rintro e w5 ⟨v5, rfl, t5, hb5⟩
          have b5 := hb5 w.heap.size (Nat.le_refl _)
          go_wp2_with fail
          refine (half_two w.heap.size _ _ y (x / 2) w5 t5.swap y1 (by omega)).mono ?_
          rintro e w6 ⟨v6, rfl, t6, hb6⟩
          have b6 := hb6 w.heap.size (Nat.le_refl _)
          go_wp2_with fail
          go_roundw
          case rel => exact ⟨x / 2, y / 2, t + 1, by go_num, by omega, tw', x2, y2, Q1.out, Q2.out, t6.swap, (hb.trans b5).trans b6⟩
          case measure => (simp [intOf] <;> omega)
        · go_wp2_with (first
            | (go_at_call 175; refine Calls.on (args' := #[.slice (some ⟨g1, 0, none⟩) (limbs x).length c1', .int .i64 0]) rfl ?_; refine cBx.mono ?_; rintro e w' ⟨rfl, rfl⟩)
            | (go_at_call 175; refine Calls.on (args' := #[.slice (some ⟨g2, 0, none⟩) (limbs y).length c2', .int .i64 0]) rfl ?_; refine cBy.mono ?_; rintro e w' ⟨rfl, rfl⟩))
          go_meet
          case rel => exact ⟨x, y, t, rfl, ht, tw, Lib.hid (by have := Hq.out; omega), x1, y1, xX, yY, Tt.out, hb⟩
      · go_wp2_with (first
            | (go_at_call 175; refine Calls.on (args' := #[.slice (some ⟨g1, 0, none⟩) (limbs x).length c1', .int .i64 0]) rfl ?_; refine cBx.mono ?_; rintro e w' ⟨rfl, rfl⟩)
            | (go_at_call 175; refine Calls.on (args' := #[.slice (some ⟨g2, 0, none⟩) (limbs y).length c2', .int .i64 0]) rfl ?_; refine cBy.mono ?_; rintro e w' ⟨rfl, rfl⟩))
        go_meet
        case rel => exact ⟨x, y, t, rfl, ht, tw, Lib.hid (by have := Hp.out; omega), x1, y1, xX, yY, Tt.out, hb⟩
  obtain ⟨x, y, t, rfl, ht, tw, hno, x1, y1, xX, yY, tt, hb⟩ := hcut
  obtain ⟨M, kM, xM, yM⟩ : ∃ M, (limbs M).length ≤ 1000 ∧ X ≤ M ∧ Y ≤ M := by
    rcases Nat.le_total X Y with h | h
    · exact ⟨Y, kY2, h, Nat.le_refl _⟩
    · exact ⟨X, kX2, Nat.le_refl _, h⟩
  have xM2 : x ≤ M := Nat.le_trans xX xM
  have yM2 : y ≤ M := Nat.le_trans yY yM
  obtain ⟨D, hD⟩ : ∃ D, Nat.gcd x y = D := ⟨_, rfl⟩
  have hodd := gcd_odd hno.out
  rw [hD] at hodd
  have Hodd := Lib.hid hodd
  have HD := Lib.hid hD
  have hGD : Hid (Nat.gcd X Y = 2 ^ t * D) := Lib.hid (by rw [tw.out.1, hD])
  clear hodd hD hno tw xX yY hTw two hb12
  obtain ⟨w3, rfl⟩ : ∃ w3, w3 = wc := ⟨_, rfl⟩
  go_upto_block 2 with fail
  go_cut [0, 1] (fun va vb wr => Big wr w.heap.size vb D ∧ Below w.heap.size w wr)
  case first =>
    go_wp2_with fail
    go_loopw [0, 1] (fun va vb wr => ∃ (x2 y2 : Nat), Hid (Nat.gcd x2 y2 = D) ∧ 0 < y2 ∧ x2 ≤ M ∧ y2 ≤ M ∧ Two wr w.heap.size va vb x2 y2 ∧ Below w.heap.size w wr) (fun va vb wr => numIn wr va + numIn wr vb)
    case atStart => exact ⟨x, y, HD, y1, xM2, yM2, tt, hb⟩
    case round =>
      obtain ⟨x2, y2, hg, y20, x2M, y2M, t2, hb2⟩ := hrel
      obtain ⟨w4, rfl⟩ : ∃ w4, w4 = wr := ⟨_, rfl⟩
      by_cases x00 : x2 = 0
      · subst x00
        have e0 : (limbs 0).length = 0 := by rw [limbs_zero]; rfl
        obtain ⟨A3, c3, hv3, _⟩ := t2.a.nt
        rw [e0] at hv3
        have eD : y2 = D := by have := hg.out; rwa [Nat.gcd_zero_left] at this
        subst eD
        have T2 := Lib.hid t2.b
        clear t2
        subst hv3
        go_wp2_with fail
        go_meet
        case rel => exact ⟨T2.out, hb2⟩
      · have M1 := numIn_big t2.a
        have M2 := numIn_big t2.b
        have Meas := Lib.hid (show numIn w4 u0 + numIn w4 u1 = x2 + y2 by rw [M1, M2])
        clear M1 M2
        have x20 : 0 < x2 := by omega
        obtain ⟨g1, c1', hu0, hg1, lx⟩ := big_shape t2.a x20
        obtain ⟨g2, c2', hu1, hg2, ly⟩ := big_shape t2.b y20
        subst hu0 hu1
        have kx := limbs_mono x2M
        have ky := limbs_mono y2M
        have hB4 := hb2.size
        go_upto_block 4 with fail
        go_cut [0] (fun va wr => ∃ x3, Hid (Nat.gcd x3 y2 = D) ∧ Hid (x3 % 2 = 1) ∧ 0 < x3 ∧ x3 ≤ x2 ∧ Two wr w.heap.size va (.slice (some ⟨g2, 0, none⟩) (limbs y2).length c2') x3 y2 ∧ Below w.heap.size w wr)
        case first =>
          go_wp2_with fail
          go_loopw [0] (fun va wr => ∃ x3, Hid (Nat.gcd x3 y2 = D) ∧ 0 < x3 ∧ x3 ≤ x2 ∧ Two wr w.heap.size va (.slice (some ⟨g2, 0, none⟩) (limbs y2).length c2') x3 y2 ∧ Below w.heap.size w wr) (fun va wr => numIn wr va)
          case atStart => exact ⟨x2, hg, x20, Nat.le_refl _, t2, hb2⟩
          case round =>
            obtain ⟨x3, hg3, x30, x32, t3, hb3⟩ := hrel
            have M1 := Lib.hid (numIn_big t3.a)
            obtain ⟨g3, c3', rfl, hg3', lx3⟩ := big_shape t3.a x30
            have k3 := limbs_mono x32
            obtain ⟨p, hp⟩ : ∃ p, x3 % 2 = p := ⟨_, rfl⟩
            have cB := bit_two t3.a lx3 (by omega) hp
            have hp2 : p = 0 ∨ p = 1 := by omega
            have Hp := Lib.hid hp
            have T3 := Lib.hid t3
            clear hp t3
            rcases hp2 with rfl | rfl
            · go_wp2_with (go_at_call 175; refine cB.mono ?_; rintro e w' ⟨rfl, rfl⟩)
              refine (half_two w.heap.size _ _ x3 y2 wr T3.out x30 (by omega)).mono ?_
              rintro e w5 ⟨v5, rfl, t5, hb5⟩
              have b5 := hb5 w.heap.size (Nat.le_refl _)
              have hg5 : Hid (Nat.gcd (x3 / 2) y2 = D) := Lib.hid (by rw [gcd_halfl (by rw [hg3.out]; exact Hodd.out) Hp.out]; exact hg3.out)
              have x5 : 0 < x3 / 2 := by have := Hp.out; omega
              have Q1 := Lib.hid (show x3 / 2 ≤ x2 by omega)
              have M5 := Lib.hid (numIn_big t5.a)
              go_wp2_with fail
              go_roundw
              case rel => exact ⟨x3 / 2, hg5, x5, Q1.out, t5, hb3.trans b5⟩
              case measure => rw [M1.out, M5.out]; omega
            · go_wp2_with (go_at_call 175; refine cB.mono ?_; rintro e w' ⟨rfl, rfl⟩)
              go_meet
              case rel => exact ⟨x3, hg3, Hp, x30, x32, T3.out, hb3⟩
        obtain ⟨x3, hg3, ho3, x30, x32, t3, hb3⟩ := hcut
        obtain ⟨w5, rfl⟩ : ∃ w5, w5 = wc := ⟨_, rfl⟩
        go_upto_block 6 with fail
        go_cut [1] (fun vb wr => ∃ y3, Hid (Nat.gcd x3 y3 = D) ∧ 0 < y3 ∧ y3 ≤ y2 ∧ Two wr w.heap.size u0 vb x3 y3 ∧ Below w.heap.size w wr)
        case first =>
          go_wp2_with fail
          go_loopw [1] (fun vb wr => ∃ y3, Hid (Nat.gcd x3 y3 = D) ∧ 0 < y3 ∧ y3 ≤ y2 ∧ Two wr w.heap.size u0 vb x3 y3 ∧ Below w.heap.size w wr) (fun vb wr => numIn wr vb)
          case atStart => exact ⟨y2, hg3, y20, Nat.le_refl _, t3, hb3⟩
          case round =>
            obtain ⟨y3, hg4, y30, y32, t4, hb4⟩ := hrel
            have M1 := Lib.hid (numIn_big t4.b)
            obtain ⟨g4, c4', rfl, hg4', ly4⟩ := big_shape t4.b y30
            have k3 := limbs_mono y32
            obtain ⟨p, hp⟩ : ∃ p, y3 % 2 = p := ⟨_, rfl⟩
            have cB := bit_two t4.b ly4 (by omega) hp
            have hp2 : p = 0 ∨ p = 1 := by omega
            have Hp := Lib.hid hp
            have T4 := Lib.hid t4
            clear hp t4
            rcases hp2 with rfl | rfl
            · go_wp2_with (go_at_call 175; refine cB.mono ?_; rintro e w' ⟨rfl, rfl⟩)
              refine (half_two w.heap.size _ _ y3 x3 wr T4.out.swap y30 (by omega)).mono ?_
              rintro e w7 ⟨v5, rfl, t5, hb5⟩
              have b5 := hb5 w.heap.size (Nat.le_refl _)
              have hg5 : Hid (Nat.gcd x3 (y3 / 2) = D) := Lib.hid (by rw [gcd_halfr (by rw [hg4.out]; exact Hodd.out) Hp.out]; exact hg4.out)
              have x5 : 0 < y3 / 2 := by have := Hp.out; omega
              have Q1 := Lib.hid (show y3 / 2 ≤ y2 by omega)
              have M5 := Lib.hid (numIn_big t5.a)
              go_wp2_with fail
              go_roundw
              case rel => exact ⟨y3 / 2, hg5, x5, Q1.out, t5.swap, hb4.trans b5⟩
              case measure => rw [M1.out, M5.out]; omega
            · go_wp2_with (go_at_call 175; refine cB.mono ?_; rintro e w' ⟨rfl, rfl⟩)
              go_meet
              case rel => exact ⟨y3, hg4, y30, y32, T4.out, hb4⟩
        obtain ⟨y3, hg4, y30, y32, t4, hb4⟩ := hcut
        obtain ⟨w6, rfl⟩ : ∃ w6, w6 = wc := ⟨_, rfl⟩
        have k3 := limbs_mono x32
        have k4 := limbs_mono y32
        have cO := order_two _ _ _ _ _ _ t4
        by_cases hlt : x3 < y3
        · rw [cmpI_lt hlt] at cO
          have T4 := Lib.hid t4
          clear t4
          have m1 := limbs_mono y2M
          go_wp2_with (go_at_call 55; refine (cO).mono ?_; rintro e w7 ⟨rfl, hb7⟩)
          have hg7 : Hid (Nat.gcd (y3 - x3) x3 = D) := Lib.hid (by rw [gcd_minus (Nat.le_of_lt hlt), Nat.gcd_comm]; exact hg4.out)
          have b67 := hb4.trans (hb7.mono hb4.size)
          have Q1 := Lib.hid (show y3 - x3 ≤ M ∧ x3 ≤ M ∧ y3 - x3 + x3 < x2 + y2 by omega)
          refine (minus_two w.heap.size _ _ y3 x3 w7 (T4.out.swap.on hb7) (Nat.le_of_lt hlt) (by omega) b67.size).mono ?_
          rintro e w8 ⟨v8, rfl, t8, hb8⟩
          have b8 := b67.trans (hb8.mono b67.size)
          have Ms := Lib.hid (show numIn w8 v8 + numIn w8 u0 = y3 - x3 + x3 by rw [numIn_big t8.a, numIn_big t8.b])
          go_wp2_with fail
          go_roundw
          case rel => exact ⟨y3 - x3, x3, hg7, x30, Q1.out.1, Q1.out.2.1, t8, b8⟩
          case measure => rw [Meas.out, Ms.out]; exact Q1.out.2.2
        · obtain ⟨o, ho, ho0⟩ : ∃ o, cmpI x3 y3 = o ∧ 0 ≤ o := by
            refine ⟨_, rfl, ?_⟩
            unfold cmpI
            rw [if_neg hlt]
            split <;> decide
          rw [ho] at cO
          have hle : y3 ≤ x3 := by omega
          have T4 := Lib.hid t4
          clear t4 ho
          have m1 := limbs_mono x2M
          go_wp2_with (go_at_call 55; refine (cO).mono ?_; rintro e w7 ⟨rfl, hb7⟩)
          have hg7 : Hid (Nat.gcd (x3 - y3) y3 = D) := Lib.hid (by rw [gcd_minus hle]; exact hg4.out)
          have b67 := hb4.trans (hb7.mono hb4.size)
          have Q1 := Lib.hid (show x3 - y3 ≤ M ∧ y3 ≤ M ∧ x3 - y3 + y3 < x2 + y2 by omega)
          refine (minus_two w.heap.size _ _ x3 y3 w7 (T4.out.on hb7) hle (by omega) b67.size).mono ?_
          rintro e w8 ⟨v8, rfl, t8, hb8⟩
          have b8 := b67.trans (hb8.mono b67.size)
          have Ms := Lib.hid (show numIn w8 v8 + numIn w8 u1 = x3 - y3 + y3 by rw [numIn_big t8.a, numIn_big t8.b])
          go_wp2_with fail
          go_roundw
          case rel => exact ⟨x3 - y3, y3, hg7, y30, Q1.out.1, Q1.out.2.1, t8, b8⟩
          case measure => rw [Meas.out, Ms.out]; exact Q1.out.2.2
  obtain ⟨bD, hb9⟩ := hcut
  obtain ⟨w9, rfl⟩ : ∃ w9, w9 = wc := ⟨_, rfl⟩
  have D0 : 0 < D := by have := Hodd.out; omega
  have kD : (limbs D).length ≤ 1000 := by
    have h1 : D ≤ y := Nat.le_of_dvd y1 (by rw [← HD.out]; exact Nat.gcd_dvd_right _ _)
    have := limbs_mono (Nat.le_trans h1 yM2)
    omega
  obtain ⟨g9, c9, rfl, hg9, lD⟩ := big_shape bD D0
  obtain ⟨_, nD⟩ := big_nt bD
  obtain ⟨q, hq⟩ : ∃ q : Nat, (t : Int) / 32 = (q : Int) := ⟨t / 32, by omega⟩
  obtain ⟨N, hN⟩ : ∃ N : Nat, ((limbs D).length : Int) + (q : Int) + 1 = (N : Int) := ⟨(limbs D).length + q + 1, by omega⟩
  have HN : Hid (N = (limbs D).length + q + 1) := Lib.hid (by omega)
  have Hq : Hid (q = t / 32) := Lib.hid (by omega)
  have n3 : N ≤ 3000 := by omega
  have n4 : (limbs D).length ≤ N := by omega
  go_wp2_with (first
    | (at_make; refine wpList_mk rfl _ _ 37 rfl 127 i0 _ 4 Try.underlying37 hi hz0 hz1 hz2 rfl (fun n : Nat => Value.int .u32 n) 0 rfl _ _ _ _ N rfl rfl (by omega) (by omega) (by omega) (by unfold maxLen; omega) ?_; intro w10 hown10 hb10)
    | (refine wpList_cp rfl _ _ 37 37 rfl 127 Try.underlying37 u32_size (f := fun n : Nat => Value.int .u32 n) (fun _ => rfl) (m := limbs D) rfl rfl hown10 (by simp) (nD.arr.on hb10) n4 hb10 ?_; intro w11 hown11 hb11))
  have v11 : V (limbs D ++ List.drop (limbs D).length (List.replicate N 0)) = D := by
    rw [List.drop_replicate, V_app, V_rep, V_limbs, Nat.mul_zero, Nat.add_zero]
  have d11 : Dig B32 (limbs D ++ List.drop (limbs D).length (List.replicate N 0)) := (limbs_dig D).app (fun x hx => Dig.rep (b := B32) (by decide) N x (List.mem_of_mem_drop hx))
  have l11 : (limbs D ++ List.drop (limbs D).length (List.replicate N 0)).length = N := by
    rw [List.length_append, List.length_drop, List.length_replicate]; omega
  have b9 : Below w.heap.size w w11 := hb9.trans (hb11.mono hb9.size)
  have st := dbl_start HN.out Hq.out
  have sz9 := hb9.size
  generalize limbs D ++ List.drop (limbs D).length (List.replicate N 0) = L0 at *
  have St : Hid (Dbl D t 0 (V L0) N) := Lib.hid (by rw [v11]; exact st)
  have D11 := Lib.hid d11; have L11 := Lib.hid l11
  clear v11 d11 l11 st hN hq hown10
  go_loopw [66] (fun i wr => ∃ (k : Nat) (L : List Nat), k ≤ t ∧ i = .int .i64 k ∧ Hid (L.length = N) ∧ Hid (Dig B32 L) ∧ Hid (Dbl D t k (V L) N) ∧ Own wr w9.heap.size 127 1 enc32 (.slice (some ⟨w9.heap.size, 0, none⟩) N N) L ∧ Below w.heap.size w wr) (fun i _ => t - (intOf i).toNat)
  case atStart => exact ⟨0, L0, Nat.zero_le _, rfl, L11, D11, St, hown11, b9⟩
  case round =>
    obtain ⟨k, L, hk, rfl, hL, hd, hD, own, hbr⟩ := hrel
    by_cases hlt : k < t
    · have cD := double_any w9.heap.size L 0 w9.heap.size N wr own hL.out hd.out (by omega) (by decide)
      obtain ⟨r1, r2⟩ := hD.out.next hlt
      have R1 := Lib.hid r1; have R2 := Lib.hid r2
      clear r1 r2
      go_wp2_with fail
      refine cD.mono ?_
      rintro e w12 ⟨rfl, L', h, hL', hd', hv', own', gr'⟩
      have eV := dbl_room (L := N) (l := L) hL' hv' R1.out
      have bb : Below w.heap.size w w12 := hbr.grown gr' hbr.size (fun q hq => by cases hq; omega)
      have HL' := Lib.hid hL'; have Hd' := Lib.hid hd'
      have R3 : Hid (Dbl D t (k + 1) (V L') N) := Lib.hid (by rw [eV]; exact R2.out)
      clear hL' hd' hv' eV
      go_wp2_with fail
      go_roundw
      case rel => exact ⟨k + 1, L', by omega, by go_num, HL', Hd', R3, own', bb⟩
      case measure => simp [intOf]; omega
    · obtain rfl : k = t := by omega
      have nt := own_ntf own hd.out
      have cT := trim_nt nt
      rw [hL.out] at cT
      have bT := Own.trim own hd.out
      rw [trim_limbs hd.out] at bT
      have eV : V L = Nat.gcd X Y := by rw [hD.out.1, hGD.out, Nat.mul_comm]
      rw [eV] at cT bT
      have BT := Lib.hid (Big.down bT sz9)
      clear bT eV nt
      go_wp2_with (go_at_call 119; refine (cT).mono ?_; rintro e w' ⟨rfl, rfl⟩)
      go_ret
      exact ⟨_, rfl, BT.out, hbr⟩

end Go.Proofs.Ytbobbcfjjdmdgaa
