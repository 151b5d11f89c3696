/- Contracts of the generator's shuffle, Perm and Sample. For at most 65536 numbers. -/
import Derived.Test.YtbobbcfjjdmdgaaPrmP
import Derived.Test.YtbobbcfjjdmdgaaMade
import Derived.Test.YtbobbcfjjdmdgaaShelf
import Derived.Lib.SlKeysI
import Derived.RegionTactic
import Derived.ChangeAlike
namespace Go.Proofs.Ytbobbcfjjdmdgaa
open Go.RowKit
set_option linter.unusedVariables false
set_option linter.unusedSimpArgs false

theorem prm_step {i s : Nat} {l : List Int} (h : 0 < i) : prm (i + 1) s l = prm i (nxS s) (swp l i (nxY s % (i + 1))) := by
  obtain ⟨q, rfl⟩ : ∃ q, i = q + 1 := ⟨i - 1, by omega⟩
  rfl
theorem swp_set {l : List Int} {i j : Nat} {x y : Int} (hi : l[i]? = some x) (hj : l[j]? = some y) : swp l i j = (l.set i y).set j x := by
  unfold swp
  simp [List.getD, hi, hj]
theorem swp_same {l : List Int} {i : Nat} {x : Int} (hi : l[i]? = some x) : swp l i i = l.set i x := by
  rw [swp_set hi hi]; simp
set_option maxRecDepth 100000 in
set_option maxHeartbeats 2000000 in
theorem shuffle_any (g c b s n : Nat) (L : List Int) (w : World) (base B : Nat) (hn : L.length = n) (hn0 : 0 < n) (hm : n ≤ 65536) (own : Own w base 3 1 encI (.slice (some ⟨g, 0, none⟩) n c) L)
    (h0 : w.cell? ⟨b, 0, none⟩ = some (.int .u64 s)) (hf : w.frozen? ⟨b, 0, none⟩ = false) (h1 : w.cell? ⟨b, 1, none⟩ = some (.bool true)) (hbg : b ≠ g) (hBb : B ≤ b) (hBg : B ≤ g) :
    Calls Try.prog 198 #[.slice (some ⟨g, 0, none⟩) n c, .func (.func 199) #[.pointer (some ⟨b, 0, none⟩)] #[]] w fun e w' => e = .returned (.tuple #[]) ∧ Own w' base 3 1 encI (.slice (some ⟨g, 0, none⟩) n c) (prm n s L).2 ∧ Below B w w' := by
  obtain ⟨m, hnm⟩ : ∃ m, n = m + 1 := ⟨n - 1, by omega⟩
  have hnm' : (n : Int) - 1 = (m : Int) := by omega
  have mb : m ≤ 65536 := by omega
  have Hn := Lib.hid hn
  have Hnm := Lib.hid hnm
  clear hn hnm
  go_enter Try.func198, Try.ntmps198
  go_wp2_with fail
  go_loopw [4] (fun iv wr => ∃ (i s' : Nat) (L' : List Int), i + 1 ≤ n ∧ iv = .int .i64 i ∧ Hid (L'.length = n) ∧ Hid (prm (i + 1) s' L' = prm n s L) ∧ Own wr base 3 1 encI (.slice (some ⟨g, 0, none⟩) n c) L' ∧ wr.cell? ⟨b, 0, none⟩ = some (.int .u64 s') ∧ wr.frozen? ⟨b, 0, none⟩ = false ∧ wr.cell? ⟨b, 1, none⟩ = some (.bool true) ∧ Below B w wr) (fun iv _ => (intOf iv).toNat)
  case atStart => exact ⟨m, s, L, by have := Hnm.out; omega, rfl, Hn, Lib.hid (by rw [← Hnm.out]), own, h0, hf, h1, Below.refl _ _⟩
  case round =>
    obtain ⟨i, s', L', hi, rfl, hl, hinv, ow, z0, zf, z1, hb⟩ := hrel
    obtain ⟨w6, rfl⟩ : ∃ w6, w6 = wr := ⟨_, rfl⟩
    clear hnm' own h0 hf h1
    by_cases hi0 : i = 0
    · subst hi0
      go_wp2_with fail
      go_end0
      exact ⟨rfl, by rw [← hinv.out]; exact ow, hb⟩
    · have hi1 : 0 < i := by omega
      have g0 : decide ((0 : Int) < (i : Int)) = true := by simp; omega
      obtain ⟨q, hq⟩ : ∃ q, i = q + 1 := ⟨i - 1, by omega⟩
      have hq' : (i : Int) - 1 = (q : Int) := by omega
      have cN := Next_any b s' w6 z0 zf z1
      have hstep := hinv.out
      rw [prm_step hi1] at hstep
      obtain ⟨y, hy⟩ : ∃ y, nxY s' = y := ⟨_, rfl⟩
      have y64 : y < 2 ^ 64 := by rw [← hy]; exact nxY_lt s'
      have y63 : (y : Int) ≤ 18446744073709551615 := by omega
      obtain ⟨j, hj⟩ : ∃ j, y % (i + 1) = j := ⟨_, rfl⟩
      have hjl : j < i + 1 := by rw [← hj]; exact Nat.mod_lt _ (by omega)
      have jm : (y : Int) % ((i : Int) + 1) = (j : Int) := by rw [← hj]; simp
      have jt : (y : Int).tmod ((i : Int) + 1) = (j : Int) := by rw [← jm]; exact Int.tmod_eq_emod_of_nonneg (by omega)
      rw [hy, hj] at hstep
      rw [hy] at cN
      obtain ⟨xi, hxi⟩ : ∃ x, L'[i]? = some x := ⟨_, List.getElem?_eq_getElem (by rw [hl.out]; omega)⟩
      obtain ⟨xj, hxj⟩ : ∃ x, L'[j]? = some x := ⟨_, List.getElem?_eq_getElem (by rw [hl.out]; omega)⟩
      have jn : (j : Int) < (n : Int) := by omega
      have in_ : (i : Int) < (n : Int) := by omega
      have Hstep := Lib.hid hstep
      have Hxi := Lib.hid hxi; have Hxj := Lib.hid hxj; have Hq := Lib.hid hq
      clear hstep hy hj hxi hxj y64 hq
      go_wp2_with fail
      refine cN.mono ?_
      rintro e w7 ⟨rfl, nd, hw7⟩
      have bd : Below (w6.setCell ⟨b, 0, none⟩ (.int .u64 (nxS s'))).heap.size (w6.setCell ⟨b, 0, none⟩ (.int .u64 (nxS s'))) w7 := by rw [hw7]; exact ⟨rfl, rfl, rfl, Nat.le_refl _, fun _ _ => rfl⟩
      have ow7 : Own w7 base 3 1 encI (.slice (some ⟨g, 0, none⟩) n c) L' := (ow.keep (grown_setCell _ _ _ _) (.inr (fun e => hbg (by simpa [Value.ownBlock] using e.symm)))).below bd
      have y0 : w7.cell? ⟨b, 0, none⟩ = some (.int .u64 (nxS s')) := by rw [hw7]; exact World.cell?_setCell_same _ _ _ z0
      have yf : w7.frozen? ⟨b, 0, none⟩ = false := by rw [hw7]; exact (World.frozen?_setCell _ _ _ _).trans zf
      have y1 : w7.cell? ⟨b, 1, none⟩ = some (.bool true) := by rw [hw7]; exact (World.cell?_setCell_other _ _ _ _ (by simp)).trans z1
      have b7 : Below B w w7 := (hb.setCell (p := ⟨b, 0, none⟩) hBb _).trans (bd.mono (by have := hb.size; have := World.block_lt_of_cell? _ _ z0; simp at this ⊢; omega))
      have ci : w7.cell? ⟨g, i, none⟩ = some (.int .i64 xi) := Own.at1 (f := Value.int .i64) ow7 hl.out Hxi.out
      have cj : w7.cell? ⟨g, j, none⟩ = some (.int .i64 xj) := Own.at1 (f := Value.int .i64) ow7 hl.out Hxj.out
      have fi : w7.frozen? ⟨g, i, none⟩ = false := Own.fr1 (f := Value.int .i64) ow7 hl.out i
      have fj : w7.frozen? ⟨g, j, none⟩ = false := Own.fr1 (f := Value.int .i64) ow7 hl.out j
      have kill : ∀ (o : Nat) (x : Int), (w7.setCell ⟨g, o, none⟩ (.int .i64 x)).cell? ⟨b, 0, none⟩ = some (.int .u64 (nxS s')) ∧ (w7.setCell ⟨g, o, none⟩ (.int .i64 x)).frozen? ⟨b, 0, none⟩ = false ∧ (w7.setCell ⟨g, o, none⟩ (.int .i64 x)).cell? ⟨b, 1, none⟩ = some (.bool true) := fun o x =>
        ⟨(World.cell?_setCell_other _ _ _ _ (fun e => hbg (by injection e with e; exact e.symm))).trans y0, (World.frozen?_setCell _ _ _ _).trans yf, (World.cell?_setCell_other _ _ _ _ (fun e => hbg (by injection e with e; exact e.symm))).trans y1⟩
      have own8 := Own.set1 (f := Value.int .i64) (Own.set1 (f := Value.int .i64) ow7 hl.out i xj) (by rw [List.length_set]; exact hl.out) j xi
      rw [← swp_set Hxi.out Hxj.out] at own8
      have hl8 : (swp L' i j).length = n := by rw [swp_len]; exact hl.out
      have r0 := (World.cell?_setCell_other (w7.setCell ⟨g, i, none⟩ (.int .i64 xj)) ⟨g, j, none⟩ ⟨b, 0, none⟩ (.int .i64 xi) (fun e => hbg (by injection e with e; exact e.symm))).trans (kill i xj).1
      have r1 := (World.cell?_setCell_other (w7.setCell ⟨g, i, none⟩ (.int .i64 xj)) ⟨g, j, none⟩ ⟨b, 1, none⟩ (.int .i64 xi) (fun e => hbg (by injection e with e; exact e.symm))).trans (kill i xj).2.2
      have rf := (World.frozen?_setCell (w7.setCell ⟨g, i, none⟩ (.int .i64 xj)) ⟨g, j, none⟩ ⟨b, 0, none⟩ (.int .i64 xi)).trans (kill i xj).2.1
      have b8 : Below B w ((w7.setCell ⟨g, i, none⟩ (.int .i64 xj)).setCell ⟨g, j, none⟩ (.int .i64 xi)) := (b7.setCell (p := ⟨g, i, none⟩) hBg _).setCell (p := ⟨g, j, none⟩) hBg _
      have fin : Hid (∃ (i_1 s2 : Nat) (L2 : List Int), i_1 + 1 ≤ n ∧ Value.int IntKind.i64 ↑q = Value.int IntKind.i64 ↑i_1 ∧ Hid (L2.length = n) ∧ Hid (prm (i_1 + 1) s2 L2 = prm n s L) ∧
        Own ((w7.setCell ⟨g, i, none⟩ (.int .i64 xj)).setCell ⟨g, j, none⟩ (.int .i64 xi)) base 3 1 encI (.slice (some ⟨g, 0, none⟩) n c) L2 ∧
        ((w7.setCell ⟨g, i, none⟩ (.int .i64 xj)).setCell ⟨g, j, none⟩ (.int .i64 xi)).cell? ⟨b, 0, none⟩ = some (.int .u64 s2) ∧ ((w7.setCell ⟨g, i, none⟩ (.int .i64 xj)).setCell ⟨g, j, none⟩ (.int .i64 xi)).frozen? ⟨b, 0, none⟩ = false ∧
        ((w7.setCell ⟨g, i, none⟩ (.int .i64 xj)).setCell ⟨g, j, none⟩ (.int .i64 xi)).cell? ⟨b, 1, none⟩ = some (.bool true) ∧ Below B w ((w7.setCell ⟨g, i, none⟩ (.int .i64 xj)).setCell ⟨g, j, none⟩ (.int .i64 xi))) :=
        Lib.hid ⟨q, nxS s', swp L' i j, by omega, rfl, Lib.hid hl8, Lib.hid (by rw [← Hq.out]; exact Hstep.out), own8, r0, rf, r1, b8⟩
      clear own8 hl8 r0 r1 rf b8 hw7 bd z0 zf z1 cN hb ow y0 yf y1 kill
      by_cases hij : j = i
      · subst hij
        obtain rfl : xi = xj := Option.some.inj (Hxi.out.symm.trans Hxj.out)
        have cs : (w7.setCell ⟨g, j, none⟩ (.int .i64 xi)).cell? ⟨g, j, none⟩ = some (.int .i64 xi) := World.cell?_setCell_same _ _ _ ci
        go_wp2_with fail
        go_region
        all_goals (
          go_wp2_with fail
          obtain ⟨i_1, s2, L2, f1, f2, f3, f4, f5, f6, f7, f8, f9⟩ := fin.out
          exact ⟨⟨i_1, s2, L2, f1, f2, f3, f4, f5, f6, f7, f8, f9.drew⟩, by simp [intOf]; omega⟩)
      · have hij' : (j : Int) ≠ (i : Int) := by omega
        have ij1 : (⟨g, j, none⟩ : Addr) ≠ ⟨g, i, none⟩ := fun e => hij (by injection e)
        have ij2 : (⟨g, i, none⟩ : Addr) ≠ ⟨g, j, none⟩ := fun e => hij (by injection e with _ e; exact e.symm)
        go_wp2_with fail
        go_region
        all_goals (
          go_wp2_with fail
          obtain ⟨i_1, s2, L2, f1, f2, f3, f4, f5, f6, f7, f8, f9⟩ := fin.out
          exact ⟨⟨i_1, s2, L2, f1, f2, f3, f4, f5, f6, f7, f8, f9.drew⟩, by simp [intOf]; omega⟩)

theorem prm_nil (s : Nat) (l : List Int) : prm 0 s l = (s, l) := rfl
set_option maxHeartbeats 1000000 in
theorem shuffle_zero (g c : Nat) (f : Value) (w : World) : Calls Try.prog 198 #[.slice (some ⟨g, 0, none⟩) 0 c, f] w fun e w' => e = .returned (.tuple #[]) ∧ w = w' := by
  go_enter Try.func198, Try.ntmps198
  go_wp2_with fail
  go_loopw [4] (fun iv wr => iv = .int .i64 (-1) ∧ wr = w) (fun _ _ => 0)
  case atStart => exact ⟨rfl, rfl⟩
  case round =>
    obtain ⟨rfl, rfl⟩ := hrel
    go_wp2_with fail
    go_end0
    exact ⟨rfl, rfl⟩
theorem int_info5 : (Try.prog.info? 3).map (fun i => (i.zero, i.size, i.bytes)) = some (some (.int .i64 0), 1, 8) := by kernel_rfl
set_option maxRecDepth 100000 in
set_option maxHeartbeats 2000000 in
theorem Perm_any (b s n B : Nat) (w : World) (hn : n ≤ 65536) (h0 : w.cell? ⟨b, 0, none⟩ = some (.int .u64 s)) (hf : w.frozen? ⟨b, 0, none⟩ = false) (h1 : w.cell? ⟨b, 1, none⟩ = some (.bool true)) (hBb : B ≤ b) :
    Calls Try.prog 160 #[.pointer (some ⟨b, 0, none⟩), .int .i64 n] w fun e w' => ∃ g, e = .returned (.tuple #[.slice (some ⟨g, 0, none⟩) n n, .int .i64 0]) ∧ Own w' w.heap.size 3 1 encI (.slice (some ⟨g, 0, none⟩) n n) (permL s n) ∧ Below B w w' := by
  obtain ⟨i0, hi, hz0, hz1, hz2⟩ := info_parts int_info5
  have Hi := Lib.hid hi; have Hz0 := Lib.hid hz0; have Hz1 := Lib.hid hz1; have Hz2 := Lib.hid hz2
  clear hi hz0 hz1 hz2
  have cS := dsize_any b n w h1 ⟨by omega, by omega⟩
  have hbl := World.block_lt_of_cell? w _ h0
  simp only at hbl
  go_enter Try.func160, Try.ntmps160
  go_wp2_with (first
    | (go_at_call 159; refine (cS).mono ?_; rintro e w' ⟨rfl, rfl⟩)
    | (at_make; refine wpList_mk rfl _ _ 62 rfl 3 i0 _ 8 Try.underlying62 Hi.out Hz0.out Hz1.out Hz2.out rfl (fun n : Int => Value.int .i64 n) 0 rfl _ _ _ _ n rfl rfl rfl rfl (by omega) (by unfold maxLen; omega) ?_; intro w1 own1 hb1))
  have z0 := bel_cell hb1 h0
  have z1 := bel_cell hb1 h1
  have zf := (hb1.frozen (World.block_lt_of_cell? _ _ h0)).trans hf
  have hfl : Hid (fill (upL n) 0 0 = List.replicate n 0) := Lib.hid (by rw [fill_zero, upL_len])
  have hBw : B ≤ w.heap.size := by omega
  go_loopw [19] (fun i wr => ∃ k : Nat, k ≤ n ∧ i = .int .i64 k ∧ Own wr w.heap.size 3 1 (fun x => [Value.int .i64 x]) (.slice (some ⟨w.heap.size, 0, none⟩) n n) (fill (upL n) 0 k) ∧ Below w.heap.size w wr) (fun i _ => n - (intOf i).toNat)
  case atStart => exact ⟨0, Nat.zero_le _, rfl, by rw [hfl.out]; exact own1, hb1⟩
  case round =>
    clear z0 z1 zf own1 hb1
    obtain ⟨k, hk, rfl, ow, hb⟩ := hrel
    rcases Nat.lt_or_ge k n with hlt | hge
    · have hlen : (fill (upL n) 0 k).length = n := (fill_len _ _ (by rw [upL_len]; omega)).trans (upL_len _)
      have f0 := ow.at1 hlen (k := k) (fill_at 0 (by rw [upL_len]; exact hlt))
      have f1 := ow.fr1 hlen k
      have ow3 := ow.set1 hlen k (k : Int)
      rw [fill_set 0 (upL_at hlt)] at ow3
      have Hlen := Lib.hid hlen
      clear hlen
      go_wp2_with fail
      exact ⟨⟨k + 1, by omega, by go_num, ow3, hb.setCell (Nat.le_refl _) _⟩, by simp [intOf]; omega⟩
    · obtain rfl : k = n := by omega
      rw [fill_all _ _ (by rw [upL_len]; omega)] at ow
      have z0 := bel_cell hb h0
      have z1 := bel_cell hb h1
      have zf := (hb.frozen (World.block_lt_of_cell? _ _ h0)).trans hf
      by_cases hk0 : k = 0
      · subst hk0
        go_wp2_with (go_at_call 198; refine (shuffle_zero _ _ _ _).mono ?_; rintro e w7 ⟨rfl, rfl⟩)
        go_ret2
        exact ⟨_, rfl, ow, hb.mono hBw⟩
      · have cH := shuffle_any w.heap.size k b s k (upL k) wr w.heap.size B (upL_len k) (by omega) hn ow z0 zf z1 (by omega) hBb hBw
        go_wp2_with (go_at_call 198; refine cH.mono ?_; rintro e w7 ⟨rfl, own7, hb7⟩)
        go_ret2
        exact ⟨_, rfl, own7, (hb.mono hBw).trans hb7⟩

theorem own_nn {w : World} {base : Nat} {v : Value} {l : List Int} (h : Own w base 3 1 encI v l) (hv : v ≠ .slice none 0 0) : ∃ g cap cur, v = .slice (some ⟨g, 0, none⟩) l.length cap ∧ base ≤ g ∧ w.heap[g]? = some (.cells cur 3 (0, 0)) ∧ l.length ≤ cap ∧ cap ≤ maxLen ∧ cur.size = cap * 1 ∧ cur.toList.take l.length = l.map encZ := by
  have hm : l.flatMap encI = l.map encZ := flat1 (Value.int .i64) l
  rcases h.2 with ⟨h0, _⟩ | ⟨g, cap, cur, rfl, hb, hg, h1, h2, h3, h4⟩
  · exact (hv h0).elim
  · exact ⟨g, cap, cur, rfl, hb, hg, h1, h2, h3, by rw [← hm]; simpa using h4⟩
theorem own_base {α : Type} {w : World} {base base' e z : Nat} {enc : α → List Value} {v : Value} {l : List α} (h : Own w base e z enc v l) (hb : base' ≤ base) : Own w base' e z enc v l := by
  refine ⟨h.1, ?_⟩
  rcases h.2 with hn | ⟨g, cap, cur, hv, hbg, rest⟩
  · exact .inl hn
  · exact .inr ⟨g, cap, cur, hv, Nat.le_trans hb hbg, rest⟩
theorem own_map {w : World} {base : Nat} {v : Value} {l : List Int} {n : Nat} (hn : l.length = n) (h : w.ownsRow base 3 1 v n (l.map encZ)) : Own w base 3 1 encI v l := by
  subst hn
  unfold Own
  rw [show l.flatMap encI = l.map encZ from flat1 (Value.int .i64) l]
  exact h
set_option maxRecDepth 100000 in
set_option maxHeartbeats 2000000 in
theorem dSample_any (b s n k B : Nat) (w : World) (hn : n ≤ 65536) (hk : k ≤ n) (h0 : w.cell? ⟨b, 0, none⟩ = some (.int .u64 s)) (hf : w.frozen? ⟨b, 0, none⟩ = false) (h1 : w.cell? ⟨b, 1, none⟩ = some (.bool true)) (hBb : B ≤ b) :
    Calls Try.prog 103 #[.pointer (some ⟨b, 0, none⟩), .int .i64 n, .int .i64 k] w fun e w' => ∃ v, e = .returned (.tuple #[v, .int .i64 0]) ∧ Own w' w.heap.size 3 1 encI v (smpL s n k) ∧ Below B w w' := by
  have cS := dsize_any b n w h1 ⟨by omega, by omega⟩
  have cP := Perm_any b s n B w hn h0 hf h1 hBb
  have hbl := World.block_lt_of_cell? w _ h0
  simp only at hbl
  have hkn : (k : Int) ≤ (n : Int) := by omega
  have d1 : decide ((n : Int) < (k : Int)) = false := by simp; omega
  have pl := permL_len s n
  go_enter Try.func103, Try.ntmps103
  go_wp2_with (first
    | (go_at_call 159; refine (cS).mono ?_; rintro e w' ⟨rfl, rfl⟩)
    | (go_at_call 160; refine cP.mono ?_; rintro e w1 ⟨g, rfl, own1, hb1⟩))
  have cC := Try.slices_Clone_int g 0 k n (permL s n) w1 (by omega) (by omega) (fun j hj => by
    rw [Nat.zero_add]
    have := Own.at1 (f := Value.int .i64) own1 pl (k := j) (x := (permL s n).getD j 0) (by simp [List.getD, List.getElem?_eq_getElem hj])
    exact this)
  have hbs1 : w.heap.size ≤ w1.heap.size := by have := (World.ownsRow.lt own1 g rfl); omega
  refine cC.mono ?_
  rintro e w2 ⟨v2, rfl, row2, nn2, hb2⟩
  have own2 := own_map (l := (permL s n).take k) (by rw [List.length_take]; omega) row2
  have tl : ((permL s n).take k).length = k := by rw [List.length_take]; omega
  obtain ⟨g2, cap, cur, rfl, hg2, hh, r1, r2, r3, r4⟩ := own_nn own2 nn2
  have hH : Sort.Holds (Value.int .i64) w2 g2 0 ((permL s n).take k).toArray := holds_of_block_i hh r4
  have cT := Try.slices_Sort_int g2 0 cap ((permL s n).take k) w2 hH (Array.getElem?_eq_some_iff.1 hh).1 (by omega)
  have own3 := fun nn os => ownsRow_sorted_i (n := nn) (os := os) (e := 3) (ss := (permL s n).take k) (ts := smpL s n k) (by rw [smpL_len hk, tl]) hg2 hh r1 r2 r3
  rw [merge_sortL] at cT
  change Calls Try.prog 162 _ _ (fun e w' => e = .returned (.tuple #[]) ∧ ∃ n_1 os, w' = Sort.grow (Sort.putRow (Value.int .i64) (Sort.ahead w2 n_1) g2 0 (smpL s n k).toArray) os) at cT
  rw [tl] at cT own3 ⊢
  have hbs2 := hb2.size
  clear cC row2 nn2 hH r4 own2 cS cP own1
  go_wp2_with (go_at_call 162; refine cT.mono ?_; rintro e w3 ⟨rfl, nn, os, rfl⟩)
  go_ret2
  exact ⟨_, rfl, own_base (own_map (smpL_len hk) (own3 nn os)) hbs1, (hb1.trans (hb2.mono (by omega))).grown (grownBy_sorted_i _) (by omega) (fun j hj => by cases hj; omega)⟩

end Go.Proofs.Ytbobbcfjjdmdgaa
