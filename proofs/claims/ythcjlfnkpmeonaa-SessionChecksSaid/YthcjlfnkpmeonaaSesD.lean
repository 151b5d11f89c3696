/- Letters of a session: contracts of the reference's valid, bits, Bits. For letters whose words are at most 4611686018427387904, and a valid width. -/
import Derived.Test.YthcjlfnkpmeonaaSesC
import Derived.Test.YthcjlfnkpmeonaaRefAll
import Derived.Deep.CutBlock
namespace Go.Proofs.Ythcjlfnkpmeonaa
open Go.RowKit
set_option linter.unusedVariables false
set_option linter.unusedSimpArgs false

set_option maxRecDepth 100000 in
set_option maxHeartbeats 8000000 in
theorem rvalid_any (l : Ltr) (W : Int) (w : World) (hW : wideB W = true) (h : l.In w) (hl : l.ws.length ≤ 4611686018427387904) :
    Calls Try.prog 33 #[l.val, .int .i64 W] w fun e w' => e = .returned (.bool (ltrB W l)) ∧ Below w.heap.size w w' := by
  have q0 := below_alloc (Below.refl w.heap.size w) (.cells l.cs 38)
  have At0 := LtrAt.new w l
  have hH : Hid (headLB l = (betwB l.ses 1 1000 && (betwB l.kind 1 11 && (betwB l.num 0 65535 && decide (l.ws.length ≤ 4096))))) := Lib.hid rfl
  have hE : Hid (ltrB W l = ((headLB l && decide (l.tag < limW W)) && l.ws.all okW)) := Lib.hid (by unfold ltrB; rw [Bool.and_assoc])
  unfold Ltr.val
  go_enter Try.func33, Try.ntmps33
  go_upto_region 1 with fail
  obtain ⟨w1, hw1⟩ : ∃ w1, w.alloc (.cells l.cs 38) = w1 := ⟨_, rfl⟩
  rw [hw1] at q0 At0 ⊢
  clear hw1
  have x0 : w1.cell? ⟨w.heap.size, 0, none⟩ = some (.int .i64 l.ses) := At0.c 0
  have x1 : w1.cell? ⟨w.heap.size, 1, none⟩ = some (.int .i64 l.kind) := At0.c 1
  have x2 : w1.cell? ⟨w.heap.size, 2, none⟩ = some (.int .i64 l.num) := At0.c 2
  have x3 : w1.cell? ⟨w.heap.size, 3, none⟩ = some (.slice l.A l.ws.length l.c) := At0.c 3
  have x4 : w1.cell? ⟨w.heap.size, 4, none⟩ = some (.int .u64 l.tag) := At0.c 4
  go_cut [35] (fun v wx => v = .bool (!(headLB l && decide (l.tag < limW W))) ∧ wx = w1)
  case first =>
    cases c1 : betwB l.ses 1 1000
    · go_wp2_with (go_at_call 26; refine (rin_any _ _ _ _).mono ?_; rintro e w' ⟨rfl, rfl⟩; (first | rw [c1] | rw [c2] | rw [c3]))
      go_meet
      case rel => exact ⟨congrArg Value.bool (by rw [hH.out, c1]; rfl), rfl⟩
    cases c2 : betwB l.kind 1 11
    · go_wp2_with (go_at_call 26; refine (rin_any _ _ _ _).mono ?_; rintro e w' ⟨rfl, rfl⟩; (first | rw [c1] | rw [c2] | rw [c3]))
      go_meet
      case rel => exact ⟨congrArg Value.bool (by rw [hH.out, c1, c2]; rfl), rfl⟩
    cases c3 : betwB l.num 0 65535
    · go_wp2_with (go_at_call 26; refine (rin_any _ _ _ _).mono ?_; rintro e w' ⟨rfl, rfl⟩; (first | rw [c1] | rw [c2] | rw [c3]))
      go_meet
      case rel => exact ⟨congrArg Value.bool (by rw [hH.out, c1, c2, c3]; rfl), rfl⟩
    have e4 : decide (l.ws.length ≤ 4096) = !decide ((l.ws.length : Int) > 4096) := by rw [Bool.eq_iff_iff]; simp; omega
    have E4 := Lib.hid e4
    clear e4
    cases c4 : decide ((l.ws.length : Int) > 4096)
    case true =>
      go_wp2_with (go_at_call 26; refine (rin_any _ _ _ _).mono ?_; rintro e w' ⟨rfl, rfl⟩; (first | rw [c1] | rw [c2] | rw [c3]))
      go_meet
      case rel => exact ⟨congrArg Value.bool (by rw [hH.out, c1, c2, c3, E4.out, c4]; rfl), rfl⟩
    have lw : (W = 8 ∧ limW W = 256) ∨ (W = 16 ∧ limW W = 65536) ∨ (W = 32 ∧ limW W = 4294967296) := by
      rcases wide_cases hW with rfl | rfl | rfl
      · exact .inl ⟨rfl, rfl⟩
      · exact .inr (.inl ⟨rfl, rfl⟩)
      · exact .inr (.inr ⟨rfl, rfl⟩)
    have fin : ∀ (M : Nat) (b : Bool), limW W = M → decide ((l.tag : Int) ≥ (M : Int)) = b → b = !(headLB l && decide (l.tag < limW W)) := fun M b h1 h2 => by
      rw [hH.out, c1, c2, c3, E4.out, c4, h1, ← h2]
      simp only [Bool.true_and, Bool.not_false]
      rw [Bool.eq_iff_iff]; simp
    have Fin := Lib.hid fin
    clear fin hW hH hE
    rcases lw with ⟨rfl, hlw⟩ | ⟨rfl, hlw⟩ | ⟨rfl, hlw⟩
    · cases t1 : decide ((l.tag : Int) ≥ 256)
      all_goals (
        have tt := Lib.hid t1
        go_wp2_with (go_at_call 26; refine (rin_any _ _ _ _).mono ?_; rintro e w' ⟨rfl, rfl⟩; (first | rw [c1] | rw [c2] | rw [c3]))
        go_meet
        case rel => exact ⟨congrArg Value.bool (Fin.out 256 _ rfl tt.out), rfl⟩)
    · cases t1 : decide ((l.tag : Int) ≥ 65536)
      all_goals (
        have tt := Lib.hid t1
        go_wp2_with (go_at_call 26; refine (rin_any _ _ _ _).mono ?_; rintro e w' ⟨rfl, rfl⟩; (first | rw [c1] | rw [c2] | rw [c3]))
        go_meet
        case rel => exact ⟨congrArg Value.bool (Fin.out 65536 _ rfl tt.out), rfl⟩)
    · cases t1 : decide ((l.tag : Int) ≥ 4294967296)
      all_goals (
        have tt := Lib.hid t1
        go_wp2_with (go_at_call 26; refine (rin_any _ _ _ _).mono ?_; rintro e w' ⟨rfl, rfl⟩; (first | rw [c1] | rw [c2] | rw [c3]))
        go_meet
        case rel => exact ⟨congrArg Value.bool (Fin.out 4294967296 _ rfl tt.out), rfl⟩)
  obtain ⟨rfl, rfl⟩ := hcut
  clear x0 x1 x2 x4
  generalize (headLB l && decide (l.tag < limW W)) = B at *
  cases B
  · go_wp2_with fail
    go_ret
    exact ⟨ret_bool (by rw [hE.out]; rfl), q0⟩
  · go_wp2_with fail
    go_loopw [5] (fun i wr => ∃ k : Nat, k ≤ l.ws.length ∧ i = .int .i64 k ∧ Hid ((l.ws.take k).all okW = true) ∧ wc = wr) (fun i _ => l.ws.length - (intOf i).toNat)
    case atStart => exact ⟨0, by omega, rfl, Lib.hid rfl, rfl⟩
    case round =>
      obtain ⟨k, hk, rfl, hall, rfl⟩ := hrel
      by_cases hlt : k < l.ws.length
      · obtain ⟨b, off, hA, hbb, hc⟩ := h.a.get hlt q0
        have c0 := hc 0 _ rfl
        simp only [Nat.mul_one, Nat.add_zero] at c0
        have ht : Hid ((l.ws.take (k + 1)).all okW = ((l.ws.take k).all okW && okW l.ws[k])) := Lib.hid (by rw [List.take_succ_eq_append_getElem hlt, List.all_append]; simp)
        have hno : Hid (okW l.ws[k] = false → l.ws.all okW = false) := Lib.hid (fun h => by
          rw [← List.take_append_drop k l.ws, List.all_append, List.drop_eq_getElem_cons hlt, List.all_cons, h]; simp)
        generalize l.ws[k] = x at *
        have hx0 : Hid (okW x = betwB x 0 65535) := Lib.hid rfl
        rw [hA] at x3
        clear hc
        cases hx : okW x
        · go_wp2_with (go_at_call 26; refine (rin_any _ _ _ _).mono ?_; rintro e w' ⟨rfl, rfl⟩; rw [← hx0.out, hx])
          go_ret
          exact ⟨ret_bool (by rw [hE.out, hno.out hx]; rfl), q0⟩
        · go_wp2_with (go_at_call 26; refine (rin_any _ _ _ _).mono ?_; rintro e w' ⟨rfl, rfl⟩; rw [← hx0.out, hx])
          go_roundw
          case rel => first | exact ⟨k + 1, by omega, by go_num, Lib.hid (by rw [ht.out, hall.out, hx]; rfl), trivial⟩ | ((repeat apply Exists.intro); exact ⟨⟨k + 1, by omega, by go_num, Lib.hid (by rw [ht.out, hall.out, hx]; rfl), trivial⟩, rfl⟩)
          case measure => (simp [intOf] <;> omega)
      · have e1 : Hid (l.ws.take k = l.ws) := Lib.hid (List.take_of_length_le (by omega))
        go_wp2_with fail
        go_ret
        exact ⟨ret_bool (by rw [hE.out, ← e1.out, hall.out]; rfl), q0⟩

theorem shr_bit {N k : Nat} : (((N : Int) / 2 ^ k).tmod 2 == 1) = bitN (N : Int) k := by
  have e : ((N : Int) / 2 ^ k) = ((N / 2 ^ k : Nat) : Int) := by simp
  rw [e]
  unfold bitN
  rw [Int.toNat_natCast]
  generalize N / 2 ^ k = M at *
  rw [Int.tmod_eq_emod_of_nonneg (by omega), Bool.eq_iff_iff]
  simp; omega
set_option maxRecDepth 100000 in
set_option maxHeartbeats 8000000 in
theorem rbits_any (l : Ltr) (w : World) (h : l.In w) (hh : headLB l = true) (hw : l.ws.all okW = true) :
    Calls Try.prog 34 #[l.val] w fun e w' => ∃ v, e = .returned v ∧ Own w' w.heap.size 4 1 encB v (ltrL l) ∧ Below w.heap.size w w' := by
  obtain ⟨i0, hi, hz0, hz1, hz2⟩ := info_parts bool_info3
  have Hi := Lib.hid hi; have Hz0 := Lib.hid hz0; have Hz1 := Lib.hid hz1; have Hz2 := Lib.hid hz2
  clear hi hz0 hz1 hz2
  obtain ⟨j0, ji, jz0, jz1, jz2⟩ := info_parts int_info
  have Ji := Lib.hid ji; have Jz0 := Lib.hid jz0; have Jz1 := Lib.hid jz1; have Jz2 := Lib.hid jz2
  clear ji jz0 jz1 jz2
  have q0 := below_alloc (Below.refl w.heap.size w) (.cells l.cs 38)
  have At0 := LtrAt.new w l
  obtain ⟨h1, h2, h3, h4⟩ := ltr_head hh
  unfold Ltr.val
  go_enter Try.func34, Try.ntmps34
  go_upto_region 1 with fail
  obtain ⟨w1, hw1⟩ : ∃ w1, w.alloc (.cells l.cs 38) = w1 := ⟨_, rfl⟩
  have sz1 : w.heap.size < w1.heap.size := by rw [← hw1]; simp
  rw [hw1] at q0 At0 ⊢
  clear hw1
  have x0 : w1.cell? ⟨w.heap.size, 0, none⟩ = some (.int .i64 l.ses) := At0.c 0
  have x1 : w1.cell? ⟨w.heap.size, 1, none⟩ = some (.int .i64 l.kind) := At0.c 1
  have x2 : w1.cell? ⟨w.heap.size, 2, none⟩ = some (.int .i64 l.num) := At0.c 2
  have x3 : w1.cell? ⟨w.heap.size, 3, none⟩ = some (.slice l.A l.ws.length l.c) := At0.c 3
  have ow1 := own_lit (enc := encI) (sz := 1) w1 w1.heap.size 3 [l.ses, l.kind, l.num] #[.int .i64 l.ses, .int .i64 l.kind, .int .i64 l.num] 3 (Nat.le_refl _) rfl (by unfold maxLen; omega) rfl rfl
  have aw := h.a.keep (q0.trans ((below_alloc (Below.refl w1.heap.size w1) (.cells #[.int .i64 l.ses, .int .i64 l.kind, .int .i64 l.num] 3)).mono (by omega)))
  have by1 : ([l.ses, l.kind, l.num].length + l.ws.length) * 8 ≤ 140737488355328 := by simp only [List.length_cons, List.length_nil]; omega
  have nl := h.nil
  go_upto_region 3 with (at_builtin; refine wpList_app rfl _ _ 36 rfl w1.heap.size 3 j0 _ 1 8 Try.underlying36 Ji.out Jz0.out Jz1.out Jz2.out rfl (by decide) encI_len encI_one _ [l.ses, l.kind, l.num] l.ws l.A l.c w.heap.size rfl ow1 rfl aw nl by1 (by decide) (by simp) ?_; intro v2 w2 ow2 hb2)
  have q1 : Below w.heap.size w w2 := (below_alloc q0 _).trans (hb2.mono (by omega))
  have okall : ∀ x ∈ [l.ses, l.kind, l.num] ++ l.ws, okW x = true := by
    intro x hx
    rcases List.mem_append.1 hx with hx | hx
    · simp only [List.mem_cons, List.not_mem_nil, or_false] at hx
      unfold okW betwB
      rcases hx with rfl | rfl | rfl <;> (apply decide_eq_true; omega)
    · exact List.all_eq_true.1 hw x hx
  have hfl : Hid (([l.ses, l.kind, l.num] ++ l.ws).flatMap (fun x => b16 x 16) = ltrL l) := Lib.hid (by unfold ltrL; simp)
  have hll : ([l.ses, l.kind, l.num] ++ l.ws).length ≤ 4099 := by simp; omega
  obtain ⟨A2, k2, rfl, _, _, _, ar2⟩ := ow2.form encI_len
  generalize [l.ses, l.kind, l.num] ++ l.ws = G at *
  clear x0 x1 x2 x3 ow1 aw by1 nl ow2 hb2 h1 h2 h3 h4 hh hw
  go_wp2_with fail
  go_loopw [4, 5] (fun ov iv wr => ∃ k : Nat, k ≤ G.length ∧ iv = .int .i64 k ∧ Own wr w2.heap.size 4 1 encB ov ((G.take k).flatMap fun x => b16 x 16) ∧ Below w2.heap.size w2 wr) (fun _ iv _ => G.length - (intOf iv).toNat)
  case atStart => exact ⟨0, by omega, rfl, Own.nil, Below.refl _ _⟩
  case round =>
    obtain ⟨k, hk, rfl, ow, hbr⟩ := hrel
    obtain ⟨w6, rfl⟩ : ∃ w6, w6 = wr := ⟨_, rfl⟩
    by_cases hlt : k < G.length
    · have hok : okW G[k] = true := okall _ (List.getElem_mem hlt)
      have hst : Hid ((G.take (k + 1)).flatMap (fun x => b16 x 16) = ((G.take k).flatMap fun x => b16 x 16) ++ b16 G[k] 16) := Lib.hid (by rw [List.take_succ_eq_append_getElem hlt, List.flatMap_append]; simp)
      have hL2 : ((G.take k).flatMap fun x => b16 x 16).length ≤ 100000 := by rw [flat16_len, List.length_take]; omega
      have cellAt : ∀ wz, Below w2.heap.size w2 wz → ∃ b off, A2 = some ⟨b, off, none⟩ ∧ wz.cell? ⟨b, off + k, none⟩ = some (.int .i64 G[k]) := fun wz hb => by
        obtain ⟨b, off, hA, hbb, hc⟩ := ar2.get hlt hb
        have c0 := hc 0 _ rfl
        simp only [Nat.mul_one, Nat.add_zero] at c0
        exact ⟨b, off, hA, c0⟩
      obtain ⟨b, off, rfl, _⟩ := cellAt _ hbr
      have cell2 : ∀ wz, Below w2.heap.size w2 wz → wz.cell? ⟨b, off + k, none⟩ = some (.int .i64 G[k]) := fun wz hb => by
        obtain ⟨b', off', hA, h'⟩ := cellAt wz hb
        cases hA; exact h'
      have Cell := Lib.hid cell2
      have Hlt := Lib.hid hlt
      generalize G[k] = x at *
      obtain ⟨N, hN⟩ := Int.eq_ofNat_of_zero_le (show 0 ≤ x by unfold okW betwB at hok; simp at hok; omega)
      subst hN
      generalize ((G.take k).flatMap fun x => b16 x 16) = M at *
      clear hok cellAt cell2
      go_wp2_with fail
      go_loopw [4, 6] (fun ov kv wr => ∃ j : Nat, j ≤ 16 ∧ kv = .int .i64 (15 - (j : Int)) ∧ Own wr w2.heap.size 4 1 encB ov (M ++ b16 (N : Int) j) ∧ Below w2.heap.size w6 wr) (fun _ kv _ => (intOf kv + 1).toNat)
      case atStart => exact ⟨0, by omega, by simp, by simpa [b16] using ow, Below.refl _ _⟩
      case round =>
        obtain ⟨j, hj, rfl, oj, hbj⟩ := hrel
        obtain ⟨w7, rfl⟩ : ∃ w7, w7 = wr := ⟨_, rfl⟩
        by_cases hjl : j < 16
        · have hs1 : Hid (M ++ b16 (N : Int) (j + 1) = (M ++ b16 (N : Int) j) ++ [bitN (N : Int) (15 - j)]) := Lib.hid (by rw [b16, List.append_assoc])
          have hbt := shr_bit (N := N) (k := 15 - j)
          have hln : ((M ++ b16 (N : Int) j).length + 1) * 1 ≤ 140737488355328 := by rw [List.length_append, b16_len]; omega
          have sz7 : w2.heap.size ≤ w7.heap.size := (hbr.trans hbj).size
          have c7 := Cell.out w7 (hbr.trans hbj)
          have hk2 := Hlt.out
          generalize M ++ b16 (N : Int) j = L at *
          generalize bitN (N : Int) (15 - j) = bt at *
          go_wp2_with (at_builtin; refine wpList_snoc rfl _ _ 44 rfl w2.heap.size 4 i0 _ 1 1 Try.underlying44 Hi.out Hz0.out Hz1.out Hz2.out rfl (by decide) _ L bt #[.bool bt] 4 rfl oj rfl rfl rfl (encB_one _) hln (by decide) sz7 rfl ?_; intro v8 w8 ow8 hb8)
          exact ⟨⟨j + 1, by omega, congrArg (Value.int .i64) (by omega), by rw [hs1.out]; exact ow8, hbj.trans hb8⟩, by simp [intOf]; omega⟩
        · obtain rfl : j = 16 := by omega
          rw [← hst.out] at oj
          go_wp2_with fail
          exact ⟨⟨k + 1, by omega, by go_num, oj, hbr.trans hbj⟩, by simp [intOf]; omega⟩
    · have e1 : G.take k = G := List.take_of_length_le (by omega)
      rw [e1, hfl.out] at ow
      have q6 : Below w.heap.size w w6 := q1.trans (hbr.mono q1.size)
      go_wp2_with fail
      go_ret
      exact ⟨_, rfl, own_low ow q1.size, q6⟩

set_option maxHeartbeats 1000000 in
theorem rBits7_any (l : Ltr) (W : Int) (w : World) (h : l.In w) (hl : l.ws.length ≤ 4611686018427387904) :
    Calls Try.prog 9 #[l.val, .int .i64 W] w fun e w' => ∃ v, e = .returned (.tuple #[v, .int .i64 (ltrE W l)]) ∧ Own w' w.heap.size 4 1 encB v (ltrR W l) ∧ Below w.heap.size w w' := by
  have q0 := below_alloc (Below.refl w.heap.size w) (.cells l.cs 38)
  have At0 := LtrAt.new w l
  have hE : Hid (ltrE W l = if (wideB W && ltrB W l) = true then 0 else 2) := Lib.hid rfl
  have hR : Hid (ltrR W l = if (wideB W && ltrB W l) = true then ltrL l else []) := Lib.hid rfl
  have cW := fun w' => rwide_any W w'
  unfold Ltr.val
  go_enter Try.func9, Try.ntmps9
  go_upto_region 1 with fail
  obtain ⟨w1, hw1⟩ : ∃ w1, w.alloc (.cells l.cs 38) = w1 := ⟨_, rfl⟩
  rw [hw1] at q0 At0 ⊢
  clear hw1
  cases c1 : wideB W
  · go_wp2_with (go_at_call 30; refine (cW _).mono ?_; rintro e w' ⟨rfl, rfl⟩; rw [c1])
    go_ret2
    exact ⟨_, by rw [hE.out, c1]; rfl, by rw [hR.out, c1]; exact Own.nil, q0⟩
  · have hsz : (Try.prog.info? 38).map (·.size) = some l.cs.size := (show (Try.prog.info? 38).map (·.size) = some 5 by kernel_rfl)
    go_wp2_with (first | (go_at_call 30; refine (cW _).mono ?_; rintro e w' ⟨rfl, rfl⟩; rw [c1]) | (refine wpList_load_at 38 _ rfl w.heap.size 0 rfl l.cs _ At0.all Try.underlying38 rfl hsz (by rfl) ?_))
    refine (rvalid_any l W w1 c1 (h.on q0) hl).mono ?_
    rintro e w2 ⟨rfl, hb2⟩
    have At2 := At0.on hb2
    have q2 := below_trans q0 hb2
    cases c2 : ltrB W l
    · go_wp2_with fail
      go_ret2
      exact ⟨_, by rw [hE.out, c1, c2]; rfl, by rw [hR.out, c1, c2]; exact Own.nil, q2⟩
    · have hp : headLB l = true ∧ l.ws.all okW = true := by unfold ltrB at c2; simp only [Bool.and_eq_true] at c2; exact ⟨c2.1, c2.2.2⟩
      go_wp2_with (refine wpList_load_at 38 _ rfl w.heap.size 0 rfl l.cs _ At2.all Try.underlying38 rfl hsz (by rfl) ?_)
      refine (rbits_any l w2 (h.on q2) hp.1 hp.2).mono ?_
      rintro e w3 ⟨v, rfl, ow, hb3⟩
      obtain ⟨A3, k3, rfl, _, _, _, _⟩ := ow.form encB_len
      go_wp2_with fail
      go_ret2
      exact ⟨_, by rw [hE.out, c1, c2]; rfl, by rw [hR.out, c1, c2]; exact own_low ow q2.size, below_trans q2 hb3⟩

end Go.Proofs.Ythcjlfnkpmeonaa
