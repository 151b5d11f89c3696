/- Contract of the reference's gains. For any arrangement and gains. -/
import Derived.Test.YtbobbcfjjdmdgaaOptE
namespace Go.Proofs.Ytbobbcfjjdmdgaa
open Go.RowKit
set_option linter.unusedVariables false
set_option linter.unusedSimpArgs false

theorem okG_dec {a h x : Int} (h0 : okG a h x) : decide (x < 0) = false ∧ decide (h < x) = false ∧ decide (a < h) = false ∧ decide (4096 < a) = false := by
  unfold okG at h0
  exact ⟨decide_eq_false (by omega), decide_eq_false (by omega), decide_eq_false (by omega), decide_eq_false (by omega)⟩
theorem okG_nod {a h x : Int} (h0 : ¬ okG a h x) : decide (x < 0) = true ∨ (decide (x < 0) = false ∧ decide (h < x) = true) ∨ (decide (x < 0) = false ∧ decide (h < x) = false ∧ decide (a < h) = true) ∨ (decide (x < 0) = false ∧ decide (h < x) = false ∧ decide (a < h) = false ∧ decide (4096 < a) = true) := by
  rcases okG_no h0 with h1 | ⟨h1, h2⟩ | ⟨h1, h2, h3⟩ | ⟨h1, h2, h3, h4⟩
  · exact .inl (decide_eq_true h1)
  · exact .inr (.inl ⟨decide_eq_false h1, decide_eq_true h2⟩)
  · exact .inr (.inr (.inl ⟨decide_eq_false h1, decide_eq_false h2, decide_eq_true h3⟩))
  · exact .inr (.inr (.inr ⟨decide_eq_false h1, decide_eq_false h2, decide_eq_false h3, decide_eq_true h4⟩))

set_option maxRecDepth 100000 in
set_option maxHeartbeats 8000000 in
theorem rgains_any (o : Opt) (g : Gn) (w : World) : Calls Try.prog 57 #[o.val, g.val] w fun e w' => e = .returned (.int .i64 (gainsE o g)) ∧ Below w.heap.size w w' := by
  have hb0 := below_alloc (below_alloc (Below.refl w.heap.size w) (.cells #[.int .i64 o.k, .int .i64 o.c0, .int .i64 o.c1, .int .i64 o.c2, .int .i64 o.v0, .int .i64 o.v1, .int .i64 o.v2, .int .i64 o.v3, .int .i64 o.w0, .int .i64 o.w1, .int .i64 o.w2, .int .i64 o.w3, .int .i64 o.s0, .int .i64 o.s1, .int .i64 o.s2, .int .i64 o.s3, .int .i64 o.eta, .int .i64 o.dark] 26)) (.cells #[.int .i64 g.a0, .int .i64 g.h0, .int .i64 g.x0, .int .i64 g.a1, .int .i64 g.h1, .int .i64 g.x1, .int .i64 g.a2, .int .i64 g.h2, .int .i64 g.x2] 35)
  have cK := fun w' => rSuits_any o w'
  have at0 : OptAt ((w.alloc (.cells #[.int .i64 o.k, .int .i64 o.c0, .int .i64 o.c1, .int .i64 o.c2, .int .i64 o.v0, .int .i64 o.v1, .int .i64 o.v2, .int .i64 o.v3, .int .i64 o.w0, .int .i64 o.w1, .int .i64 o.w2, .int .i64 o.w3, .int .i64 o.s0, .int .i64 o.s1, .int .i64 o.s2, .int .i64 o.s3, .int .i64 o.eta, .int .i64 o.dark] 26)).alloc (.cells #[.int .i64 g.a0, .int .i64 g.h0, .int .i64 g.x0, .int .i64 g.a1, .int .i64 g.h1, .int .i64 g.x1, .int .i64 g.a2, .int .i64 g.h2, .int .i64 g.x2] 35)) w.heap.size o := heap_alloc2_old w _ _
  have gt0 : GnAt ((w.alloc (.cells #[.int .i64 o.k, .int .i64 o.c0, .int .i64 o.c1, .int .i64 o.c2, .int .i64 o.v0, .int .i64 o.v1, .int .i64 o.v2, .int .i64 o.v3, .int .i64 o.w0, .int .i64 o.w1, .int .i64 o.w2, .int .i64 o.w3, .int .i64 o.s0, .int .i64 o.s1, .int .i64 o.s2, .int .i64 o.s3, .int .i64 o.eta, .int .i64 o.dark] 26)).alloc (.cells #[.int .i64 g.a0, .int .i64 g.h0, .int .i64 g.x0, .int .i64 g.a1, .int .i64 g.h1, .int .i64 g.x1, .int .i64 g.a2, .int .i64 g.h2, .int .i64 g.x2] 35)) (w.heap.size + 1) g := heap_alloc2_new w _ _
  unfold Opt.val Opt.cs at *
  unfold Gn.val
  obtain ⟨E, hE⟩ : ∃ E, suitE o = E := ⟨_, rfl⟩
  have gE : gainsE o g = if E ≠ 0 then E else if ¬ (okG g.a0 g.h0 g.x0 ∧ okG g.a1 g.h1 g.x1 ∧ okG g.a2 g.h2 g.x2) then 2 else if ¬ (g.a0 ≠ 0 ∧ g.a1 ≠ 0 ∧ g.a2 ≠ 0) then 9 else 0 := by rw [← hE]; rfl
  rw [hE] at cK
  have GE := Lib.hid gE
  clear hE gE
  have At0 := Lib.hid at0; have Gt0 := Lib.hid gt0
  clear at0 gt0
  go_enter Try.func57, Try.ntmps57
  go_upto_region 1 with fail
  obtain ⟨W, hW⟩ : ∃ W, (w.alloc (.cells #[.int .i64 o.k, .int .i64 o.c0, .int .i64 o.c1, .int .i64 o.c2, .int .i64 o.v0, .int .i64 o.v1, .int .i64 o.v2, .int .i64 o.v3, .int .i64 o.w0, .int .i64 o.w1, .int .i64 o.w2, .int .i64 o.w3, .int .i64 o.s0, .int .i64 o.s1, .int .i64 o.s2, .int .i64 o.s3, .int .i64 o.eta, .int .i64 o.dark] 26)).alloc (.cells #[.int .i64 g.a0, .int .i64 g.h0, .int .i64 g.x0, .int .i64 g.a1, .int .i64 g.h1, .int .i64 g.x1, .int .i64 g.a2, .int .i64 g.h2, .int .i64 g.x2] 35) = W := ⟨_, rfl⟩
  rw [hW] at hb0 At0 Gt0 ⊢
  clear hW
  go_wp2_with (refine wpList_load_row rfl 26 _ rfl w.heap.size rfl 26 _ (0, 0) _ At0.out Try.underlying26 rfl (by kernel_rfl) ?_)
  refine (cK _).mono ?_
  rintro e w2 ⟨rfl, hb2⟩
  have q2 := below_trans hb0 hb2
  have Gt2 := Lib.hid (Gt0.out.on hb2)
  by_cases hE0 : E = 0
  · subst hE0
    go_wp2_with fail
    go_loopw [5] (fun iv wr => ∃ k : Nat, k ≤ 3 ∧ iv = .int .i64 k ∧ Hid (allG g k) ∧ Below w2.heap.size w2 wr) (fun iv _ => 3 - (intOf iv).toNat)
    case atStart => exact ⟨0, by omega, rfl, Lib.hid trivial, Below.refl _ _⟩
    case round =>
      obtain ⟨k, hk, rfl, hal, hbr⟩ := hrel
      obtain ⟨w6, rfl⟩ : ∃ w6, w6 = wr := ⟨_, rfl⟩
      have q6 := below_trans q2 hbr
      have gt6 := Gt2.out.on hbr
      rcases (show k = 0 ∨ k = 1 ∨ k = 2 ∨ k = 3 by omega) with rfl | rfl | rfl | rfl
      · have l0 := later_cell gt6.y0
        have l1 := later_cell gt6.y1
        have l2 := later_cell gt6.y2
        clear gt6
        simp only [show ((0 : Nat) : Int) = 0 from rfl]
        by_cases hok : okG g.a0 g.h0 g.x0
        · have nx : Hid (allG g (0 + 1)) := Lib.hid ((fun h => h) hok)
          obtain ⟨e1, e2, e3, e4⟩ := okG_dec hok
          clear hok
          go_wp2_with fail
          (refine wp_region_later (by kernel_rfl) (by kernel_rfl) ?_; (repeat (go_big_quiet_step (fail))); refine wpQuiet_nil ?_; rintro w9 ⟨⟨_, hb9⟩, rfl⟩)
          go_wp2_with fail
          exact ⟨⟨0 + 1, by omega, rfl, nx, below_trans hbr hb9⟩, by simp [intOf]⟩
        · have E2 : Hid (gainsE o g = 2) := Lib.hid (by rw [GE.out, if_neg (by simp), if_pos (fun h => hok h.1)])
          rcases okG_nod hok with h1 | ⟨h1, h2⟩ | ⟨h1, h2, h3⟩ | ⟨h1, h2, h3, h4⟩
          all_goals (
            clear hok
            go_wp2_with fail
            (refine wp_region_later (by kernel_rfl) (by kernel_rfl) ?_; (repeat (go_big_quiet_step (fail))); refine wpQuiet_nil ?_; rintro w9 ⟨⟨_, hb9⟩, rfl⟩)
            go_wp2_with fail
            go_ret
            exact ⟨ret_int E2.out.symm, below_trans q6 hb9⟩)
      · have l0 := later_cell gt6.y3
        have l1 := later_cell gt6.y4
        have l2 := later_cell gt6.y5
        clear gt6
        simp only [show ((1 : Nat) : Int) = 1 from rfl]
        by_cases hok : okG g.a1 g.h1 g.x1
        · have nx : Hid (allG g (1 + 1)) := Lib.hid ((fun h => ⟨hal.out, h⟩) hok)
          obtain ⟨e1, e2, e3, e4⟩ := okG_dec hok
          clear hok
          go_wp2_with fail
          (refine wp_region_later (by kernel_rfl) (by kernel_rfl) ?_; (repeat (go_big_quiet_step (fail))); refine wpQuiet_nil ?_; rintro w9 ⟨⟨_, hb9⟩, rfl⟩)
          go_wp2_with fail
          exact ⟨⟨1 + 1, by omega, rfl, nx, below_trans hbr hb9⟩, by simp [intOf]⟩
        · have E2 : Hid (gainsE o g = 2) := Lib.hid (by rw [GE.out, if_neg (by simp), if_pos (fun h => hok h.2.1)])
          rcases okG_nod hok with h1 | ⟨h1, h2⟩ | ⟨h1, h2, h3⟩ | ⟨h1, h2, h3, h4⟩
          all_goals (
            clear hok
            go_wp2_with fail
            (refine wp_region_later (by kernel_rfl) (by kernel_rfl) ?_; (repeat (go_big_quiet_step (fail))); refine wpQuiet_nil ?_; rintro w9 ⟨⟨_, hb9⟩, rfl⟩)
            go_wp2_with fail
            go_ret
            exact ⟨ret_int E2.out.symm, below_trans q6 hb9⟩)
      · have l0 := later_cell gt6.y6
        have l1 := later_cell gt6.y7
        have l2 := later_cell gt6.y8
        clear gt6
        simp only [show ((2 : Nat) : Int) = 2 from rfl]
        by_cases hok : okG g.a2 g.h2 g.x2
        · have nx : Hid (allG g (2 + 1)) := Lib.hid ((fun h => ⟨hal.out.1, hal.out.2, h⟩) hok)
          obtain ⟨e1, e2, e3, e4⟩ := okG_dec hok
          clear hok
          go_wp2_with fail
          (refine wp_region_later (by kernel_rfl) (by kernel_rfl) ?_; (repeat (go_big_quiet_step (fail))); refine wpQuiet_nil ?_; rintro w9 ⟨⟨_, hb9⟩, rfl⟩)
          go_wp2_with fail
          exact ⟨⟨2 + 1, by omega, rfl, nx, below_trans hbr hb9⟩, by simp [intOf]⟩
        · have E2 : Hid (gainsE o g = 2) := Lib.hid (by rw [GE.out, if_neg (by simp), if_pos (fun h => hok h.2.2)])
          rcases okG_nod hok with h1 | ⟨h1, h2⟩ | ⟨h1, h2, h3⟩ | ⟨h1, h2, h3, h4⟩
          all_goals (
            clear hok
            go_wp2_with fail
            (refine wp_region_later (by kernel_rfl) (by kernel_rfl) ?_; (repeat (go_big_quiet_step (fail))); refine wpQuiet_nil ?_; rintro w9 ⟨⟨_, hb9⟩, rfl⟩)
            go_wp2_with fail
            go_ret
            exact ⟨ret_int E2.out.symm, below_trans q6 hb9⟩)
      · have HA : Hid (okG g.a0 g.h0 g.x0 ∧ okG g.a1 g.h1 g.x1 ∧ okG g.a2 g.h2 g.x2) := hal
        have Gt6 := Lib.hid gt6
        clear gt6
        simp only [show ((3 : Nat) : Int) = 3 from rfl]
        go_wp2_with fail
        go_loopw [6] (fun iv wr => ∃ k : Nat, k ≤ 3 ∧ iv = .int .i64 k ∧ Hid (someG g k) ∧ Below w6.heap.size w6 wr) (fun iv _ => 3 - (intOf iv).toNat)
        case atStart => exact ⟨0, by omega, rfl, Lib.hid trivial, Below.refl _ _⟩
        case round =>
          obtain ⟨k, hk, rfl, hso, hbs⟩ := hrel
          obtain ⟨w8, rfl⟩ : ∃ w8, w8 = wr := ⟨_, rfl⟩
          have q8 := below_trans q6 hbs
          have gt8 := Gt6.out.on hbs
          rcases (show k = 0 ∨ k = 1 ∨ k = 2 ∨ k = 3 by omega) with rfl | rfl | rfl | rfl
          · have l0 := gt8.y0
            clear gt8
            simp only [show ((0 : Nat) : Int) = 0 from rfl]
            by_cases hz : g.a0 = 0
            · have E9 : Hid (gainsE o g = 9) := Lib.hid (by rw [GE.out, if_neg (by simp), if_neg (by simp [HA.out]), if_pos (fun h => h.1 hz)])
              have hzb : (g.a0 == 0) = true := by simpa using hz
              clear hz
              go_wp2_with fail
              go_ret
              exact ⟨ret_int E9.out.symm, q8⟩
            · have nx : Hid (someG g (0 + 1)) := Lib.hid ((fun h => h) hz)
              have hzb : (g.a0 == 0) = false := by simpa using hz
              clear hz
              go_wp2_with fail
              exact ⟨⟨0 + 1, by omega, rfl, nx, hbs⟩, by simp [intOf]⟩
          · have l0 := gt8.y3
            clear gt8
            simp only [show ((1 : Nat) : Int) = 1 from rfl]
            by_cases hz : g.a1 = 0
            · have E9 : Hid (gainsE o g = 9) := Lib.hid (by rw [GE.out, if_neg (by simp), if_neg (by simp [HA.out]), if_pos (fun h => h.2.1 hz)])
              have hzb : (g.a1 == 0) = true := by simpa using hz
              clear hz
              go_wp2_with fail
              go_ret
              exact ⟨ret_int E9.out.symm, q8⟩
            · have nx : Hid (someG g (1 + 1)) := Lib.hid ((fun h => ⟨hso.out, h⟩) hz)
              have hzb : (g.a1 == 0) = false := by simpa using hz
              clear hz
              go_wp2_with fail
              exact ⟨⟨1 + 1, by omega, rfl, nx, hbs⟩, by simp [intOf]⟩
          · have l0 := gt8.y6
            clear gt8
            simp only [show ((2 : Nat) : Int) = 2 from rfl]
            by_cases hz : g.a2 = 0
            · have E9 : Hid (gainsE o g = 9) := Lib.hid (by rw [GE.out, if_neg (by simp), if_neg (by simp [HA.out]), if_pos (fun h => h.2.2 hz)])
              have hzb : (g.a2 == 0) = true := by simpa using hz
              clear hz
              go_wp2_with fail
              go_ret
              exact ⟨ret_int E9.out.symm, q8⟩
            · have nx : Hid (someG g (2 + 1)) := Lib.hid ((fun h => ⟨hso.out.1, hso.out.2, h⟩) hz)
              have hzb : (g.a2 == 0) = false := by simpa using hz
              clear hz
              go_wp2_with fail
              exact ⟨⟨2 + 1, by omega, rfl, nx, hbs⟩, by simp [intOf]⟩
          · have E0 : Hid (gainsE o g = 0) := Lib.hid (by rw [GE.out, if_neg (by simp), if_neg (by simp [HA.out]), if_neg (fun hn => hn hso.out)])
            simp only [show ((3 : Nat) : Int) = 3 from rfl]
            go_wp2_with fail
            go_ret
            exact ⟨ret_int E0.out.symm, q8⟩
  · have E1 : Hid (gainsE o g = E) := Lib.hid (by rw [GE.out, if_pos hE0])
    have hne : (E != 0) = true := by rw [bne_iff_ne]; exact hE0
    have At2 := Lib.hid (At0.out.on hb2)
    clear hE0
    go_wp2_with (refine wpList_load_row rfl 26 _ rfl w.heap.size rfl 26 _ (0, 0) _ At2.out Try.underlying26 rfl (by kernel_rfl) ?_)
    refine (cK _).mono ?_
    rintro e w3 ⟨rfl, hb3⟩
    go_wp2_with fail
    go_ret
    exact ⟨ret_int E1.out.symm, below_trans q2 hb3⟩

end Go.Proofs.Ytbobbcfjjdmdgaa
