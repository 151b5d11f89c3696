/- Contract of algebra's Hash. For any width and key, strings of at most 100000 bits. -/
import Derived.Test.YtfolgmcoggejbaaGreatGfI
import Derived.Test.YtfolgmcoggejbaaGreatGfjAll
namespace Go.Proofs.YtfolgmcoggejbaaGreat
open Go.RowKit Go.Shelf
set_option linter.unusedVariables false
set_option linter.unusedSimpArgs false
attribute [local go_sem] Oper.semAt_some

set_option maxRecDepth 100000 in
set_option maxHeartbeats 2000000 in
theorem Hash_main (w key : Nat) (A : Option Addr) (c : Nat) (m : List Bool) (v : World) (hw : Wd w) (hk : key < 2 ^ w) (h : Arr 1 encB v v.heap.size A m) (hl : m.length ≤ 65536) (hc : m.length ≤ c) (hmc : c ≤ maxLen) :
    CallsIn Fence.wide 10 Tryz.prog 51 #[.int .i64 w, .int .u64 key, .slice A m.length c] v fun e v' => e = .returned (.tuple #[.int .u64 (hashN w key m), .int .i64 0]) ∧ Below v.heap.size v v' := by
  have hel : Hid (elE (w : Int) key = 0) := Lib.hid (by rcases hw with rfl | rfl | rfl <;> (unfold elE; rw [if_pos (by decide)]; simp; exact hk))
  have hw32 : w ≤ 32 := by rcases hw with h | h | h <;> omega
  have w0 : 0 < w := by rcases hw with h | h | h <;> omega
  have p64 : 2 ^ w ≤ 4294967296 := Nat.pow_le_pow_right (by decide : 0 < 2) hw32
  have P64 := Lib.hid p64
  have Hk := Lib.hid hk
  have Hw := Lib.hid hw
  clear p64 hk hw
  have cE := elements_any (w : Int) key 1 (some ⟨v.heap.size + 2, 0, none⟩) (((v.alloc (.cells #[.int .i64 (w : Int)] 3)).alloc (.cells #[.int .u64 (key : Int)] 24)).alloc (.cells #[.int .u64 (key : Int)] 24)) (by
    have := arr_lit (enc := enc64) (sz := 1) ((v.alloc (.cells #[.int .i64 (w : Int)] 3)).alloc (.cells #[.int .u64 (key : Int)] 24)) [key] #[.int .u64 (key : Int)] 24 rfl enc64_len
    simpa using this)
  rw [hel.out] at cE
  have d1 : decide (65536 < (m.length : Int)) = false := by simp; omega
  have hF : ∀ f, Fence.wide.fn f := fun _ => trivial
  refine callsIn_of_wp_marks Tryz.func51 rfl trivial ?_ rfl
  simp only [Tryz.ntmps51, List.size_toArray, List.length_cons, List.length_nil, Nat.reduceAdd, Nat.reduceSub, Array.replicate_succ, Array.replicate_zero, List.push_toArray, List.append_toArray, List.nil_append, List.cons_append]
  gi_wp2_with (first
    | (gi_at_call 110; refine (callsIn_wide.2 cE).mono ?_; rintro e w' ⟨rfl, rfl⟩)
    | (gi_at_call 111; refine (callsIn_wide.2 (words_any _ _ _ _ _)).mono ?_; rintro e w' ⟨rfl, rfl⟩))
  obtain ⟨wS, hwS⟩ : ∃ wS, wS = ((((((v.alloc (.cells #[.int .i64 (w : Int)] 3)).alloc (.cells #[.int .u64 (key : Int)] 24)).alloc (.cells #[.int .u64 (key : Int)] 24)).alloc (.cells #[.int .u64 0] 24)).alloc (.cells #[.int .i64 (w : Int)] 3)).alloc (.cells #[.slice A m.length c] 22)) := ⟨_, rfl⟩
  have sz : wS.heap.size = v.heap.size + 6 := by rw [hwS]; simp
  have c0 : wS.cell? ⟨v.heap.size, 0, none⟩ = some (.int .i64 (w : Int)) := by rw [hwS]; simp [go_sem]
  have c1 : wS.cell? ⟨v.heap.size + 1, 0, none⟩ = some (.int .u64 (key : Int)) := by rw [hwS]; simp [go_sem]
  have c3 : wS.cell? ⟨v.heap.size + 3, 0, none⟩ = some (.int .u64 0) := by rw [hwS]; simp [go_sem]
  have f3 : wS.frozen? ⟨v.heap.size + 3, 0, none⟩ = false := by rw [hwS]; simp [go_sem]
  have c4 : wS.cell? ⟨v.heap.size + 4, 0, none⟩ = some (.int .i64 (w : Int)) := by rw [hwS]; simp [go_sem]
  have c5 : wS.cell? ⟨v.heap.size + 5, 0, none⟩ = some (.slice A m.length c) := by rw [hwS]; simp [go_sem]
  have f5 : wS.frozen? ⟨v.heap.size + 5, 0, none⟩ = false := by rw [hwS]; simp [go_sem]
  have hbS : Below v.heap.size v wS := by rw [hwS]; exact below_alloc (below_alloc (below_alloc (below_alloc (below_alloc (below_alloc (Below.refl _ _) _) _) _) _) _) _
  rw [← hwS]
  clear hwS cE d1
  have hn : ∀ {i j : Nat}, i ≠ j → (⟨v.heap.size + i, 0, none⟩ : Addr) ≠ ⟨v.heap.size + j, 0, none⟩ := fun h e => by injection e with e; omega
  have hn0 : (⟨v.heap.size, 0, none⟩ : Addr) ≠ ⟨v.heap.size + 5, 0, none⟩ := by intro e; injection e with e; omega
  have hn3 : (⟨v.heap.size, 0, none⟩ : Addr) ≠ ⟨v.heap.size + 3, 0, none⟩ := by intro e; injection e with e; omega
  refine wpIn_rangeFunc_steps (α := Nat) rfl (by omega) (gf := 161) (lb := #[.pointer (some ⟨v.heap.size + 5, 0, none⟩), .pointer (some ⟨v.heap.size + 4, 0, none⟩)]) rfl trivial (enters_of Tryz.func161 (by kernel_rfl) rfl)
    (encs := fun x => #[.int .u64 (x : Int)]) (Kp := fun X Y => Y.cell? ⟨v.heap.size + 5, 0, none⟩ = X.cell? ⟨v.heap.size + 5, 0, none⟩ ∧ Y.frozen? ⟨v.heap.size + 5, 0, none⟩ = X.frozen? ⟨v.heap.size + 5, 0, none⟩)
    (St := fun X Y => Y = X.drew ∨ ∃ u, Y = X.setCell ⟨v.heap.size + 5, 0, none⟩ u) (OK := fun x => x < 2 ^ w) (xs := wordsL w m)
    (fun pre W => (W.cell? ⟨v.heap.size + 3, 0, none⟩ = some (.int .u64 (horner w key pre : Int)) ∧ W.frozen? ⟨v.heap.size + 3, 0, none⟩ = false ∧ W.cell? ⟨v.heap.size, 0, none⟩ = some (.int .i64 (w : Int)) ∧ W.cell? ⟨v.heap.size + 1, 0, none⟩ = some (.int .u64 (key : Int)) ∧ W.cell? ⟨v.heap.size + 4, 0, none⟩ = some (.int .i64 (w : Int)) ∧ horner w key pre < 2 ^ w) ∧ Below v.heap.size v W)
    ?seq (fun h k => ⟨k.1.trans h.1, k.2.trans h.2⟩) ?putk ?keeps (fun _ => rfl)
    (OwnFrom.and (Own.from (fun s X Y row hs hg hr => ⟨cell_kept hs.1 hg hr, (frozen_kept hs.1 hg hr).trans hs.2.1, cell_kept hs.2.2.1 hg hr, cell_kept hs.2.2.2.1 hg hr, cell_kept hs.2.2.2.2.1 hg hr, hs.2.2.2.2.2⟩) _) (ownFrom_below (Nat.le_refl _) hbS.size))
    ?step ⟨⟨c3, f3, c0, c1, c4, Nat.pow_pos (by decide)⟩, hbS⟩
    (fun x => { tmps := #[.int .i64 w, .int .u64 key, .slice A m.length c, .pointer (some ⟨v.heap.size, 0, none⟩), .pointer (some ⟨v.heap.size + 1, 0, none⟩), undef, .int .u64 0, .int .i64 0, .int .i64 0, .pointer (some ⟨v.heap.size + 3, 0, none⟩), .int .u64 x, .int .i64 w, .int .u64 key, .slice (some ⟨v.heap.size + 2, 0, none⟩) 1 1, .int .i64 0, .int .i64 0, .bool false, undef, .slice A m.length c, .int .i64 m.length, .bool false, .int .i64 w, .slice A m.length c,
      .func (.func 161) #[] #[.pointer (some ⟨v.heap.size + 5, 0, none⟩), .pointer (some ⟨v.heap.size + 4, 0, none⟩)], .int .u64 x, undef, undef, undef, undef, undef, undef, undef], defers := [] }) ?assign ?body ?done
  case seq =>
    intro l J W hbW hJs hJI hY h0
    have := words1_in l w A c m (v.heap.size + 5) (v.heap.size + 4) v W J Hw.out (fun pre x W hj hx => hY pre x W hj hx) (fun pre W x hj => hJs pre _ _ hj (.inr ⟨x, rfl⟩)) (fun pre W hj => hJs pre _ _ hj (.inl rfl)) (fun pre W hj => ⟨(hJI _ _ hj).2, (hJI _ _ hj).1.2.2.2.2.1⟩) h (by omega) hc hmc h0 (bel_cell hbW c5) ((hbW.frozen (World.block_lt_of_cell? _ _ c5)).trans f5)
    exact this
  case putk =>
    intro W l o o' hl ho hco
    have hne : v.heap.size + 5 ≠ l := by omega
    exact ⟨World.cell?_of_block (World.putObj_heap_other hne), World.frozen?_of_block (World.putObj_heap_other hne)⟩
  case keeps =>
    rintro X Y (rfl | ⟨u, rfl⟩)
    · exact KeepsOthers.drew _
    · exact KeepsOthers.setCell _ _ _
  case step =>
    rintro s X Y ⟨⟨e1, e2, e3, e4, e5, e6⟩, hb⟩ (rfl | ⟨u, rfl⟩)
    · exact ⟨⟨e1, e2, e3, e4, e5, e6⟩, hb.drew⟩
    · refine ⟨⟨?_, ?_, ?_, ?_, ?_, e6⟩, hb.setCell (by simp) _⟩
      · rw [World.cell?_setCell_other _ _ _ _ (hn (by decide))]; exact e1
      · rw [World.frozen?_setCell]; exact e2
      · rw [World.cell?_setCell_other _ _ _ _ hn0.symm]; exact e3
      · rw [World.cell?_setCell_other _ _ _ _ (hn (by decide))]; exact e4
      · rw [World.cell?_setCell_other _ _ _ _ (hn (by decide))]; exact e5
  case assign =>
    intro l x W K hK
    gi_wp2
    exact hK
  case body =>
    rintro l pre x W ⟨⟨e1, e2, e3, e4, e5, e6⟩, hb⟩ hx
    have hX := xor_u64 (a := horner w key pre) (b := x) (by have := P64.out; omega) (by have := P64.out; omega)
    have hxl : horner w key pre ^^^ x < 2 ^ w := Nat.xor_lt_two_pow e6 hx
    have ct := (callsIn_wide (n := 7)).2 (times_gf w (horner w key pre ^^^ x) key W Hw.out hxl Hk.out)
    have st : Hid (horner w key (pre ++ [x]) = gm w (horner w key pre ^^^ x) key) := Lib.hid (horner_snoc _ _ _ _)
    have gl := Lib.hid (gm_lt Hw.out key _ hxl)
    clear hxl e6 hx
    gi_wp2
    refine (CallsIn.inRound l ct).mono ?_
    rintro e w' ⟨rfl, rfl⟩
    gi_wp2
    refine ⟨(KeepsOthers.setCell _ _ _).from _, ⟨?_, ?_⟩, ⟨?_, ?_, ?_, ?_, ?_, ?_⟩, ?_⟩
    · rw [World.cell?_setCell_other _ _ _ _ (hn (by decide))]
    · rw [World.frozen?_setCell]
    · rw [st.out]; exact World.cell?_setCell_same' _ _ _ (by rw [e1]; rfl)
    · rw [World.frozen?_setCell]; exact e2
    · rw [World.cell?_setCell_other _ _ _ _ hn3.symm]; exact e3
    · rw [World.cell?_setCell_other _ _ _ _ (hn (by decide))]; exact e4
    · rw [World.cell?_setCell_other _ _ _ _ (hn (by decide))]; exact e5
    · rw [st.out]; exact gl.out
    · exact hb.setCell (by simp) _
  case done =>
    rintro D W hD ⟨⟨e1, e2, e3, e4, e5, e6⟩, hb⟩ hK
    gi_wp2
    refine ⟨by simp, .inl ⟨_, _, rfl, run_takeDeferred hK, ?_⟩⟩
    exact ⟨_, results_tmp2 rfl _ _ _, rfl, hb.trans (belowK_b (w := v) (Nat.le_refl _) W D _ _ (by omega) hK rfl rfl)⟩

set_option maxHeartbeats 1000000 in
theorem Hash_any (w : Int) (key : Nat) (A : Option Addr) (c : Nat) (m : List Bool) (v : World) (h : Arr 1 encB v v.heap.size A m) (hc : m.length ≤ c) (hmc : c ≤ maxLen) :
    Calls Tryz.prog 51 #[.int .i64 w, .int .u64 key, .slice A m.length c] v fun e v' => e = .returned (.tuple #[.int .u64 (hshN w key m), .int .i64 (hshE w key m)]) ∧ Below v.heap.size v v' := by
  have cE := elements_any w key 1 (some ⟨v.heap.size + 2, 0, none⟩) (((v.alloc (.cells #[.int .i64 w] 3)).alloc (.cells #[.int .u64 (key : Int)] 24)).alloc (.cells #[.int .u64 (key : Int)] 24)) (by
    have := arr_lit (enc := enc64) (sz := 1) ((v.alloc (.cells #[.int .i64 w] 3)).alloc (.cells #[.int .u64 (key : Int)] 24)) [key] #[.int .u64 (key : Int)] 24 rfl enc64_len
    simpa using this)
  by_cases h0 : elE w key = 0
  · rcases wd_cases w with ⟨n, rfl, hn, hB⟩ | ⟨hB, _, _, _⟩
    · have hk : key < 2 ^ n := by
        by_cases hk : key < 2 ^ n
        · exact hk
        · unfold elE at h0; rw [if_pos hB] at h0; simp [hk] at h0
      by_cases hl : 65536 < m.length
      · obtain ⟨f1, f2⟩ := hsh_long (m := m) hB hk hl
        have F1 := Lib.hid f1; have F2 := Lib.hid f2
        have d1 : decide (65536 < (m.length : Int)) = true := by simp; omega
        rw [h0] at cE
        clear f1 f2 hB hk h0
        go_enter Tryz.func51, Tryz.ntmps51
        go_wp2_with (go_at_call 110; refine (cE).mono ?_; rintro e w' ⟨rfl, rfl⟩)
        go_ret2
        exact ⟨by rw [F1.out, F2.out]; rfl, below_alloc (below_alloc (below_alloc (Below.refl _ _) _) _) _⟩
      · obtain ⟨f1, f2⟩ := hsh_ok (m := m) hB hk hl
        rw [f1, f2]
        exact callsIn_wide.1 (Hash_main n key A c m v hn hk h (by omega) hc hmc)
    · exfalso
      unfold elE at h0; rw [if_neg (by simp [hB])] at h0; cases h0
  · have f1 : hshE w key m = elE w key := by unfold hshE; rw [if_neg h0]
    have f2 : hshN w key m = 0 := by unfold hshN; rw [f1, if_neg h0]
    have F1 := Lib.hid f1; have F2 := Lib.hid f2
    have d1 : (elE w key != 0) = true := by simpa using h0
    clear f1 f2 h0
    go_enter Tryz.func51, Tryz.ntmps51
    go_wp2_with (go_at_call 110; refine (cE).mono ?_; rintro e w' ⟨rfl, rfl⟩)
    go_ret2
    exact ⟨by rw [F1.out, F2.out]; rfl, below_alloc (below_alloc (below_alloc (Below.refl _ _) _) _) _⟩

end Go.Proofs.YtfolgmcoggejbaaGreat
