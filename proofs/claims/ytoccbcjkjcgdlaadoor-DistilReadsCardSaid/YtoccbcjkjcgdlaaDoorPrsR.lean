/- Contract of the reference's Parse. For texts of at most 3000 bytes. -/
import Derived.Test.YtoccbcjkjcgdlaaDoorPrsW
namespace Go.Proofs.YtoccbcjkjcgdlaaDoor
open Go.RowKit
set_option linter.unusedVariables false
set_option linter.unusedSimpArgs false

theorem words_at (k : Nat) (h1 : 1 ≤ k) (h2 : k ≤ 4) (w : World) : Calls Tryd.prog 43 #[] w fun e w' => ∃ b, e = .returned (.slice (some ⟨b, 0, none⟩) 5 5) ∧ w'.cell? ⟨b, k, none⟩ = some (.string ⟨(wordL (k : Int)).toArray⟩) ∧ Below w.heap.size w w' := by
  refine (words_any w).mono ?_
  rintro e w' ⟨b, rfl, k1, k2, k3, k4, hb⟩
  refine ⟨b, rfl, ?_, hb⟩
  rcases (show k = 1 ∨ k = 2 ∨ k = 3 ∨ k = 4 by omega) with rfl | rfl | rfl | rfl
  · exact k1
  · exact k2
  · exact k3
  · exact k4
theorem byte_at (S : List UInt8) (i : Nat) (h : i < S.length) (hp : i < (⟨S.toArray⟩ : ByteArray).size) : (⟨S.toArray⟩ : ByteArray)[i] = S[i] := by
  show S.toArray[i] = S[i]
  simp
/-- The kind so far. -/
def kindV (n : List UInt8) : Nat → Int
  | 0 => 0
  | 1 => 0
  | k + 2 => if n = wordL ((k + 1 : Nat) : Int) ++ [32] then ((k + 1 : Nat) : Int) else kindV n (k + 1)
theorem kindV_all (n : List UInt8) : kindV n 5 = kindR n := rfl
theorem kindV_step {n : List UInt8} {k : Nat} (hk : 1 ≤ k) : kindV n (k + 1) = if n = wordL (k : Int) ++ [32] then (k : Int) else kindV n k := by
  obtain ⟨j, rfl⟩ : ∃ j, k = j + 1 := ⟨k - 1, by omega⟩
  rfl

/-- A piece of a text. -/
def pc (S : List UInt8) (f a : Nat) : List UInt8 := (S.take a).drop f
theorem pc_nil (S : List UInt8) (f : Nat) : pc S f f = [] := by unfold pc; rw [List.drop_take]; simp
theorem pc_snoc {S : List UInt8} {f b : Nat} (hf : f ≤ b) (hb : b < S.length) : pc S f (b + 1) = pc S f b ++ [S[b]] := by
  unfold pc
  rw [List.take_succ_eq_append_getElem hb, List.drop_append_of_le_length (by simp; omega)]
theorem pc_len {S : List UInt8} {f a : Nat} (ha : a ≤ S.length) : (pc S f a).length = a - f := by unfold pc; simp; omega
theorem pc_take {S : List UInt8} {f a i : Nat} (h1 : f ≤ a) (h2 : a ≤ i) : (pc S f i).take (a - f) = pc S f a := by
  unfold pc
  rw [List.drop_take, List.drop_take, List.take_take, Nat.min_eq_left (by omega)]
theorem ten_le {j : Nat} (h : j < 6) : 10 ^ j ≤ 100000 := by
  rcases (show j = 0 ∨ j = 1 ∨ j = 2 ∨ j = 3 ∨ j = 4 ∨ j = 5 by omega) with rfl | rfl | rfl | rfl | rfl | rfl <;> decide
/-- How the digits are gone through from the end: a is the place, N the number so far, U the unit. -/
structure BackI (S : List UInt8) (f i a N U j : Nat) : Prop where
  sum : a + j = i
  j6 : j ≤ 6
  unit : U = 10 ^ j
  low : N < U
  num : numB 6 (pc S f i).reverse = (j + (numB (6 - j) (pc S f a).reverse).1, N + U * (numB (6 - j) (pc S f a).reverse).2)
theorem BackI.step {S : List UInt8} {f i b N U j n m : Nat} (h : BackI S f i (b + 1) N U j) (hf : f ≤ b) (hb : b < S.length) (hn : S[b].toNat = n) (hm : n = m + 48) (h9 : m ≤ 9) (hj : j < 6) : BackI S f i b (N + U * m) (10 * U) (j + 1) := by
  obtain ⟨h1, h2, h3, h4, h5⟩ := h
  have e6 : 6 - j = (6 - (j + 1)) + 1 := by omega
  rw [pc_snoc hf hb, List.reverse_append, e6] at h5
  simp only [List.reverse_cons, List.reverse_nil, List.nil_append, List.cons_append, numB] at h5
  rw [hn, if_pos (by omega)] at h5
  refine ⟨by omega, by omega, by rw [h3, Nat.pow_succ, Nat.mul_comm], ?_, ?_⟩
  · have : U * m ≤ U * 9 := Nat.mul_le_mul_left _ h9
    omega
  · rw [h5, show n - 48 = m from by omega]
    refine Prod.ext ?_ ?_
    · simp only; omega
    · simp only
      rw [Nat.mul_add, Nat.mul_comm 10 U, Nat.mul_assoc]
      omega
theorem BackI.stop {S : List UInt8} {f i a N U j : Nat} (h : BackI S f i a N U j) (he : a = f ∨ j = 6 ∨ (∃ b, a = b + 1 ∧ f ≤ b ∧ ∃ hb : b < S.length, S[b].toNat < 48 ∨ 57 < S[b].toNat)) : numB 6 (pc S f i).reverse = (j, N) := by
  obtain ⟨h1, h2, h3, h4, h5⟩ := h
  have z : numB (6 - j) (pc S f a).reverse = (0, 0) := by
    rcases he with rfl | rfl | ⟨b, rfl, hf, hb, hd⟩
    · rw [pc_nil]; cases 6 - j <;> rfl
    · rfl
    · rw [pc_snoc hf hb, List.reverse_append]
      simp only [List.reverse_cons, List.reverse_nil, List.nil_append, List.cons_append]
      cases 6 - j with
      | zero => rfl
      | succ k => rw [numB, if_neg (by omega)]
  rw [h5, z]; simp
theorem itm_back {S : List UInt8} {f i a N j : Nat} (h : numB 6 (pc S f i).reverse = (j, N)) (hs : a + j = i) (hf : f ≤ a) (hi : i ≤ S.length) : itmR (pc S f i) = ⟨kindR (pc S f a), (N : Int)⟩ := by
  unfold itmR
  rw [h, pc_len hi]
  simp only
  rw [show i - f - j = a - f from by omega, pc_take hf (by omega)]

theorem mulw {N U m : Nat} (hU : U ≤ 1000000) (hN : N ≤ 1000000) (h9 : m ≤ 9) : wrap64 ((N : Int) + wrap64 ((U : Int) * (m : Int))) = ((N + U * m : Nat) : Int) := by
  have hb : U * m ≤ 1000000 * 9 := Nat.mul_le_mul hU h9
  have e : (U : Int) * (m : Int) = ((U * m : Nat) : Int) := by simp
  have hb2 : ((U * m : Nat) : Int) ≤ ((1000000 * 9 : Nat) : Int) := Int.ofNat_le.2 hb
  have h1 : wrap64 ((U * m : Nat) : Int) = ((U * m : Nat) : Int) := IntWalk.wrap64_in _ (by omega)
  have h2 : (N : Int) + ((U * m : Nat) : Int) = ((N + U * m : Nat) : Int) := (Int.natCast_add N (U * m)).symm
  rw [e, h1, h2]
  exact IntWalk.wrap64_in _ (by omega)
theorem ext_pc (S : List UInt8) (f a : Nat) : (⟨S.toArray⟩ : ByteArray).extract f a = ⟨(pc S f a).toArray⟩ := by
  have h : ((⟨S.toArray⟩ : ByteArray).extract f a).data.toList = pc S f a := by
    rw [Lib.extract_data]
    unfold pc
    simp [List.drop_take]
  have h2 : ((⟨S.toArray⟩ : ByteArray).extract f a).data = (pc S f a).toArray := by rw [← h]
  exact ByteArray.ext h2
/-- Why the loop over the digits ends. -/
theorem back_ends {S : List UInt8} {f i a N U j : Nat} (h : BackI S f i a N U j) (hfa : f ≤ a) (ha : a ≤ S.length) (hno : ¬ ∃ b m, a = b + 1 ∧ f ≤ b ∧ (∃ hb : b < S.length, S[b].toNat = m + 48) ∧ m ≤ 9 ∧ j < 6) :
    (a = f ∨ (∃ b n, a = b + 1 ∧ f ≤ b ∧ (∃ hb : b < S.length, S[b].toNat = n) ∧ (n < 48 ∨ 48 ≤ n ∧ 57 < n ∨ 48 ≤ n ∧ n ≤ 57 ∧ 100000 < U))) ∧ numB 6 (pc S f i).reverse = (j, N) := by
  by_cases h0 : a = f
  · exact ⟨.inl h0, h.stop (.inl h0)⟩
  · obtain ⟨b, rfl⟩ : ∃ b, a = b + 1 := ⟨a - 1, by omega⟩
    have hb : b < S.length := by omega
    rcases Nat.lt_or_ge S[b].toNat 48 with hl | hl
    · exact ⟨.inr ⟨b, _, rfl, by omega, ⟨hb, rfl⟩, .inl hl⟩, h.stop (.inr (.inr ⟨b, rfl, by omega, hb, .inl hl⟩))⟩
    · rcases Nat.lt_or_ge 57 S[b].toNat with hg | hg
      · exact ⟨.inr ⟨b, _, rfl, by omega, ⟨hb, rfl⟩, .inr (.inl ⟨hl, hg⟩)⟩, h.stop (.inr (.inr ⟨b, rfl, by omega, hb, .inr hg⟩))⟩
      · have hj : j = 6 := by
          have := h.j6
          rcases Nat.lt_or_ge j 6 with h6 | h6
          · exact (hno ⟨b, S[b].toNat - 48, rfl, by omega, ⟨hb, by omega⟩, by omega, h6⟩).elim
          · omega
        have hu := h.unit
        rw [hj] at hu
        exact ⟨.inr ⟨b, _, rfl, by omega, ⟨hb, rfl⟩, .inr (.inr ⟨hl, hg, by omega⟩)⟩, h.stop (.inr (.inl hj))⟩

set_option maxRecDepth 100000 in
set_option maxHeartbeats 4000000 in
theorem rParse_any (S : List UInt8) (w : World) (hS : S.length ≤ 3000) :
    Calls Tryd.prog 18 #[.string ⟨S.toArray⟩] w fun e w' => ∃ v E L, e = .returned (.tuple #[v, .int .i64 E]) ∧ Own w' w.heap.size 71 2 Itm.enc v L ∧ ReadR S E L ∧ L.length ≤ 3000 ∧ Below w.heap.size w w' := by
  obtain ⟨i0, hi, hz0, hz1, hz2⟩ := iparts item_info
  have Hi := Lib.hid hi; have Hz0 := Lib.hid hz0; have Hz1 := Lib.hid hz1; have Hz2 := Lib.hid hz2
  clear hi hz0 hz1 hz2
  have hsz : (⟨S.toArray⟩ : ByteArray).size = S.length := by show S.toArray.size = _; simp
  have d1 : decide (65536 < (S.length : Int)) = false := by simp; omega
  go_enter Tryd.func18, Tryd.ntmps18
  go_wp2_with fail
  go_loopw [4, 5, 6] (fun lv fv iv wr => ∃ (i f : Nat) (L : List Itm), i ≤ S.length ∧ f ≤ i ∧ iv = .int .i64 i ∧ fv = .int .i64 f ∧ L.length ≤ i ∧ Hid (L ++ refG (pc S f i) (S.drop i) = refG [] S) ∧ Own wr w.heap.size 71 2 Itm.enc lv L ∧ Below w.heap.size w wr) (fun _ _ i _ => S.length - (intOf i).toNat)
  case atStart => exact ⟨0, 0, [], Nat.zero_le _, Nat.le_refl _, rfl, rfl, by simp, Lib.hid rfl, Own.nil, Below.refl _ _⟩
  case round =>
    obtain ⟨i, f, L, hi, hf, rfl, rfl, hl, hinv, ow, hb⟩ := hrel
    obtain ⟨w6, rfl⟩ : ∃ w6, w6 = wr := ⟨_, rfl⟩
    by_cases hlt : i < S.length
    · have d2 : decide (i < S.length) = true := by simp; omega
      have hp : i < (⟨S.toArray⟩ : ByteArray).size := by rw [hsz]; exact hlt
      obtain ⟨c, hc⟩ : ∃ c, S[i] = c := ⟨_, rfl⟩
      have hdr : S.drop i = c :: S.drop (i + 1) := by rw [← hc]; exact List.drop_eq_getElem_cons hlt
      obtain ⟨n, hn⟩ : ∃ n, c.toNat = n := ⟨_, rfl⟩
      have hbt : ((⟨S.toArray⟩ : ByteArray)[i]'hp).toNat = n := by rw [byte_at S i hlt hp, hc, hn]
      have hinv2 := hinv.out
      rw [hdr] at hinv2
      by_cases h10 : c = 10
      · subst h10
        have e1 : ((n : Int) != 10) = false := by rw [← hn]; rfl
        rw [refG, if_pos rfl] at hinv2
        have Hinv2 := Lib.hid hinv2
        have Hn := Lib.hid hn
        clear hinv2 hc hdr hn
        go_wp2_with fail
        go_loopw [7, 8, 9] (fun av nv uv wr => ∃ a N U j : Nat, f ≤ a ∧ a ≤ i ∧ av = .int .i64 a ∧ nv = .int .i64 N ∧ uv = .int .i64 U ∧ N < U ∧ U ≤ 1000000 ∧ Hid (BackI S f i a N U j) ∧ w6 = wr) (fun a _ _ _ => (intOf a).toNat)
        case atStart => exact ⟨i, 0, 1, 0, hf, Nat.le_refl _, rfl, rfl, rfl, by decide, by decide, Lib.hid ⟨rfl, by decide, rfl, by decide, by simp⟩, rfl⟩
        case round =>
          obtain ⟨a, N, U, j, hfa, hai, rfl, rfl, rfl, hNU, hU, bk, rfl⟩ := hrel
          clear e1 hbt
          by_cases hgo : ∃ b m, a = b + 1 ∧ f ≤ b ∧ (∃ hb : b < S.length, S[b].toNat = m + 48) ∧ m ≤ 9 ∧ j < 6
          · obtain ⟨b, m, rfl, hfb, ⟨hbl, hbn⟩, h9, hj6⟩ := hgo
            have bk2 := Lib.hid (bk.out.step hfb hbl hbn rfl h9 hj6)
            have hp2 : b < (⟨S.toArray⟩ : ByteArray).size := by rw [hsz]; exact hbl
            obtain ⟨n2, hn2⟩ : ∃ n2, m + 48 = n2 := ⟨_, rfl⟩
            have hbt2 : ((⟨S.toArray⟩ : ByteArray)[b]'hp2).toNat = n2 := by rw [byte_at S b hbl hp2, hbn, hn2]
            have d3 : decide (f < b + 1) = true := by simp; omega
            have d4 : decide ((48 : Int) ≤ (n2 : Int)) = true := by simp; omega
            have d5 : decide ((n2 : Int) ≤ 57) = true := by simp; omega
            have hU2 : U ≤ 100000 := by rw [bk.out.unit]; exact ten_le hj6
            have d6 : decide ((U : Int) ≤ 100000) = true := by simp; omega
            have hm2 : (n2 : Int) - 48 = (m : Int) := by omega
            clear hn2 hbn
            go_wp2_with fail
            exact ⟨⟨b, N + U * m, 10 * U, j + 1, hfb, by omega, rfl, by rw [mulw hU (by omega) h9], by go_num, bk2.out.low, by omega, bk2, trivial⟩, by simp [intOf]⟩
          · obtain ⟨ways, hnum⟩ := back_ends bk.out hfa (by omega) hgo
            have hit := itm_back hnum bk.out.sum hfa (by omega)
            rw [hit] at Hinv2
            have hsum := bk.out.sum
            have hpl := pc_len (S := S) (f := f) (a := a) (by omega)
            clear hit hnum hgo bk
            have ways2 : (decide (f < a) = false) ∨ (∃ b n : Nat, ∃ hp2 : b < (⟨S.toArray⟩ : ByteArray).size, (a : Int) - 1 = (b : Int) ∧ ((⟨S.toArray⟩ : ByteArray)[b]'hp2).toNat = n ∧ decide (f < a) = true ∧
                (decide ((48 : Int) ≤ (n : Int)) = false ∨ (decide ((48 : Int) ≤ (n : Int)) = true ∧ decide ((n : Int) ≤ 57) = false) ∨ (decide ((48 : Int) ≤ (n : Int)) = true ∧ decide ((n : Int) ≤ 57) = true ∧ decide ((U : Int) ≤ 100000) = false))) := by
              rcases ways with rfl | ⟨b, n, rfl, hfb, ⟨hb2, hbn⟩, hw⟩
              · exact .inl (by simp)
              · refine .inr ⟨b, n, by rw [hsz]; exact hb2, by omega, by rw [byte_at S b hb2 _, hbn], by simp; omega, ?_⟩
                simp only [decide_eq_true_eq, decide_eq_false_iff_not]
                omega
            clear ways
            rcases ways2 with d3 | ⟨b, n2, hp2, ea, hbt2, d3, d4 | ⟨d4, d5⟩ | ⟨d4, d5, d6⟩⟩
            all_goals (
              go_wp2_with fail
              go_loopw [10, 11] (fun kv i wr => ∃ k : Nat, 1 ≤ k ∧ k ≤ 5 ∧ i = .int .i64 k ∧ kv = .int .i64 (kindV (pc S f a) k) ∧ Below w6.heap.size w6 wr) (fun _ i _ => 5 - (intOf i).toNat)
              case atStart => exact ⟨1, by decide, by decide, rfl, rfl, Below.refl _ _⟩
              case round =>
                obtain ⟨k, hk1, hk5, rfl, rfl, hb9⟩ := hrel
                obtain ⟨w9, rfl⟩ : ∃ w9, w9 = wr := ⟨_, rfl⟩
                by_cases hk : k < 5
                · have d7 : decide ((k : Int) ≤ 4) = true := by simp; omega
                  have st := kindV_step (n := pc S f a) hk1
                  have sl : ∀ w' : World, (Instr.slice 9 (.string ⟨S.toArray⟩) (some (.int .i64 (f : Int))) (some (.int .i64 (a : Int))) none).run Tryd.prog w' = .ok (.string ⟨(pc S f a).toArray⟩) w' := fun w' => by
                    rw [run_slice_string _ 9 _ .i64 .i64 (f : Int) (a : Int) Tryd.underlying9 (by omega) (by omega) (by rw [hsz]; omega), Int.toNat_natCast, Int.toNat_natCast, ext_pc]
                  obtain ⟨W, hW⟩ : ∃ W, wordL (k : Int) = W := ⟨_, rfl⟩
                  have wl := word_len (k : Int)
                  have cW := fun w' => words_at k hk1 (by omega) w'
                  rw [hW] at st wl
                  simp only [hW] at cW
                  obtain ⟨X1, hX1⟩ : ∃ X, W ++ [32] = X := ⟨_, rfl⟩
                  have s1 : ∀ w' : World, (Op.stringOp .add ⟨W.toArray⟩ ⟨#[32]⟩).run Tryd.prog w' = .ok (.string ⟨X1.toArray⟩) w' := fun w' => by rw [← hX1]; exact run_string_add_lists w' W [32] (by omega) (by simp)
                  rw [hX1] at st
                  obtain ⟨nm, hnm⟩ : ∃ nm, pc S f a = nm := ⟨_, rfl⟩
                  rw [hnm] at st sl ⊢
                  have hS0 : Below w9.heap.size w9 w9 := Below.refl _ _
                  clear hX1 hW
                  go_wp2_with fail
                  refine wp_region_held_drew (S := fun w' => Below w9.heap.size w9 w') (by kernel_rfl) (Below.refl _ _).drew (fun hHeld => ?_)
                  (refine wpAnyH_take (i := 0) (v := ?_) rfl (by kernel_rfl) (by kernel_rfl) (by kernel_rfl) (fun _ _ _ h => h) (Or.inl ⟨by rfl, ?_⟩) (by assumption) ?_; rotate_left 1; (focus (intro wz hSz; (try dsimp only at hSz); go_simp; (try with_reducible rfl))); (try simp only [Act.put, List.setIfInBounds_toArray, List.set_cons_zero, List.set_cons_succ]))
                  (refine wpAnyH_take (i := 1) (v := ?_) rfl (by kernel_rfl) (by kernel_rfl) (by kernel_rfl) (fun _ _ _ h => h) (Or.inl ⟨by rfl, ?_⟩) (by assumption) ?_; rotate_left 1; (focus (intro wz hSz; (try dsimp only at hSz); go_simp; (try with_reducible rfl))); (try simp only [Act.put, List.setIfInBounds_toArray, List.set_cons_zero, List.set_cons_succ]))
                  (refine wpAnyH_take (i := 2) (v := ?_) rfl (by kernel_rfl) (by kernel_rfl) (by kernel_rfl) (fun _ _ _ h => h) (Or.inl ⟨by rfl, ?_⟩) (by assumption) ?_; rotate_left 1; (focus (intro wz hSz; (try dsimp only at hSz); go_simp; (try with_reducible rfl))); (try simp only [Act.put, List.setIfInBounds_toArray, List.set_cons_zero, List.set_cons_succ]))
                  (refine wpAnyH_take (i := 3) (v := ?_) rfl (by kernel_rfl) (by kernel_rfl) (by kernel_rfl) (fun _ _ _ h => h) (Or.inl ⟨by rfl, ?_⟩) (by assumption) ?_; rotate_left 1; (focus (intro wz hSz; (try dsimp only at hSz); go_simp; (try with_reducible rfl))); (try simp only [Act.put, List.setIfInBounds_toArray, List.set_cons_zero, List.set_cons_succ]))
                  (refine wpAnyH_take (i := 5) (v := ?_) rfl (by kernel_rfl) (by kernel_rfl) (by kernel_rfl) (fun _ _ _ h => h) (Or.inl ⟨by rfl, ?_⟩) (by assumption) ?_; rotate_left 1; (focus (intro wz hSz; (try dsimp only at hSz); go_simp; (try with_reducible rfl))); (try simp only [Act.put, List.setIfInBounds_toArray, List.set_cons_zero, List.set_cons_succ]))
                  refine wpAnyH_ready (rs := [4]) (by kernel_rfl) (by simp) ?_
                  refine AllReadyH.cons rfl (fun K hK => ?_) AllReadyH.nil
                  go_simp
                  refine (cW _).mono ?_
                  rintro e y1 ⟨b1, rfl, k1, hx1⟩
                  go_wp2_with fail
                  refine hK.out _ _ (below_trans hHeld hx1) (fun hHeld2 => ?_)
                  clear hK K
                  try simp only [Act.put, List.setIfInBounds_toArray, List.set_cons_zero, List.set_cons_succ]
                  refine held_mono (S' := fun w' => Below y1.heap.size y1 w') (fun w' h => below_trans hHeld2 h) _ _ _ _ ?_
                  have hS1 : Below y1.heap.size y1 y1 := Below.refl _ _
                  have M1 := fun w' (hb' : Below y1.heap.size y1 w') => bel_cell hb' k1
                  have k50 : (k : Int) < 5 := by omega
                  clear k1
                  (refine wpAnyH_take (i := 6) (v := ?_) rfl (by kernel_rfl) (by kernel_rfl) (by kernel_rfl) (fun _ _ _ h => h) (Or.inl ⟨by rfl, ?_⟩) (by assumption) ?_; rotate_left 1; (focus (intro wz hSz; (try dsimp only at hSz); go_simp; (try with_reducible rfl))); (try simp only [Act.put, List.setIfInBounds_toArray, List.set_cons_zero, List.set_cons_succ]))
                  (refine wpAnyH_take (i := 7) (v := ?_) rfl (by kernel_rfl) (by kernel_rfl) (by kernel_rfl) (fun _ _ _ h => h) (Or.inl ⟨by rfl, ?_⟩) (by assumption) ?_; rotate_left 1; (focus (intro wz hSz; (try dsimp only at hSz); go_simp; (try with_reducible rfl))); (try simp only [Act.put, List.setIfInBounds_toArray, List.set_cons_zero, List.set_cons_succ]))
                  (refine wpAnyH_take (i := 8) (v := ?_) rfl (by kernel_rfl) (by kernel_rfl) (by kernel_rfl) (fun _ _ _ h => h) (Or.inl ⟨by rfl, ?_⟩) (by assumption) ?_; rotate_left 1; (focus (intro wz hSz; (try dsimp only at hSz); go_simp; (try with_reducible rfl))); (try simp only [Act.put, List.setIfInBounds_toArray, List.set_cons_zero, List.set_cons_succ]))
                  (refine wpAnyH_take (i := 9) (v := ?_) rfl (by kernel_rfl) (by kernel_rfl) (by kernel_rfl) (fun _ _ _ h => h) (Or.inl ⟨by rfl, ?_⟩) (by assumption) ?_; rotate_left 1; (focus (intro wz hSz; (try dsimp only at hSz); go_simp; (try with_reducible rfl))); (try simp only [Act.put, List.setIfInBounds_toArray, List.set_cons_zero, List.set_cons_succ]))
                  refine wpAnyH_done (by kernel_rfl) ?_ _
                  clear s1 sl cW M1
                  have q9 := below_trans hb9 hHeld2
                  by_cases he : nm = X1
                  · rw [if_pos he] at st
                    have e9 : (nm == X1) = true := by simpa using he
                    clear he
                    rw [e9]
                    go_wp2_with fail
                    exact ⟨⟨k + 1, by omega, by omega, by go_num, by rw [st], q9⟩, by simp [intOf]; omega⟩
                  · rw [if_neg he] at st
                    have e9 : (nm == X1) = false := by simpa using he
                    clear he
                    rw [e9]
                    go_wp2_with fail
                    exact ⟨⟨k + 1, by omega, by omega, by go_num, by rw [st], q9⟩, by simp [intOf]; omega⟩
                · obtain rfl : k = 5 := by omega
                  rw [kindV_all]
                  have ow9 := ow.below hb9
                  have q9 := below_trans hb hb9
                  have sz := q9.size
                  have oby : (L.length + 1) * 16 ≤ 140737488355328 := by omega
                  have o16 : 0 < 16 := by decide
                  have hL1 : L.length + 1 ≤ i + 1 := by omega
                  have hrel2 : Hid ((L ++ [⟨kindR (pc S f a), (N : Int)⟩]) ++ refG (pc S (i + 1) (i + 1)) (S.drop (i + 1)) = refG [] S) := Lib.hid (by rw [pc_nil, ← Hinv2.out]; simp)
                  generalize kindR (pc S f a) = K at *
                  clear Hinv2 hinv
                  go_wp2_with (at_builtin; refine wpList_snoc rfl _ _ 45 rfl w.heap.size 71 i0 _ 2 16 Tryd.underlying45 Hi.out Hz0.out Hz1.out Hz2.out rfl (by decide) _ L ⟨K, N⟩ #[.int .i64 K, .int .i64 N] 71 rfl ow9 rfl rfl rfl (Itm.one _) oby o16 sz rfl ?_; intro v5 w11 own11 hb11)
                  exact ⟨⟨i + 1, i + 1, L ++ [⟨K, (N : Int)⟩], by omega, Nat.le_refl _, by go_num, by go_num, by simp; omega, hrel2, own11, q9.trans hb11⟩, by simp [intOf]; omega⟩)
      · have e1 : ((n : Int) != 10) = true := by
          have : n ≠ 10 := fun h => h10 (UInt8.toNat_inj.1 (by rw [hn, h]; rfl))
          simp; omega
        rw [refG, if_neg h10] at hinv2
        have hcur : pc S f (i + 1) = pc S f i ++ [c] := by rw [pc_snoc hf hlt, hc]
        rw [← hcur] at hinv2
        have Hinv2 := Lib.hid hinv2
        clear hinv2 hc hdr hn hcur h10
        go_wp2_with fail
        exact ⟨⟨i + 1, f, L, by omega, by omega, by go_num, rfl, by omega, Hinv2, ow, hb⟩, by simp [intOf]; omega⟩
    · have d2 : decide (i < S.length) = false := by simp; omega
      obtain rfl : i = S.length := by omega
      have hL : L = refG [] S := by have := hinv.out; simpa [refG] using this
      obtain ⟨A, c, rfl, lc, mc, nc, ar⟩ := ow.form Itm.enc_len
      have cT := rText_any A c L w6 ar (by omega)
      have hl3 : L.length ≤ 3000 := by omega
      rcases read_ref (s := S) with ⟨h1, h2, h3⟩ | ⟨h1, h3⟩
      · rw [← hL] at h1 h2 h3
        rw [if_pos h1, h1, h2] at cT
        clear hL
        go_wp2_with (go_at_call 44; refine cT.mono ?_; rintro e w7 ⟨rfl, hb7⟩)
        go_ret2
        exact ⟨_, 0, L, rfl, ow.below hb7, h3, hl3, below_trans hb hb7⟩
      · rw [← hL] at h1
        clear hL
        by_cases h0 : ledE L = 0
        · rw [if_pos h0, h0] at cT
          have h2 : (textL L == S) = false := by simpa using fun h => h1 ⟨h0, h⟩
          clear h1 h0
          generalize textL L = T at *
          go_wp2_with (go_at_call 44; refine cT.mono ?_; rintro e w7 ⟨rfl, hb7⟩)
          go_ret2
          exact ⟨_, 6, [], rfl, Own.nil, h3, by decide, below_trans hb hb7⟩
        · rw [if_neg h0] at cT
          have h0' : (ledE L != 0) = true := by simpa using h0
          generalize ledE L = E at *
          clear h1 h0
          go_wp2_with (go_at_call 44; refine cT.mono ?_; rintro e w7 ⟨rfl, hb7⟩)
          go_ret2
          exact ⟨_, 6, [], rfl, Own.nil, h3, by decide, below_trans hb hb7⟩

end Go.Proofs.YtoccbcjkjcgdlaaDoor
