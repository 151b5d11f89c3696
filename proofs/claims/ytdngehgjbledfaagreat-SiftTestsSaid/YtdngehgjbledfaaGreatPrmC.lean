/- Contract of the reference's sorted. For at most 65536 numbers. -/
import Derived.Test.YtdngehgjbledfaaGreatPrmB
import Derived.Deep.RegionHeld3
namespace Go.Proofs.YtdngehgjbledfaaGreat
open Go.RowKit
set_option linter.unusedVariables false
set_option linter.unusedSimpArgs false

/-- 'out = append(out, xs...)' in a region that draws its order: out is the call's own, xs reads as a list. -/
theorem step_app {P : Program} {W : World} {ops : Array Oper} {o : Oper} {a : Act} {K : Act → World → Prop} {Q : Exit → Act → World → Prop} {E : Prop} (hgd : o.guard = none) (s x : Operand) (t : TypeId)
    (ho : o.op = .call { callee := .builtin .append, args := #[s, x], argTypes := #[t, t] })
    (base : Nat) (e : TypeId) (i : TypeInfo) (z : Value) (size bytes : Nat) (ht : P.underlying t = some (.slice e)) (hi : P.info? e = some i) (hz : i.zero = some z)
    (hsize : i.size = size) (hby : i.bytes = bytes) (hzs : z.cells.size = size) (hsz : 0 < size)
    {α : Type} {enc : α → List Value} (hs' : ∀ x, (enc x).length = size) (h1 : ∀ x, ∀ u ∈ enc x, u.oneCell' = true) (v : Value) (l : List α) (l2 : List α) (A : Option Addr) (n c B : Nat) (hn : l2.length = n) (hs : a.eval s = v) (hown : Own W base e size enc v l)
    (hx : a.eval x = .slice A n c) (hA : Arr size enc W B A l2) (hnil : A = none → c = 0)
    (hbytes : (l.length + l2.length) * bytes ≤ 140737488355328) (hbp : 0 < bytes) (hbase : base ≤ W.heap.size)
    (h : ∀ v' w', Own w' base e size enc v' (l ++ l2) → Below base W w' → W.grownBy w' v.ownBlock → K (a.put o.dst v') w') : if Region.wanted o (yielded ops a.tmps) = true then Oper.wp P o a W K Q else E := by
  subst hn
  have h63 : l.length + l2.length ≤ maxLen := by
    have := Nat.le_mul_of_pos_right (l.length + l2.length) hbp
    unfold maxLen; omega
  rw [if_pos (by simp [Region.wanted, hgd])]
  have hgo : ∀ ad, A = some ad → (∀ j u, (l2.flatMap enc)[j]? = some u → W.cell? (ad.add j) = some u) → Oper.wp P o a W K Q := by
    rintro ad rfl hnews
    refine wp_append_own W s x t ho base e i z size bytes ht hi hz hsize hby hzs hsz v l.length (l.flatMap enc) hs hown ad l2.length c (l2.flatMap enc) hx (flat_len hs' l2) hnews (fun u hu => ?_) h63 hbytes hbase (fun v' w' h2 h3 _ => h v' w' ?_ ?_ h3)
    · obtain ⟨y, _, hy⟩ := List.mem_flatMap.1 hu
      exact h1 y u hy
    · unfold Own; rw [List.length_append, List.flatMap_append]; exact h2
    · exact (Below.refl _ _).grown h3 hbase (fun k hk => (World.ownsRow.lt hown k hk).1)
  cases l2 with
  | nil =>
    cases A with
    | none =>
      obtain rfl : c = 0 := hnil rfl
      have hrun := run_append_owned_none (P := P) (w := W) base t o.type e i size ht hi v l.length (l.flatMap enc) hown
      unfold Oper.wp
      have hx' : a.eval x = .slice none 0 0 := hx
      simp [execOp, ho, resolve, invoke, builtin, hs, hx', hrun, Result.andThen]
      exact h v W (by simpa using hown) (Below.refl _ _) ⟨rfl, rfl, rfl, Nat.le_refl _, fun _ _ _ => rfl⟩
    | some ad => exact hgo ad rfl (by simp)
  | cons y ys =>
    obtain ⟨b, off, rfl, _, hc⟩ := hA (by simp)
    exact hgo _ rfl (flat_cell hs' hsz hc)

theorem arr_dp {α : Type} {enc : α → List Value} {w : World} {B b off : Nat} {l : List α} (h : Arr 1 enc w B (some ⟨b, off, none⟩) l) (n : Nat) : Arr 1 enc w B (some ⟨b, off + n, none⟩) (l.drop n) := fun hl => by
  obtain ⟨b', off', he, hb, hc⟩ := h (by rintro rfl; simp at hl)
  cases he
  refine ⟨b, off + n, rfl, hb, fun i x hx j u hu => ?_⟩
  have := hc (n + i) x (by simpa using hx) j u hu
  rw [show off + n + i * 1 + j = off + (n + i) * 1 + j from by omega]; exact this
theorem arr_tk {α : Type} {sz : Nat} {enc : α → List Value} {w : World} {B : Nat} {A : Option Addr} {l : List α} (h : Arr sz enc w B A l) (n : Nat) : Arr sz enc w B A (l.take n) := fun hl => by
  obtain ⟨b, off, rfl, hb, hc⟩ := h (by rintro rfl; simp at hl)
  exact ⟨b, off, rfl, hb, fun i x hx => hc i x (by
    rw [List.getElem?_take] at hx
    split at hx
    · exact hx
    · cases hx)⟩
theorem cell_lit {w : World} {g : Nat} {x : Int} (h : w.cell? ⟨g, 0, none⟩ = some (.int .i64 x)) : ∀ j u, (encI x)[j]? = some u → w.cell? ⟨g, j, none⟩ = some u := fun j u hu => by
  cases j with
  | zero => obtain rfl : Value.int .i64 x = u := by simpa [encI] using hu
            exact h
  | succ j => simp [encI] at hu
theorem nxt_cons (y : Int) (L : List Int) (x : Int) : nxtN (y :: L) x = if y < x then nxtN L x + 1 else 0 := by
  unfold nxtN
  rw [List.takeWhile_cons]
  by_cases h : y < x
  · simp [h]
  · simp [h]
theorem at_le {x : Int} : ∀ {L : List Int} {a : Nat}, a < nxtN L x → ∃ y, L[a]? = some y ∧ y < x
  | [], a, h => by simp [nxtN] at h
  | y :: L, a, h => by
    rw [nxt_cons] at h
    split at h
    · rename_i hy
      cases a with
      | zero => exact ⟨y, rfl, hy⟩
      | succ a => simpa using at_le (L := L) (a := a) (by omega)
    · omega
theorem at_eq {x : Int} : ∀ {L : List Int} {y : Int}, L[nxtN L x]? = some y → ¬ y < x
  | [], y, h => by simp at h
  | z :: L, y, h => by
    rw [nxt_cons] at h
    split at h
    · exact at_eq (L := L) (by simpa using h)
    · rename_i hz
      have : z = y := by simpa using h
      omega
theorem ins_cons (x y : Int) (L : List Int) : insL x (y :: L) = if y < x then y :: insL x L else x :: y :: L := by
  unfold insL
  rw [List.takeWhile_cons, List.dropWhile_cons]
  by_cases h : y < x
  · simp [h]
  · simp [h]
theorem ins_split (x : Int) : ∀ (L : List Int), insL x L = L.take (nxtN L x) ++ [x] ++ L.drop (nxtN L x)
  | [] => rfl
  | y :: L => by
    rw [ins_cons, nxt_cons]
    split
    · rw [ins_split x L]; simp
    · simp
theorem ins_len (x : Int) (L : List Int) : (insL x L).length = L.length + 1 := by
  rw [(insL_perm x L).length_eq]; simp
theorem sort_len (L : List Int) : (sortL L).length = L.length := (sortL_perm L).length_eq
theorem sort_take {l : List Int} {i : Nat} {x : Int} (h : l[i]? = some x) : sortL (l.take (i + 1)) = insL x (sortL (l.take i)) := by
  have hk := (List.getElem?_eq_some_iff.1 h).1
  have he := (List.getElem?_eq_some_iff.1 h).2
  rw [List.take_succ_eq_append_getElem hk, he, sortL_snoc]

set_option maxRecDepth 100000 in
set_option maxHeartbeats 4000000 in
theorem sorted_any (A : Option Addr) (n c : Nat) (l : List Int) (w : World) (hn : l.length = n) (hA : Arr 1 encI w w.heap.size A l) (hm : n ≤ 65536) :
    Calls Tryz.prog 61 #[.slice A n c] w fun e w' => ∃ v, e = .returned v ∧ Own w' w.heap.size 3 1 encI v (sortL l) ∧ Below w.heap.size w w' := by
  obtain ⟨i0, hi, hz0, hz1, hz2⟩ := info_parts int_info5
  have Hi := Lib.hid hi; have Hz0 := Lib.hid hz0; have Hz1 := Lib.hid hz1; have Hz2 := Lib.hid hz2
  clear hi hz0 hz1 hz2
  have Hn := Lib.hid hn
  clear hn
  go_enter Tryz.func61, Tryz.ntmps61
  go_wp2_with fail
  go_loopw [3, 4] (fun v i wr => ∃ k : Nat, k ≤ n ∧ i = .int .i64 k ∧ Own wr w.heap.size 3 1 encI v (sortL (l.take k)) ∧ Below w.heap.size w wr) (fun _ i _ => n - (intOf i).toNat)
  case atStart => exact ⟨0, Nat.zero_le _, rfl, Own.nil, Below.refl _ _⟩
  case round =>
    obtain ⟨k, hk, rfl, ow, hb⟩ := hrel
    obtain ⟨w6, rfl⟩ : ∃ w6, w6 = wr := ⟨_, rfl⟩
    rcases Nat.lt_or_ge k n with hlt | hge
    · obtain ⟨x, hx⟩ : ∃ x, l[k]? = some x := ⟨_, List.getElem?_eq_getElem (by rw [Hn.out]; exact hlt)⟩
      obtain ⟨ab, ao, rfl, hab, hc⟩ := (hA.on hb) (by rintro rfl; simp at hx)
      have cx : w6.cell? ⟨ab, ao + k, none⟩ = some (.int .i64 x) := by have := hc k x hx 0 _ rfl; simpa using this
      have st := Lib.hid (sort_take hx)
      have Hx := Lib.hid hx
      have ll : (sortL (l.take k)).length = k := by rw [sort_len, List.length_take, Hn.out]; omega
      obtain ⟨L, hL⟩ : ∃ L, sortL (l.take k) = L := ⟨_, rfl⟩
      rw [hL] at ll ow st
      have nl := nxt_le L x
      obtain ⟨A2, c2, hv, l2, m2, z2, ar2⟩ := ow.form encI_len
      rw [ll] at hv l2
      subst hv
      have Ll := Lib.hid ll
      clear hL hx hc ll
      go_wp2_with fail
      go_loopw [5] (fun iv wr => ∃ a : Nat, a ≤ nxtN L x ∧ iv = .int .i64 a ∧ Below w6.heap.size w6 wr) (fun iv _ => k - (intOf iv).toNat)
      case atStart => exact ⟨0, Nat.zero_le _, rfl, Below.refl _ _⟩
      case round =>
        obtain ⟨a, ha, rfl, hba⟩ := hrel
        obtain ⟨w7, rfl⟩ : ∃ w7, w7 = wr := ⟨_, rfl⟩
        have cx7 := bel_cell hba cx
        rw [Ll.out] at nl
        have ak : a ≤ k := by omega
        have kn : (k : Int) < (n : Int) := by omega
        by_cases hgo : a < nxtN L x
        · obtain ⟨y, hy, hyx⟩ := at_le hgo
          obtain ⟨ob, oo, hA2, hob, hc2⟩ := ar2 (by rintro rfl; simp at hy)
          subst hA2
          have cy : w7.cell? ⟨ob, oo + a, none⟩ = some (.int .i64 y) := bel_cell hba (by have := hc2 a y hy 0 _ rfl; simpa using this)
          have d3 : decide ((a : Int) < (k : Int)) = true := by simp; omega
          have d3' : decide (a < k) = true := by simp; omega
          have i1 : (a : Int) < (k : Int) := by omega
          have i0' : (0 : Int) ≤ (a : Int) := by omega
          have i2 : (0 : Int) ≤ (k : Int) := by omega
          have d4 : decide (y < x) = true := by simpa using hyx
          clear hy hc2
          go_wp2_with fail
          go_quiet (fail)
          go_wp2_with fail
          exact ⟨⟨a + 1, by omega, by go_num, below_trans hba (below_drw _ _)⟩, by simp [intOf]; omega⟩
        · have ha2 : a = nxtN L x := by omega
          have own7 := ow.below hba
          have ways : decide ((a : Int) < (k : Int)) = false ∨ (decide ((a : Int) < (k : Int)) = true ∧ ∃ (ob oo : Nat) (y : Int), A2 = some ⟨ob, oo, none⟩ ∧ w7.cell? ⟨ob, oo + a, none⟩ = some (.int .i64 y) ∧ decide (y < x) = false) := by
            by_cases hak : a < k
            · right
              obtain ⟨y, hy⟩ : ∃ y, L[a]? = some y := ⟨_, List.getElem?_eq_getElem (by rw [Ll.out]; exact hak)⟩
              obtain ⟨ob, oo, hA2, hob, hc2⟩ := ar2 (by rintro rfl; simp at hy)
              refine ⟨by simp; omega, ob, oo, y, hA2, bel_cell hba (by have := hc2 a y hy 0 _ rfl; simpa using this), ?_⟩
              rw [ha2] at hy
              simpa using at_eq hy
            · left; simp; omega
          have Ha2 := Lib.hid ha2
          clear ha2 hgo
          rcases ways with d3 | ⟨d3, ob, oo, y, rfl, cy, d4⟩
          · have d3' : decide (a < k) = false := by simpa using d3
            have hak : a = k := by have : ¬ a < k := by simpa using d3'
                                   omega
            go_wp2_with fail
            go_quiet (fail)
            have bq : Below w6.heap.size w6 (w7.drewN nq) := below_trans hba (below_drw _ _)
            obtain ⟨wq, hwq⟩ : ∃ wq, w7.drewN nq = wq := ⟨_, rfl⟩
            rw [hwq] at bq ⊢
            have bqw := below_trans hb bq
            have bq0 := bqw.size
            have cxq := bel_cell bq cx
            have arq := ar2.on bq
            have L0 := fun w' (hb' : Below wq.heap.size wq w') => bel_cell hb' cxq
            have kn0 : (0 : Int) ≤ (k : Int) := by omega
            have a0 : (0 : Int) ≤ (a : Int) := by omega
            have akI : (a : Int) ≤ (k : Int) := by omega
            have kc : (k : Int) ≤ (c2 : Int) := by omega
            have ac : (a : Int) ≤ (c2 : Int) := by omega
            have hfin0 : L.take a ++ [x] ++ L.drop a = insL x L := by rw [Ha2.out]; exact (ins_split x L).symm
            have htl : (L.take a).length = a := by rw [List.length_take, Ll.out]; omega
            have hdl : (L.drop a).length = k - a := by rw [List.length_drop, Ll.out]
            have hd0 : L.drop a = [] := List.drop_eq_nil_of_le (by rw [Ll.out]; omega)
            have hfin : L.take a ++ [x] ++ [] = insL x L := by have h := hfin0; rw [hd0] at h; exact h
            have arT := arr_tk arq a
            clear cx7 own7 cx hwq d3 d3' hfin0 hdl hd0
            cases A2 with
            | none =>
              have hc0 : c2 = 0 := z2 rfl
              obtain rfl : k = 0 := by omega
              obtain rfl : a = 0 := hak
              subst hc0
              have cxq0 : wq.cell? ⟨ab, ao, none⟩ = some (.int .i64 x) := by simpa using cxq
              have L00 := fun w' (hb' : Below wq.heap.size wq w') => bel_cell hb' cxq0
              clear L0
              have L0 := L00
              have nilT : (none : Option Addr) = none → 0 = 0 := fun _ => rfl
              have nilA : (none : Option Addr) = none → 0 = 0 := fun _ => rfl
              go_wp2_with fail
              refine wp_region_held_drew (S := fun w' => Below wq.heap.size wq w') (by kernel_rfl) (Below.refl _ _).drew (fun hHeld => ?_)
              (refine wpAnyH_take (i := 1) (v := ?_) rfl (by kernel_rfl) (by kernel_rfl) (by kernel_rfl) (fun _ _ _ h => h) (Or.inl ⟨by rfl, ?_⟩) (by assumption) ?_; rotate_left 1; (focus (intro wz hSz; (try dsimp only at hSz); go_simp; (try with_reducible rfl))); (try simp only [Act.put, List.setIfInBounds_toArray, List.set_cons_zero, List.set_cons_succ]))
              (refine wpAnyH_take (i := 2) (v := ?_) rfl (by kernel_rfl) (by kernel_rfl) (by kernel_rfl) (fun _ _ _ h => h) (Or.inl ⟨by rfl, ?_⟩) (by assumption) ?_; rotate_left 1; (focus (intro wz hSz; (try dsimp only at hSz); go_simp; (try with_reducible rfl))); (try simp only [Act.put, List.setIfInBounds_toArray, List.set_cons_zero, List.set_cons_succ]))
              (refine wpAnyH_take (i := 3) (v := ?_) rfl (by kernel_rfl) (by kernel_rfl) (by kernel_rfl) (fun _ _ _ h => h) (Or.inl ⟨by rfl, ?_⟩) (by assumption) ?_; rotate_left 1; (focus (intro wz hSz; (try dsimp only at hSz); go_simp; (try with_reducible rfl))); (try simp only [Act.put, List.setIfInBounds_toArray, List.set_cons_zero, List.set_cons_succ]))
              (refine wpAnyH_take (i := 5) (v := ?_) rfl (by kernel_rfl) (by kernel_rfl) (by kernel_rfl) (fun _ _ _ h => h) (Or.inl ⟨by rfl, ?_⟩) (by assumption) ?_; rotate_left 1; (focus (intro wz hSz; (try dsimp only at hSz); go_simp; (try with_reducible rfl))); (try simp only [Act.put, List.setIfInBounds_toArray, List.set_cons_zero, List.set_cons_succ]))
              (refine wpAnyH_take (i := 6) (v := ?_) rfl (by kernel_rfl) (by kernel_rfl) (by kernel_rfl) (fun _ _ _ h => h) (Or.inl ⟨by rfl, ?_⟩) (by assumption) ?_; rotate_left 1; (focus (intro wz hSz; (try dsimp only at hSz); go_simp; (try with_reducible rfl))); (try simp only [Act.put, List.setIfInBounds_toArray, List.set_cons_zero, List.set_cons_succ]))
              (refine wpAnyH_take (i := 7) (v := ?_) rfl (by kernel_rfl) (by kernel_rfl) (by kernel_rfl) (fun _ _ _ h => h) (Or.inl ⟨by rfl, ?_⟩) (by assumption) ?_; rotate_left 1; (focus (intro wz hSz; (try dsimp only at hSz); go_simp; (try with_reducible rfl))); (try simp only [Act.put, List.setIfInBounds_toArray, List.set_cons_zero, List.set_cons_succ]))
              (refine wpAnyH_take (i := 8) (v := ?_) rfl (by kernel_rfl) (by kernel_rfl) (by kernel_rfl) (fun _ _ _ h => h) (Or.inl ⟨by rfl, ?_⟩) (by assumption) ?_; rotate_left 1; (focus (intro wz hSz; (try dsimp only at hSz); go_simp; (try with_reducible rfl))); (try simp only [Act.put, List.setIfInBounds_toArray, List.set_cons_zero, List.set_cons_succ]))
              (refine wpAnyH_take (i := 11) (v := ?_) rfl (by kernel_rfl) (by kernel_rfl) (by kernel_rfl) (fun _ _ _ h => h) (Or.inl ⟨by rfl, ?_⟩) (by assumption) ?_; rotate_left 1; (focus (intro wz hSz; (try dsimp only at hSz); go_simp; (try with_reducible rfl))); (try simp only [Act.put, List.setIfInBounds_toArray, List.set_cons_zero, List.set_cons_succ]))
              (refine wpAnyH_take (i := 12) (v := ?_) rfl (by kernel_rfl) (by kernel_rfl) (by kernel_rfl) (fun _ _ _ h => h) (Or.inl ⟨by rfl, ?_⟩) (by assumption) ?_; rotate_left 1; (focus (intro wz hSz; (try dsimp only at hSz); go_simp; (try with_reducible rfl))); (try simp only [Act.put, List.setIfInBounds_toArray, List.set_cons_zero, List.set_cons_succ]))
              (refine wpAnyH_take (i := 13) (v := ?_) rfl (by kernel_rfl) (by kernel_rfl) (by kernel_rfl) (fun _ _ _ h => h) (Or.inl ⟨by rfl, ?_⟩) (by assumption) ?_; rotate_left 1; (focus (intro wz hSz; (try dsimp only at hSz); go_simp; (try with_reducible rfl))); (try simp only [Act.put, List.setIfInBounds_toArray, List.set_cons_zero, List.set_cons_succ]))
              refine wpAnyH_ready (rs := [0, 9]) (by kernel_rfl) (by simp) ?_
              refine AllReadyH.cons rfl (fun K1 hK1 => ?_) (AllReadyH.cons rfl (fun K1 hK1 => ?_) AllReadyH.nil)
              · go_simp
                refine hK1.out _ _ ((below_alloc (Below.refl _ _) (.cells #[] 3)).drew) (fun hS1 => ?_)
                try simp only [Act.put, List.setIfInBounds_toArray, List.set_cons_zero, List.set_cons_succ]
                have o1 := (own_empty (α := Int) (sz := 1) (enc := encI) wq wq.heap.size 3 (Nat.le_refl _)).drew
                refine wpAnyH_ready (rs := [4, 9]) (by kernel_rfl) (by simp) ?_
                refine AllReadyH.cons rfl (fun K2 hK2 => ?_) (AllReadyH.cons rfl (fun K2 hK2 => ?_) AllReadyH.nil)
                · skip
                  refine step_app (by rfl) _ _ 54 (by rfl) wq.heap.size 3 i0 _ 1 8 Tryz.underlying54 Hi.out Hz0.out Hz1.out Hz2.out rfl (by decide) encI_len encI_one _ ([] : List Int) (L.take 0) _ _ _ wq.heap.size htl (by rfl) (o1) (by rfl) (Arr.keep arT (hS1)) (fun _ => rfl) (by have := Ll.out; simp <;> omega) (by decide) (hS1.size) ?_
                  intro v5 w5 own5 hb5 hg5
                  rw [List.nil_append] at own5
                  have b5 := hS1.trans hb5
                  refine hK2.out _ _ (b5) (fun hS2 => ?_)
                  try simp only [Act.put, List.setIfInBounds_toArray, List.set_cons_zero, List.set_cons_succ]
                  refine wpAnyH_ready (rs := [9]) (by kernel_rfl) (by simp) ?_
                  refine AllReadyH.cons rfl (fun K3 hK3 => ?_) AllReadyH.nil
                  go_simp
                  have b6 : Below wq.heap.size wq (w5.alloc (.cells #[.int .i64 x] 3)) := b5.alloc b5.size _
                  have own6 := own5.alloc (.cells #[.int .i64 x] 3)
                  refine hK3.out _ _ (b6) (fun hS3 => ?_)
                  try simp only [Act.put, List.setIfInBounds_toArray, List.set_cons_zero, List.set_cons_succ]
                  refine wpAnyH_ready (rs := [10]) (by kernel_rfl) (by simp) ?_
                  refine AllReadyH.cons rfl (fun K4 hK4 => ?_) AllReadyH.nil
                  refine step_snocG (by rfl) _ _ 54 (by rfl) wq.heap.size 3 i0 _ 1 8 Tryz.underlying54 Hi.out Hz0.out Hz1.out Hz2.out rfl (by decide) _ (L.take 0) x (by rfl) own6 (by rfl) (cell_lit (new_cell rfl)) rfl (encI_one _) (by have := Ll.out; simp <;> omega) (by decide) b6.size ?_
                  intro v7 w7' own7 hb7 hg7
                  have b7 := b6.trans hb7
                  refine hK4.out _ _ (b7) (fun hS4 => ?_)
                  try simp only [Act.put, List.setIfInBounds_toArray, List.set_cons_zero, List.set_cons_succ]
                  refine wpAnyH_ready (rs := [14]) (by kernel_rfl) (by simp) ?_
                  refine AllReadyH.cons rfl (fun K5 hK5 => ?_) AllReadyH.nil
                  refine step_app (by rfl) _ _ 54 (by rfl) wq.heap.size 3 i0 _ 1 8 Tryz.underlying54 Hi.out Hz0.out Hz1.out Hz2.out rfl (by decide) encI_len encI_one _ (L.take 0 ++ [x]) ([] : List Int) _ _ _ wq.heap.size rfl (by rfl) own7 (by rfl) Arr.nil (fun _ => rfl) (by have := Ll.out; simp <;> omega) (by decide) b7.size ?_
                  intro v8 w8 own8 hb8 hg8
                  have b8 := b7.trans hb8
                  refine hK5.out _ _ (b8) (fun hS5 => ?_)
                  try simp only [Act.put, List.setIfInBounds_toArray, List.set_cons_zero, List.set_cons_succ]
                  (refine wpAnyH_take (i := 15) (v := ?_) rfl (by kernel_rfl) (by kernel_rfl) (by kernel_rfl) (fun _ _ _ h => h) (Or.inl ⟨by rfl, ?_⟩) (by assumption) ?_; rotate_left 1; (focus (intro wz hSz; (try dsimp only at hSz); go_simp; (try with_reducible rfl))); (try simp only [Act.put, List.setIfInBounds_toArray, List.set_cons_zero, List.set_cons_succ]))
                  refine wpAnyH_done (by kernel_rfl) ?_ _
                  rw [hfin] at own8
                  have own9 := own_base own8 bq0
                  have b9 := below_trans bqw b8
                  clear L0 cxq arq arT own5 own6 own7 own8
                  go_wp2_with fail
                  exact ⟨⟨0 + 1, by omega, by first | go_num | rfl, by rw [st.out]; exact own9, b9⟩, by simp [intOf] <;> omega⟩
                · go_simp
                  have bL : Below wq.heap.size wq ((wq.alloc (.cells #[] 3)).alloc (.cells #[.int .i64 x] 3)).drew := (below_alloc (below_alloc (Below.refl _ _) _) _).drew
                  refine hK2.out _ _ (bL) (fun hS2 => ?_)
                  try simp only [Act.put, List.setIfInBounds_toArray, List.set_cons_zero, List.set_cons_succ]
                  have o2 : Own ((wq.alloc (.cells #[] 3)).alloc (.cells #[.int .i64 x] 3)).drew wq.heap.size 3 1 encI (.slice (some ⟨wq.heap.size, 0, none⟩) 0 0) [] := ((own_empty (α := Int) (sz := 1) (enc := encI) wq wq.heap.size 3 (Nat.le_refl _)).alloc _).drew
                  have cx2 : ((wq.alloc (.cells #[] 3)).alloc (.cells #[.int .i64 x] 3)).drew.cell? ⟨wq.heap.size + 1, 0, none⟩ = some (.int .i64 x) := by have h := new_cell (w := wq.alloc (.cells #[] 3)) (cs := #[.int .i64 x]) (T := 3) (j := 0) rfl; rw [show (wq.alloc (.cells #[] 3)).heap.size = wq.heap.size + 1 from by simp] at h; exact h
                  refine wpAnyH_ready (rs := [4]) (by kernel_rfl) (by simp) ?_
                  refine AllReadyH.cons rfl (fun K3 hK3 => ?_) AllReadyH.nil
                  refine step_app (by rfl) _ _ 54 (by rfl) wq.heap.size 3 i0 _ 1 8 Tryz.underlying54 Hi.out Hz0.out Hz1.out Hz2.out rfl (by decide) encI_len encI_one _ ([] : List Int) (L.take 0) _ _ _ wq.heap.size htl (by rfl) (o2) (by rfl) (Arr.keep arT (bL)) (fun _ => rfl) (by have := Ll.out; simp <;> omega) (by decide) (bL.size) ?_
                  intro v5 w5 own5 hb5 hg5
                  rw [List.nil_append] at own5
                  have b6 := bL.trans hb5
                  have own6 := own5
                  have cx5 := hg5.cell cx2 (by simp [Value.ownBlock])
                  refine hK3.out _ _ (b6) (fun hS3 => ?_)
                  try simp only [Act.put, List.setIfInBounds_toArray, List.set_cons_zero, List.set_cons_succ]
                  refine wpAnyH_ready (rs := [10]) (by kernel_rfl) (by simp) ?_
                  refine AllReadyH.cons rfl (fun K4 hK4 => ?_) AllReadyH.nil
                  refine step_snocG (by rfl) _ _ 54 (by rfl) wq.heap.size 3 i0 _ 1 8 Tryz.underlying54 Hi.out Hz0.out Hz1.out Hz2.out rfl (by decide) _ (L.take 0) x (by rfl) own6 (by rfl) (cell_lit cx5) rfl (encI_one _) (by have := Ll.out; simp <;> omega) (by decide) b6.size ?_
                  intro v7 w7' own7 hb7 hg7
                  have b7 := b6.trans hb7
                  refine hK4.out _ _ (b7) (fun hS4 => ?_)
                  try simp only [Act.put, List.setIfInBounds_toArray, List.set_cons_zero, List.set_cons_succ]
                  refine wpAnyH_ready (rs := [14]) (by kernel_rfl) (by simp) ?_
                  refine AllReadyH.cons rfl (fun K5 hK5 => ?_) AllReadyH.nil
                  refine step_app (by rfl) _ _ 54 (by rfl) wq.heap.size 3 i0 _ 1 8 Tryz.underlying54 Hi.out Hz0.out Hz1.out Hz2.out rfl (by decide) encI_len encI_one _ (L.take 0 ++ [x]) ([] : List Int) _ _ _ wq.heap.size rfl (by rfl) own7 (by rfl) Arr.nil (fun _ => rfl) (by have := Ll.out; simp <;> omega) (by decide) b7.size ?_
                  intro v8 w8 own8 hb8 hg8
                  have b8 := b7.trans hb8
                  refine hK5.out _ _ (b8) (fun hS5 => ?_)
                  try simp only [Act.put, List.setIfInBounds_toArray, List.set_cons_zero, List.set_cons_succ]
                  (refine wpAnyH_take (i := 15) (v := ?_) rfl (by kernel_rfl) (by kernel_rfl) (by kernel_rfl) (fun _ _ _ h => h) (Or.inl ⟨by rfl, ?_⟩) (by assumption) ?_; rotate_left 1; (focus (intro wz hSz; (try dsimp only at hSz); go_simp; (try with_reducible rfl))); (try simp only [Act.put, List.setIfInBounds_toArray, List.set_cons_zero, List.set_cons_succ]))
                  refine wpAnyH_done (by kernel_rfl) ?_ _
                  rw [hfin] at own8
                  have own9 := own_base own8 bq0
                  have b9 := below_trans bqw b8
                  clear L0 cxq arq arT own5 own6 own7 own8
                  go_wp2_with fail
                  exact ⟨⟨0 + 1, by omega, by first | go_num | rfl, by rw [st.out]; exact own9, b9⟩, by simp [intOf] <;> omega⟩
              · go_simp
                refine hK1.out _ _ ((below_alloc (Below.refl _ _) (.cells #[.int .i64 x] 3)).drew) (fun hS1 => ?_)
                try simp only [Act.put, List.setIfInBounds_toArray, List.set_cons_zero, List.set_cons_succ]
                refine wpAnyH_ready (rs := [0]) (by kernel_rfl) (by simp) ?_
                refine AllReadyH.cons rfl (fun K2 hK2 => ?_) AllReadyH.nil
                go_simp
                have bL : Below wq.heap.size wq ((wq.alloc (.cells #[.int .i64 x] 3)).alloc (.cells #[] 3)).drew := (below_alloc (below_alloc (Below.refl _ _) _) _).drew
                refine hK2.out _ _ (bL) (fun hS2 => ?_)
                try simp only [Act.put, List.setIfInBounds_toArray, List.set_cons_zero, List.set_cons_succ]
                have o2 : Own ((wq.alloc (.cells #[.int .i64 x] 3)).alloc (.cells #[] 3)).drew wq.heap.size 3 1 encI (.slice (some ⟨wq.heap.size + 1, 0, none⟩) 0 0) [] := by have h := (own_empty (α := Int) (sz := 1) (enc := encI) (wq.alloc (.cells #[.int .i64 x] 3)) wq.heap.size 3 (by simp)).drew; rw [show (wq.alloc (.cells #[.int .i64 x] 3)).heap.size = wq.heap.size + 1 from by simp] at h; exact h
                have cx2 : ((wq.alloc (.cells #[.int .i64 x] 3)).alloc (.cells #[] 3)).drew.cell? ⟨wq.heap.size, 0, none⟩ = some (.int .i64 x) := bel_cell (below_alloc (Below.refl _ _) _).drew (new_cell (w := wq) (cs := #[.int .i64 x]) (T := 3) (j := 0) rfl)
                refine wpAnyH_ready (rs := [4]) (by kernel_rfl) (by simp) ?_
                refine AllReadyH.cons rfl (fun K3 hK3 => ?_) AllReadyH.nil
                refine step_app (by rfl) _ _ 54 (by rfl) wq.heap.size 3 i0 _ 1 8 Tryz.underlying54 Hi.out Hz0.out Hz1.out Hz2.out rfl (by decide) encI_len encI_one _ ([] : List Int) (L.take 0) _ _ _ wq.heap.size htl (by rfl) (o2) (by rfl) (Arr.keep arT (bL)) (fun _ => rfl) (by have := Ll.out; simp <;> omega) (by decide) (bL.size) ?_
                intro v5 w5 own5 hb5 hg5
                rw [List.nil_append] at own5
                have b6 := bL.trans hb5
                have own6 := own5
                have cx5 := hg5.cell cx2 (by simp [Value.ownBlock])
                refine hK3.out _ _ (b6) (fun hS3 => ?_)
                try simp only [Act.put, List.setIfInBounds_toArray, List.set_cons_zero, List.set_cons_succ]
                refine wpAnyH_ready (rs := [10]) (by kernel_rfl) (by simp) ?_
                refine AllReadyH.cons rfl (fun K4 hK4 => ?_) AllReadyH.nil
                refine step_snocG (by rfl) _ _ 54 (by rfl) wq.heap.size 3 i0 _ 1 8 Tryz.underlying54 Hi.out Hz0.out Hz1.out Hz2.out rfl (by decide) _ (L.take 0) x (by rfl) own6 (by rfl) (cell_lit cx5) rfl (encI_one _) (by have := Ll.out; simp <;> omega) (by decide) b6.size ?_
                intro v7 w7' own7 hb7 hg7
                have b7 := b6.trans hb7
                refine hK4.out _ _ (b7) (fun hS4 => ?_)
                try simp only [Act.put, List.setIfInBounds_toArray, List.set_cons_zero, List.set_cons_succ]
                refine wpAnyH_ready (rs := [14]) (by kernel_rfl) (by simp) ?_
                refine AllReadyH.cons rfl (fun K5 hK5 => ?_) AllReadyH.nil
                refine step_app (by rfl) _ _ 54 (by rfl) wq.heap.size 3 i0 _ 1 8 Tryz.underlying54 Hi.out Hz0.out Hz1.out Hz2.out rfl (by decide) encI_len encI_one _ (L.take 0 ++ [x]) ([] : List Int) _ _ _ wq.heap.size rfl (by rfl) own7 (by rfl) Arr.nil (fun _ => rfl) (by have := Ll.out; simp <;> omega) (by decide) b7.size ?_
                intro v8 w8 own8 hb8 hg8
                have b8 := b7.trans hb8
                refine hK5.out _ _ (b8) (fun hS5 => ?_)
                try simp only [Act.put, List.setIfInBounds_toArray, List.set_cons_zero, List.set_cons_succ]
                (refine wpAnyH_take (i := 15) (v := ?_) rfl (by kernel_rfl) (by kernel_rfl) (by kernel_rfl) (fun _ _ _ h => h) (Or.inl ⟨by rfl, ?_⟩) (by assumption) ?_; rotate_left 1; (focus (intro wz hSz; (try dsimp only at hSz); go_simp; (try with_reducible rfl))); (try simp only [Act.put, List.setIfInBounds_toArray, List.set_cons_zero, List.set_cons_succ]))
                refine wpAnyH_done (by kernel_rfl) ?_ _
                rw [hfin] at own8
                have own9 := own_base own8 bq0
                have b9 := below_trans bqw b8
                clear L0 cxq arq arT own5 own6 own7 own8
                go_wp2_with fail
                exact ⟨⟨0 + 1, by omega, by first | go_num | rfl, by rw [st.out]; exact own9, b9⟩, by simp [intOf] <;> omega⟩
            | some ad =>
              have hka : k = a := hak.symm
              subst hka
              have nilT : some ad = none → c2 = 0 := fun h => by cases h
              by_cases hcap : k = c2
              · subst hcap
                go_wp2_with fail
                refine wp_region_held_drew (S := fun w' => Below wq.heap.size wq w') (by kernel_rfl) (Below.refl _ _).drew (fun hHeld => ?_)
                (refine wpAnyH_take (i := 1) (v := ?_) rfl (by kernel_rfl) (by kernel_rfl) (by kernel_rfl) (fun _ _ _ h => h) (Or.inl ⟨by rfl, ?_⟩) (by assumption) ?_; rotate_left 1; (focus (intro wz hSz; (try dsimp only at hSz); go_simp; (try with_reducible rfl))); (try simp only [Act.put, List.setIfInBounds_toArray, List.set_cons_zero, List.set_cons_succ]))
                (refine wpAnyH_take (i := 2) (v := ?_) rfl (by kernel_rfl) (by kernel_rfl) (by kernel_rfl) (fun _ _ _ h => h) (Or.inl ⟨by rfl, ?_⟩) (by assumption) ?_; rotate_left 1; (focus (intro wz hSz; (try dsimp only at hSz); go_simp; (try with_reducible rfl))); (try simp only [Act.put, List.setIfInBounds_toArray, List.set_cons_zero, List.set_cons_succ]))
                (refine wpAnyH_take (i := 3) (v := ?_) rfl (by kernel_rfl) (by kernel_rfl) (by kernel_rfl) (fun _ _ _ h => h) (Or.inl ⟨by rfl, ?_⟩) (by assumption) ?_; rotate_left 1; (focus (intro wz hSz; (try dsimp only at hSz); go_simp; (try with_reducible rfl))); (try simp only [Act.put, List.setIfInBounds_toArray, List.set_cons_zero, List.set_cons_succ]))
                (refine wpAnyH_take (i := 5) (v := ?_) rfl (by kernel_rfl) (by kernel_rfl) (by kernel_rfl) (fun _ _ _ h => h) (Or.inl ⟨by rfl, ?_⟩) (by assumption) ?_; rotate_left 1; (focus (intro wz hSz; (try dsimp only at hSz); go_simp; (try with_reducible rfl))); (try simp only [Act.put, List.setIfInBounds_toArray, List.set_cons_zero, List.set_cons_succ]))
                (refine wpAnyH_take (i := 6) (v := ?_) rfl (by kernel_rfl) (by kernel_rfl) (by kernel_rfl) (fun _ _ _ h => h) (Or.inl ⟨by rfl, ?_⟩) (by assumption) ?_; rotate_left 1; (focus (intro wz hSz; (try dsimp only at hSz); go_simp; (try with_reducible rfl))); (try simp only [Act.put, List.setIfInBounds_toArray, List.set_cons_zero, List.set_cons_succ]))
                (refine wpAnyH_take (i := 7) (v := ?_) rfl (by kernel_rfl) (by kernel_rfl) (by kernel_rfl) (fun _ _ _ h => h) (Or.inl ⟨by rfl, ?_⟩) (by assumption) ?_; rotate_left 1; (focus (intro wz hSz; (try dsimp only at hSz); go_simp; (try with_reducible rfl))); (try simp only [Act.put, List.setIfInBounds_toArray, List.set_cons_zero, List.set_cons_succ]))
                (refine wpAnyH_take (i := 8) (v := ?_) rfl (by kernel_rfl) (by kernel_rfl) (by kernel_rfl) (fun _ _ _ h => h) (Or.inl ⟨by rfl, ?_⟩) (by assumption) ?_; rotate_left 1; (focus (intro wz hSz; (try dsimp only at hSz); go_simp; (try with_reducible rfl))); (try simp only [Act.put, List.setIfInBounds_toArray, List.set_cons_zero, List.set_cons_succ]))
                (refine wpAnyH_take (i := 11) (v := ?_) rfl (by kernel_rfl) (by kernel_rfl) (by kernel_rfl) (fun _ _ _ h => h) (Or.inl ⟨by rfl, ?_⟩) (by assumption) ?_; rotate_left 1; (focus (intro wz hSz; (try dsimp only at hSz); go_simp; (try with_reducible rfl))); (try simp only [Act.put, List.setIfInBounds_toArray, List.set_cons_zero, List.set_cons_succ]))
                (refine wpAnyH_take (i := 12) (v := ?_) rfl (by kernel_rfl) (by kernel_rfl) (by kernel_rfl) (fun _ _ _ h => h) (Or.inl ⟨by rfl, ?_⟩) (by assumption) ?_; rotate_left 1; (focus (intro wz hSz; (try dsimp only at hSz); go_simp; (try with_reducible rfl))); (try simp only [Act.put, List.setIfInBounds_toArray, List.set_cons_zero, List.set_cons_succ]))
                (refine wpAnyH_take (i := 13) (v := ?_) rfl (by kernel_rfl) (by kernel_rfl) (by kernel_rfl) (fun _ _ _ h => h) (Or.inl ⟨by rfl, ?_⟩) (by assumption) ?_; rotate_left 1; (focus (intro wz hSz; (try dsimp only at hSz); go_simp; (try with_reducible rfl))); (try simp only [Act.put, List.setIfInBounds_toArray, List.set_cons_zero, List.set_cons_succ]))
                refine wpAnyH_ready (rs := [0, 9]) (by kernel_rfl) (by simp) ?_
                refine AllReadyH.cons rfl (fun K1 hK1 => ?_) (AllReadyH.cons rfl (fun K1 hK1 => ?_) AllReadyH.nil)
                · go_simp
                  refine hK1.out _ _ ((below_alloc (Below.refl _ _) (.cells #[] 3)).drew) (fun hS1 => ?_)
                  try simp only [Act.put, List.setIfInBounds_toArray, List.set_cons_zero, List.set_cons_succ]
                  have o1 := (own_empty (α := Int) (sz := 1) (enc := encI) wq wq.heap.size 3 (Nat.le_refl _)).drew
                  refine wpAnyH_ready (rs := [4, 9]) (by kernel_rfl) (by simp) ?_
                  refine AllReadyH.cons rfl (fun K2 hK2 => ?_) (AllReadyH.cons rfl (fun K2 hK2 => ?_) AllReadyH.nil)
                  · skip
                    refine step_app (by rfl) _ _ 54 (by rfl) wq.heap.size 3 i0 _ 1 8 Tryz.underlying54 Hi.out Hz0.out Hz1.out Hz2.out rfl (by decide) encI_len encI_one _ ([] : List Int) (L.take k) _ _ _ wq.heap.size htl (by rfl) (o1) (by rfl) (Arr.keep arT (hS1)) nilT (by have := Ll.out; simp <;> omega) (by decide) (hS1.size) ?_
                    intro v5 w5 own5 hb5 hg5
                    rw [List.nil_append] at own5
                    have b5 := hS1.trans hb5
                    refine hK2.out _ _ (b5) (fun hS2 => ?_)
                    try simp only [Act.put, List.setIfInBounds_toArray, List.set_cons_zero, List.set_cons_succ]
                    refine wpAnyH_ready (rs := [9]) (by kernel_rfl) (by simp) ?_
                    refine AllReadyH.cons rfl (fun K3 hK3 => ?_) AllReadyH.nil
                    go_simp
                    have b6 : Below wq.heap.size wq (w5.alloc (.cells #[.int .i64 x] 3)) := b5.alloc b5.size _
                    have own6 := own5.alloc (.cells #[.int .i64 x] 3)
                    refine hK3.out _ _ (b6) (fun hS3 => ?_)
                    try simp only [Act.put, List.setIfInBounds_toArray, List.set_cons_zero, List.set_cons_succ]
                    refine wpAnyH_ready (rs := [10]) (by kernel_rfl) (by simp) ?_
                    refine AllReadyH.cons rfl (fun K4 hK4 => ?_) AllReadyH.nil
                    refine step_snocG (by rfl) _ _ 54 (by rfl) wq.heap.size 3 i0 _ 1 8 Tryz.underlying54 Hi.out Hz0.out Hz1.out Hz2.out rfl (by decide) _ (L.take k) x (by rfl) own6 (by rfl) (cell_lit (new_cell rfl)) rfl (encI_one _) (by have := Ll.out; simp <;> omega) (by decide) b6.size ?_
                    intro v7 w7' own7 hb7 hg7
                    have b7 := b6.trans hb7
                    refine hK4.out _ _ (b7) (fun hS4 => ?_)
                    try simp only [Act.put, List.setIfInBounds_toArray, List.set_cons_zero, List.set_cons_succ]
                    refine wpAnyH_ready (rs := [14]) (by kernel_rfl) (by simp) ?_
                    refine AllReadyH.cons rfl (fun K5 hK5 => ?_) AllReadyH.nil
                    refine step_app (by rfl) _ _ 54 (by rfl) wq.heap.size 3 i0 _ 1 8 Tryz.underlying54 Hi.out Hz0.out Hz1.out Hz2.out rfl (by decide) encI_len encI_one _ (L.take k ++ [x]) ([] : List Int) _ _ _ wq.heap.size rfl (by rfl) own7 (by rfl) Arr.nil (fun h => by cases h) (by have := Ll.out; simp <;> omega) (by decide) b7.size ?_
                    intro v8 w8 own8 hb8 hg8
                    have b8 := b7.trans hb8
                    refine hK5.out _ _ (b8) (fun hS5 => ?_)
                    try simp only [Act.put, List.setIfInBounds_toArray, List.set_cons_zero, List.set_cons_succ]
                    (refine wpAnyH_take (i := 15) (v := ?_) rfl (by kernel_rfl) (by kernel_rfl) (by kernel_rfl) (fun _ _ _ h => h) (Or.inl ⟨by rfl, ?_⟩) (by assumption) ?_; rotate_left 1; (focus (intro wz hSz; (try dsimp only at hSz); go_simp; (try with_reducible rfl))); (try simp only [Act.put, List.setIfInBounds_toArray, List.set_cons_zero, List.set_cons_succ]))
                    refine wpAnyH_done (by kernel_rfl) ?_ _
                    rw [hfin] at own8
                    have own9 := own_base own8 bq0
                    have b9 := below_trans bqw b8
                    clear L0 cxq arq arT own5 own6 own7 own8
                    go_wp2_with fail
                    exact ⟨⟨k + 1, by omega, by first | go_num | rfl, by rw [st.out]; exact own9, b9⟩, by simp [intOf] <;> omega⟩
                  · go_simp
                    have bL : Below wq.heap.size wq ((wq.alloc (.cells #[] 3)).alloc (.cells #[.int .i64 x] 3)).drew := (below_alloc (below_alloc (Below.refl _ _) _) _).drew
                    refine hK2.out _ _ (bL) (fun hS2 => ?_)
                    try simp only [Act.put, List.setIfInBounds_toArray, List.set_cons_zero, List.set_cons_succ]
                    have o2 : Own ((wq.alloc (.cells #[] 3)).alloc (.cells #[.int .i64 x] 3)).drew wq.heap.size 3 1 encI (.slice (some ⟨wq.heap.size, 0, none⟩) 0 0) [] := ((own_empty (α := Int) (sz := 1) (enc := encI) wq wq.heap.size 3 (Nat.le_refl _)).alloc _).drew
                    have cx2 : ((wq.alloc (.cells #[] 3)).alloc (.cells #[.int .i64 x] 3)).drew.cell? ⟨wq.heap.size + 1, 0, none⟩ = some (.int .i64 x) := by have h := new_cell (w := wq.alloc (.cells #[] 3)) (cs := #[.int .i64 x]) (T := 3) (j := 0) rfl; rw [show (wq.alloc (.cells #[] 3)).heap.size = wq.heap.size + 1 from by simp] at h; exact h
                    refine wpAnyH_ready (rs := [4]) (by kernel_rfl) (by simp) ?_
                    refine AllReadyH.cons rfl (fun K3 hK3 => ?_) AllReadyH.nil
                    refine step_app (by rfl) _ _ 54 (by rfl) wq.heap.size 3 i0 _ 1 8 Tryz.underlying54 Hi.out Hz0.out Hz1.out Hz2.out rfl (by decide) encI_len encI_one _ ([] : List Int) (L.take k) _ _ _ wq.heap.size htl (by rfl) (o2) (by rfl) (Arr.keep arT (bL)) nilT (by have := Ll.out; simp <;> omega) (by decide) (bL.size) ?_
                    intro v5 w5 own5 hb5 hg5
                    rw [List.nil_append] at own5
                    have b6 := bL.trans hb5
                    have own6 := own5
                    have cx5 := hg5.cell cx2 (by simp [Value.ownBlock])
                    refine hK3.out _ _ (b6) (fun hS3 => ?_)
                    try simp only [Act.put, List.setIfInBounds_toArray, List.set_cons_zero, List.set_cons_succ]
                    refine wpAnyH_ready (rs := [10]) (by kernel_rfl) (by simp) ?_
                    refine AllReadyH.cons rfl (fun K4 hK4 => ?_) AllReadyH.nil
                    refine step_snocG (by rfl) _ _ 54 (by rfl) wq.heap.size 3 i0 _ 1 8 Tryz.underlying54 Hi.out Hz0.out Hz1.out Hz2.out rfl (by decide) _ (L.take k) x (by rfl) own6 (by rfl) (cell_lit cx5) rfl (encI_one _) (by have := Ll.out; simp <;> omega) (by decide) b6.size ?_
                    intro v7 w7' own7 hb7 hg7
                    have b7 := b6.trans hb7
                    refine hK4.out _ _ (b7) (fun hS4 => ?_)
                    try simp only [Act.put, List.setIfInBounds_toArray, List.set_cons_zero, List.set_cons_succ]
                    refine wpAnyH_ready (rs := [14]) (by kernel_rfl) (by simp) ?_
                    refine AllReadyH.cons rfl (fun K5 hK5 => ?_) AllReadyH.nil
                    refine step_app (by rfl) _ _ 54 (by rfl) wq.heap.size 3 i0 _ 1 8 Tryz.underlying54 Hi.out Hz0.out Hz1.out Hz2.out rfl (by decide) encI_len encI_one _ (L.take k ++ [x]) ([] : List Int) _ _ _ wq.heap.size rfl (by rfl) own7 (by rfl) Arr.nil (fun h => by cases h) (by have := Ll.out; simp <;> omega) (by decide) b7.size ?_
                    intro v8 w8 own8 hb8 hg8
                    have b8 := b7.trans hb8
                    refine hK5.out _ _ (b8) (fun hS5 => ?_)
                    try simp only [Act.put, List.setIfInBounds_toArray, List.set_cons_zero, List.set_cons_succ]
                    (refine wpAnyH_take (i := 15) (v := ?_) rfl (by kernel_rfl) (by kernel_rfl) (by kernel_rfl) (fun _ _ _ h => h) (Or.inl ⟨by rfl, ?_⟩) (by assumption) ?_; rotate_left 1; (focus (intro wz hSz; (try dsimp only at hSz); go_simp; (try with_reducible rfl))); (try simp only [Act.put, List.setIfInBounds_toArray, List.set_cons_zero, List.set_cons_succ]))
                    refine wpAnyH_done (by kernel_rfl) ?_ _
                    rw [hfin] at own8
                    have own9 := own_base own8 bq0
                    have b9 := below_trans bqw b8
                    clear L0 cxq arq arT own5 own6 own7 own8
                    go_wp2_with fail
                    exact ⟨⟨k + 1, by omega, by first | go_num | rfl, by rw [st.out]; exact own9, b9⟩, by simp [intOf] <;> omega⟩
                · go_simp
                  refine hK1.out _ _ ((below_alloc (Below.refl _ _) (.cells #[.int .i64 x] 3)).drew) (fun hS1 => ?_)
                  try simp only [Act.put, List.setIfInBounds_toArray, List.set_cons_zero, List.set_cons_succ]
                  refine wpAnyH_ready (rs := [0]) (by kernel_rfl) (by simp) ?_
                  refine AllReadyH.cons rfl (fun K2 hK2 => ?_) AllReadyH.nil
                  go_simp
                  have bL : Below wq.heap.size wq ((wq.alloc (.cells #[.int .i64 x] 3)).alloc (.cells #[] 3)).drew := (below_alloc (below_alloc (Below.refl _ _) _) _).drew
                  refine hK2.out _ _ (bL) (fun hS2 => ?_)
                  try simp only [Act.put, List.setIfInBounds_toArray, List.set_cons_zero, List.set_cons_succ]
                  have o2 : Own ((wq.alloc (.cells #[.int .i64 x] 3)).alloc (.cells #[] 3)).drew wq.heap.size 3 1 encI (.slice (some ⟨wq.heap.size + 1, 0, none⟩) 0 0) [] := by have h := (own_empty (α := Int) (sz := 1) (enc := encI) (wq.alloc (.cells #[.int .i64 x] 3)) wq.heap.size 3 (by simp)).drew; rw [show (wq.alloc (.cells #[.int .i64 x] 3)).heap.size = wq.heap.size + 1 from by simp] at h; exact h
                  have cx2 : ((wq.alloc (.cells #[.int .i64 x] 3)).alloc (.cells #[] 3)).drew.cell? ⟨wq.heap.size, 0, none⟩ = some (.int .i64 x) := bel_cell (below_alloc (Below.refl _ _) _).drew (new_cell (w := wq) (cs := #[.int .i64 x]) (T := 3) (j := 0) rfl)
                  refine wpAnyH_ready (rs := [4]) (by kernel_rfl) (by simp) ?_
                  refine AllReadyH.cons rfl (fun K3 hK3 => ?_) AllReadyH.nil
                  refine step_app (by rfl) _ _ 54 (by rfl) wq.heap.size 3 i0 _ 1 8 Tryz.underlying54 Hi.out Hz0.out Hz1.out Hz2.out rfl (by decide) encI_len encI_one _ ([] : List Int) (L.take k) _ _ _ wq.heap.size htl (by rfl) (o2) (by rfl) (Arr.keep arT (bL)) nilT (by have := Ll.out; simp <;> omega) (by decide) (bL.size) ?_
                  intro v5 w5 own5 hb5 hg5
                  rw [List.nil_append] at own5
                  have b6 := bL.trans hb5
                  have own6 := own5
                  have cx5 := hg5.cell cx2 (by simp [Value.ownBlock])
                  refine hK3.out _ _ (b6) (fun hS3 => ?_)
                  try simp only [Act.put, List.setIfInBounds_toArray, List.set_cons_zero, List.set_cons_succ]
                  refine wpAnyH_ready (rs := [10]) (by kernel_rfl) (by simp) ?_
                  refine AllReadyH.cons rfl (fun K4 hK4 => ?_) AllReadyH.nil
                  refine step_snocG (by rfl) _ _ 54 (by rfl) wq.heap.size 3 i0 _ 1 8 Tryz.underlying54 Hi.out Hz0.out Hz1.out Hz2.out rfl (by decide) _ (L.take k) x (by rfl) own6 (by rfl) (cell_lit cx5) rfl (encI_one _) (by have := Ll.out; simp <;> omega) (by decide) b6.size ?_
                  intro v7 w7' own7 hb7 hg7
                  have b7 := b6.trans hb7
                  refine hK4.out _ _ (b7) (fun hS4 => ?_)
                  try simp only [Act.put, List.setIfInBounds_toArray, List.set_cons_zero, List.set_cons_succ]
                  refine wpAnyH_ready (rs := [14]) (by kernel_rfl) (by simp) ?_
                  refine AllReadyH.cons rfl (fun K5 hK5 => ?_) AllReadyH.nil
                  refine step_app (by rfl) _ _ 54 (by rfl) wq.heap.size 3 i0 _ 1 8 Tryz.underlying54 Hi.out Hz0.out Hz1.out Hz2.out rfl (by decide) encI_len encI_one _ (L.take k ++ [x]) ([] : List Int) _ _ _ wq.heap.size rfl (by rfl) own7 (by rfl) Arr.nil (fun h => by cases h) (by have := Ll.out; simp <;> omega) (by decide) b7.size ?_
                  intro v8 w8 own8 hb8 hg8
                  have b8 := b7.trans hb8
                  refine hK5.out _ _ (b8) (fun hS5 => ?_)
                  try simp only [Act.put, List.setIfInBounds_toArray, List.set_cons_zero, List.set_cons_succ]
                  (refine wpAnyH_take (i := 15) (v := ?_) rfl (by kernel_rfl) (by kernel_rfl) (by kernel_rfl) (fun _ _ _ h => h) (Or.inl ⟨by rfl, ?_⟩) (by assumption) ?_; rotate_left 1; (focus (intro wz hSz; (try dsimp only at hSz); go_simp; (try with_reducible rfl))); (try simp only [Act.put, List.setIfInBounds_toArray, List.set_cons_zero, List.set_cons_succ]))
                  refine wpAnyH_done (by kernel_rfl) ?_ _
                  rw [hfin] at own8
                  have own9 := own_base own8 bq0
                  have b9 := below_trans bqw b8
                  clear L0 cxq arq arT own5 own6 own7 own8
                  go_wp2_with fail
                  exact ⟨⟨k + 1, by omega, by first | go_num | rfl, by rw [st.out]; exact own9, b9⟩, by simp [intOf] <;> omega⟩
              · have hcap' : (k : Int) < (c2 : Int) := by omega
                have hcn : ¬ c2 = k := fun h => hcap h.symm
                go_wp2_with fail
                refine wp_region_held_drew (S := fun w' => Below wq.heap.size wq w') (by kernel_rfl) (Below.refl _ _).drew (fun hHeld => ?_)
                (refine wpAnyH_take (i := 1) (v := ?_) rfl (by kernel_rfl) (by kernel_rfl) (by kernel_rfl) (fun _ _ _ h => h) (Or.inl ⟨by rfl, ?_⟩) (by assumption) ?_; rotate_left 1; (focus (intro wz hSz; (try dsimp only at hSz); go_simp; (try with_reducible rfl))); (try simp only [Act.put, List.setIfInBounds_toArray, List.set_cons_zero, List.set_cons_succ]))
                (refine wpAnyH_take (i := 2) (v := ?_) rfl (by kernel_rfl) (by kernel_rfl) (by kernel_rfl) (fun _ _ _ h => h) (Or.inl ⟨by rfl, ?_⟩) (by assumption) ?_; rotate_left 1; (focus (intro wz hSz; (try dsimp only at hSz); go_simp; (try with_reducible rfl))); (try simp only [Act.put, List.setIfInBounds_toArray, List.set_cons_zero, List.set_cons_succ]))
                (refine wpAnyH_take (i := 3) (v := ?_) rfl (by kernel_rfl) (by kernel_rfl) (by kernel_rfl) (fun _ _ _ h => h) (Or.inl ⟨by rfl, ?_⟩) (by assumption) ?_; rotate_left 1; (focus (intro wz hSz; (try dsimp only at hSz); go_simp; (try with_reducible rfl))); (try simp only [Act.put, List.setIfInBounds_toArray, List.set_cons_zero, List.set_cons_succ]))
                (refine wpAnyH_take (i := 5) (v := ?_) rfl (by kernel_rfl) (by kernel_rfl) (by kernel_rfl) (fun _ _ _ h => h) (Or.inl ⟨by rfl, ?_⟩) (by assumption) ?_; rotate_left 1; (focus (intro wz hSz; (try dsimp only at hSz); go_simp; (try with_reducible rfl))); (try simp only [Act.put, List.setIfInBounds_toArray, List.set_cons_zero, List.set_cons_succ]))
                (refine wpAnyH_take (i := 6) (v := ?_) rfl (by kernel_rfl) (by kernel_rfl) (by kernel_rfl) (fun _ _ _ h => h) (Or.inl ⟨by rfl, ?_⟩) (by assumption) ?_; rotate_left 1; (focus (intro wz hSz; (try dsimp only at hSz); go_simp; (try with_reducible rfl))); (try simp only [Act.put, List.setIfInBounds_toArray, List.set_cons_zero, List.set_cons_succ]))
                (refine wpAnyH_take (i := 7) (v := ?_) rfl (by kernel_rfl) (by kernel_rfl) (by kernel_rfl) (fun _ _ _ h => h) (Or.inl ⟨by rfl, ?_⟩) (by assumption) ?_; rotate_left 1; (focus (intro wz hSz; (try dsimp only at hSz); go_simp; (try with_reducible rfl))); (try simp only [Act.put, List.setIfInBounds_toArray, List.set_cons_zero, List.set_cons_succ]))
                (refine wpAnyH_take (i := 8) (v := ?_) rfl (by kernel_rfl) (by kernel_rfl) (by kernel_rfl) (fun _ _ _ h => h) (Or.inl ⟨by rfl, ?_⟩) (by assumption) ?_; rotate_left 1; (focus (intro wz hSz; (try dsimp only at hSz); go_simp; (try with_reducible rfl))); (try simp only [Act.put, List.setIfInBounds_toArray, List.set_cons_zero, List.set_cons_succ]))
                (refine wpAnyH_take (i := 11) (v := ?_) rfl (by kernel_rfl) (by kernel_rfl) (by kernel_rfl) (fun _ _ _ h => h) (Or.inl ⟨by rfl, ?_⟩) (by assumption) ?_; rotate_left 1; (focus (intro wz hSz; (try dsimp only at hSz); go_simp; (try with_reducible rfl))); (try simp only [Act.put, List.setIfInBounds_toArray, List.set_cons_zero, List.set_cons_succ]))
                (refine wpAnyH_take (i := 12) (v := ?_) rfl (by kernel_rfl) (by kernel_rfl) (by kernel_rfl) (fun _ _ _ h => h) (Or.inl ⟨by rfl, ?_⟩) (by assumption) ?_; rotate_left 1; (focus (intro wz hSz; (try dsimp only at hSz); go_simp; (try with_reducible rfl))); (try simp only [Act.put, List.setIfInBounds_toArray, List.set_cons_zero, List.set_cons_succ]))
                (refine wpAnyH_take (i := 13) (v := ?_) rfl (by kernel_rfl) (by kernel_rfl) (by kernel_rfl) (fun _ _ _ h => h) (Or.inl ⟨by rfl, ?_⟩) (by assumption) ?_; rotate_left 1; (focus (intro wz hSz; (try dsimp only at hSz); go_simp; (try with_reducible rfl))); (try simp only [Act.put, List.setIfInBounds_toArray, List.set_cons_zero, List.set_cons_succ]))
                refine wpAnyH_ready (rs := [0, 9]) (by kernel_rfl) (by simp) ?_
                refine AllReadyH.cons rfl (fun K1 hK1 => ?_) (AllReadyH.cons rfl (fun K1 hK1 => ?_) AllReadyH.nil)
                · go_simp
                  refine hK1.out _ _ ((below_alloc (Below.refl _ _) (.cells #[] 3)).drew) (fun hS1 => ?_)
                  try simp only [Act.put, List.setIfInBounds_toArray, List.set_cons_zero, List.set_cons_succ]
                  have o1 := (own_empty (α := Int) (sz := 1) (enc := encI) wq wq.heap.size 3 (Nat.le_refl _)).drew
                  refine wpAnyH_ready (rs := [4, 9]) (by kernel_rfl) (by simp) ?_
                  refine AllReadyH.cons rfl (fun K2 hK2 => ?_) (AllReadyH.cons rfl (fun K2 hK2 => ?_) AllReadyH.nil)
                  · skip
                    refine step_app (by rfl) _ _ 54 (by rfl) wq.heap.size 3 i0 _ 1 8 Tryz.underlying54 Hi.out Hz0.out Hz1.out Hz2.out rfl (by decide) encI_len encI_one _ ([] : List Int) (L.take k) _ _ _ wq.heap.size htl (by rfl) (o1) (by rfl) (Arr.keep arT (hS1)) nilT (by have := Ll.out; simp <;> omega) (by decide) (hS1.size) ?_
                    intro v5 w5 own5 hb5 hg5
                    rw [List.nil_append] at own5
                    have b5 := hS1.trans hb5
                    refine hK2.out _ _ (b5) (fun hS2 => ?_)
                    try simp only [Act.put, List.setIfInBounds_toArray, List.set_cons_zero, List.set_cons_succ]
                    refine wpAnyH_ready (rs := [9]) (by kernel_rfl) (by simp) ?_
                    refine AllReadyH.cons rfl (fun K3 hK3 => ?_) AllReadyH.nil
                    go_simp
                    have b6 : Below wq.heap.size wq (w5.alloc (.cells #[.int .i64 x] 3)) := b5.alloc b5.size _
                    have own6 := own5.alloc (.cells #[.int .i64 x] 3)
                    refine hK3.out _ _ (b6) (fun hS3 => ?_)
                    try simp only [Act.put, List.setIfInBounds_toArray, List.set_cons_zero, List.set_cons_succ]
                    refine wpAnyH_ready (rs := [10]) (by kernel_rfl) (by simp) ?_
                    refine AllReadyH.cons rfl (fun K4 hK4 => ?_) AllReadyH.nil
                    refine step_snocG (by rfl) _ _ 54 (by rfl) wq.heap.size 3 i0 _ 1 8 Tryz.underlying54 Hi.out Hz0.out Hz1.out Hz2.out rfl (by decide) _ (L.take k) x (by rfl) own6 (by rfl) (cell_lit (new_cell rfl)) rfl (encI_one _) (by have := Ll.out; simp <;> omega) (by decide) b6.size ?_
                    intro v7 w7' own7 hb7 hg7
                    have b7 := b6.trans hb7
                    refine hK4.out _ _ (b7) (fun hS4 => ?_)
                    try simp only [Act.put, List.setIfInBounds_toArray, List.set_cons_zero, List.set_cons_succ]
                    refine wpAnyH_ready (rs := [14]) (by kernel_rfl) (by simp) ?_
                    refine AllReadyH.cons rfl (fun K5 hK5 => ?_) AllReadyH.nil
                    refine step_app (by rfl) _ _ 54 (by rfl) wq.heap.size 3 i0 _ 1 8 Tryz.underlying54 Hi.out Hz0.out Hz1.out Hz2.out rfl (by decide) encI_len encI_one _ (L.take k ++ [x]) ([] : List Int) _ _ _ wq.heap.size rfl (by rfl) own7 (by rfl) Arr.nil (fun h => by cases h) (by have := Ll.out; simp <;> omega) (by decide) b7.size ?_
                    intro v8 w8 own8 hb8 hg8
                    have b8 := b7.trans hb8
                    refine hK5.out _ _ (b8) (fun hS5 => ?_)
                    try simp only [Act.put, List.setIfInBounds_toArray, List.set_cons_zero, List.set_cons_succ]
                    (refine wpAnyH_take (i := 15) (v := ?_) rfl (by kernel_rfl) (by kernel_rfl) (by kernel_rfl) (fun _ _ _ h => h) (Or.inl ⟨by rfl, ?_⟩) (by assumption) ?_; rotate_left 1; (focus (intro wz hSz; (try dsimp only at hSz); go_simp; (try with_reducible rfl))); (try simp only [Act.put, List.setIfInBounds_toArray, List.set_cons_zero, List.set_cons_succ]))
                    refine wpAnyH_done (by kernel_rfl) ?_ _
                    rw [hfin] at own8
                    have own9 := own_base own8 bq0
                    have b9 := below_trans bqw b8
                    clear L0 cxq arq arT own5 own6 own7 own8
                    go_wp2_with fail
                    exact ⟨⟨k + 1, by omega, by first | go_num | rfl, by rw [st.out]; exact own9, b9⟩, by simp [intOf] <;> omega⟩
                  · go_simp
                    have bL : Below wq.heap.size wq ((wq.alloc (.cells #[] 3)).alloc (.cells #[.int .i64 x] 3)).drew := (below_alloc (below_alloc (Below.refl _ _) _) _).drew
                    refine hK2.out _ _ (bL) (fun hS2 => ?_)
                    try simp only [Act.put, List.setIfInBounds_toArray, List.set_cons_zero, List.set_cons_succ]
                    have o2 : Own ((wq.alloc (.cells #[] 3)).alloc (.cells #[.int .i64 x] 3)).drew wq.heap.size 3 1 encI (.slice (some ⟨wq.heap.size, 0, none⟩) 0 0) [] := ((own_empty (α := Int) (sz := 1) (enc := encI) wq wq.heap.size 3 (Nat.le_refl _)).alloc _).drew
                    have cx2 : ((wq.alloc (.cells #[] 3)).alloc (.cells #[.int .i64 x] 3)).drew.cell? ⟨wq.heap.size + 1, 0, none⟩ = some (.int .i64 x) := by have h := new_cell (w := wq.alloc (.cells #[] 3)) (cs := #[.int .i64 x]) (T := 3) (j := 0) rfl; rw [show (wq.alloc (.cells #[] 3)).heap.size = wq.heap.size + 1 from by simp] at h; exact h
                    refine wpAnyH_ready (rs := [4]) (by kernel_rfl) (by simp) ?_
                    refine AllReadyH.cons rfl (fun K3 hK3 => ?_) AllReadyH.nil
                    refine step_app (by rfl) _ _ 54 (by rfl) wq.heap.size 3 i0 _ 1 8 Tryz.underlying54 Hi.out Hz0.out Hz1.out Hz2.out rfl (by decide) encI_len encI_one _ ([] : List Int) (L.take k) _ _ _ wq.heap.size htl (by rfl) (o2) (by rfl) (Arr.keep arT (bL)) nilT (by have := Ll.out; simp <;> omega) (by decide) (bL.size) ?_
                    intro v5 w5 own5 hb5 hg5
                    rw [List.nil_append] at own5
                    have b6 := bL.trans hb5
                    have own6 := own5
                    have cx5 := hg5.cell cx2 (by simp [Value.ownBlock])
                    refine hK3.out _ _ (b6) (fun hS3 => ?_)
                    try simp only [Act.put, List.setIfInBounds_toArray, List.set_cons_zero, List.set_cons_succ]
                    refine wpAnyH_ready (rs := [10]) (by kernel_rfl) (by simp) ?_
                    refine AllReadyH.cons rfl (fun K4 hK4 => ?_) AllReadyH.nil
                    refine step_snocG (by rfl) _ _ 54 (by rfl) wq.heap.size 3 i0 _ 1 8 Tryz.underlying54 Hi.out Hz0.out Hz1.out Hz2.out rfl (by decide) _ (L.take k) x (by rfl) own6 (by rfl) (cell_lit cx5) rfl (encI_one _) (by have := Ll.out; simp <;> omega) (by decide) b6.size ?_
                    intro v7 w7' own7 hb7 hg7
                    have b7 := b6.trans hb7
                    refine hK4.out _ _ (b7) (fun hS4 => ?_)
                    try simp only [Act.put, List.setIfInBounds_toArray, List.set_cons_zero, List.set_cons_succ]
                    refine wpAnyH_ready (rs := [14]) (by kernel_rfl) (by simp) ?_
                    refine AllReadyH.cons rfl (fun K5 hK5 => ?_) AllReadyH.nil
                    refine step_app (by rfl) _ _ 54 (by rfl) wq.heap.size 3 i0 _ 1 8 Tryz.underlying54 Hi.out Hz0.out Hz1.out Hz2.out rfl (by decide) encI_len encI_one _ (L.take k ++ [x]) ([] : List Int) _ _ _ wq.heap.size rfl (by rfl) own7 (by rfl) Arr.nil (fun h => by cases h) (by have := Ll.out; simp <;> omega) (by decide) b7.size ?_
                    intro v8 w8 own8 hb8 hg8
                    have b8 := b7.trans hb8
                    refine hK5.out _ _ (b8) (fun hS5 => ?_)
                    try simp only [Act.put, List.setIfInBounds_toArray, List.set_cons_zero, List.set_cons_succ]
                    (refine wpAnyH_take (i := 15) (v := ?_) rfl (by kernel_rfl) (by kernel_rfl) (by kernel_rfl) (fun _ _ _ h => h) (Or.inl ⟨by rfl, ?_⟩) (by assumption) ?_; rotate_left 1; (focus (intro wz hSz; (try dsimp only at hSz); go_simp; (try with_reducible rfl))); (try simp only [Act.put, List.setIfInBounds_toArray, List.set_cons_zero, List.set_cons_succ]))
                    refine wpAnyH_done (by kernel_rfl) ?_ _
                    rw [hfin] at own8
                    have own9 := own_base own8 bq0
                    have b9 := below_trans bqw b8
                    clear L0 cxq arq arT own5 own6 own7 own8
                    go_wp2_with fail
                    exact ⟨⟨k + 1, by omega, by first | go_num | rfl, by rw [st.out]; exact own9, b9⟩, by simp [intOf] <;> omega⟩
                · go_simp
                  refine hK1.out _ _ ((below_alloc (Below.refl _ _) (.cells #[.int .i64 x] 3)).drew) (fun hS1 => ?_)
                  try simp only [Act.put, List.setIfInBounds_toArray, List.set_cons_zero, List.set_cons_succ]
                  refine wpAnyH_ready (rs := [0]) (by kernel_rfl) (by simp) ?_
                  refine AllReadyH.cons rfl (fun K2 hK2 => ?_) AllReadyH.nil
                  go_simp
                  have bL : Below wq.heap.size wq ((wq.alloc (.cells #[.int .i64 x] 3)).alloc (.cells #[] 3)).drew := (below_alloc (below_alloc (Below.refl _ _) _) _).drew
                  refine hK2.out _ _ (bL) (fun hS2 => ?_)
                  try simp only [Act.put, List.setIfInBounds_toArray, List.set_cons_zero, List.set_cons_succ]
                  have o2 : Own ((wq.alloc (.cells #[.int .i64 x] 3)).alloc (.cells #[] 3)).drew wq.heap.size 3 1 encI (.slice (some ⟨wq.heap.size + 1, 0, none⟩) 0 0) [] := by have h := (own_empty (α := Int) (sz := 1) (enc := encI) (wq.alloc (.cells #[.int .i64 x] 3)) wq.heap.size 3 (by simp)).drew; rw [show (wq.alloc (.cells #[.int .i64 x] 3)).heap.size = wq.heap.size + 1 from by simp] at h; exact h
                  have cx2 : ((wq.alloc (.cells #[.int .i64 x] 3)).alloc (.cells #[] 3)).drew.cell? ⟨wq.heap.size, 0, none⟩ = some (.int .i64 x) := bel_cell (below_alloc (Below.refl _ _) _).drew (new_cell (w := wq) (cs := #[.int .i64 x]) (T := 3) (j := 0) rfl)
                  refine wpAnyH_ready (rs := [4]) (by kernel_rfl) (by simp) ?_
                  refine AllReadyH.cons rfl (fun K3 hK3 => ?_) AllReadyH.nil
                  refine step_app (by rfl) _ _ 54 (by rfl) wq.heap.size 3 i0 _ 1 8 Tryz.underlying54 Hi.out Hz0.out Hz1.out Hz2.out rfl (by decide) encI_len encI_one _ ([] : List Int) (L.take k) _ _ _ wq.heap.size htl (by rfl) (o2) (by rfl) (Arr.keep arT (bL)) nilT (by have := Ll.out; simp <;> omega) (by decide) (bL.size) ?_
                  intro v5 w5 own5 hb5 hg5
                  rw [List.nil_append] at own5
                  have b6 := bL.trans hb5
                  have own6 := own5
                  have cx5 := hg5.cell cx2 (by simp [Value.ownBlock])
                  refine hK3.out _ _ (b6) (fun hS3 => ?_)
                  try simp only [Act.put, List.setIfInBounds_toArray, List.set_cons_zero, List.set_cons_succ]
                  refine wpAnyH_ready (rs := [10]) (by kernel_rfl) (by simp) ?_
                  refine AllReadyH.cons rfl (fun K4 hK4 => ?_) AllReadyH.nil
                  refine step_snocG (by rfl) _ _ 54 (by rfl) wq.heap.size 3 i0 _ 1 8 Tryz.underlying54 Hi.out Hz0.out Hz1.out Hz2.out rfl (by decide) _ (L.take k) x (by rfl) own6 (by rfl) (cell_lit cx5) rfl (encI_one _) (by have := Ll.out; simp <;> omega) (by decide) b6.size ?_
                  intro v7 w7' own7 hb7 hg7
                  have b7 := b6.trans hb7
                  refine hK4.out _ _ (b7) (fun hS4 => ?_)
                  try simp only [Act.put, List.setIfInBounds_toArray, List.set_cons_zero, List.set_cons_succ]
                  refine wpAnyH_ready (rs := [14]) (by kernel_rfl) (by simp) ?_
                  refine AllReadyH.cons rfl (fun K5 hK5 => ?_) AllReadyH.nil
                  refine step_app (by rfl) _ _ 54 (by rfl) wq.heap.size 3 i0 _ 1 8 Tryz.underlying54 Hi.out Hz0.out Hz1.out Hz2.out rfl (by decide) encI_len encI_one _ (L.take k ++ [x]) ([] : List Int) _ _ _ wq.heap.size rfl (by rfl) own7 (by rfl) Arr.nil (fun h => by cases h) (by have := Ll.out; simp <;> omega) (by decide) b7.size ?_
                  intro v8 w8 own8 hb8 hg8
                  have b8 := b7.trans hb8
                  refine hK5.out _ _ (b8) (fun hS5 => ?_)
                  try simp only [Act.put, List.setIfInBounds_toArray, List.set_cons_zero, List.set_cons_succ]
                  (refine wpAnyH_take (i := 15) (v := ?_) rfl (by kernel_rfl) (by kernel_rfl) (by kernel_rfl) (fun _ _ _ h => h) (Or.inl ⟨by rfl, ?_⟩) (by assumption) ?_; rotate_left 1; (focus (intro wz hSz; (try dsimp only at hSz); go_simp; (try with_reducible rfl))); (try simp only [Act.put, List.setIfInBounds_toArray, List.set_cons_zero, List.set_cons_succ]))
                  refine wpAnyH_done (by kernel_rfl) ?_ _
                  rw [hfin] at own8
                  have own9 := own_base own8 bq0
                  have b9 := below_trans bqw b8
                  clear L0 cxq arq arT own5 own6 own7 own8
                  go_wp2_with fail
                  exact ⟨⟨k + 1, by omega, by first | go_num | rfl, by rw [st.out]; exact own9, b9⟩, by simp [intOf] <;> omega⟩
          · have d3' : decide (a < k) = true := by simpa using d3
            have i1 : (a : Int) < (k : Int) := by simpa using d3
            have i0' : (0 : Int) ≤ (a : Int) := by omega
            have i2 : (0 : Int) ≤ (k : Int) := by omega
            go_wp2_with fail
            go_quiet (fail)
            have bq : Below w6.heap.size w6 (w7.drewN nq) := below_trans hba (below_drw _ _)
            obtain ⟨wq, hwq⟩ : ∃ wq, w7.drewN nq = wq := ⟨_, rfl⟩
            rw [hwq] at bq ⊢
            have bqw := below_trans hb bq
            have bq0 := bqw.size
            have cxq := bel_cell bq cx
            have arq := ar2.on bq
            have L0 := fun w' (hb' : Below wq.heap.size wq w') => bel_cell hb' cxq
            have kn0 : (0 : Int) ≤ (k : Int) := by omega
            have a0 : (0 : Int) ≤ (a : Int) := by omega
            have akI : (a : Int) ≤ (k : Int) := by omega
            have kc : (k : Int) ≤ (c2 : Int) := by omega
            have ac : (a : Int) ≤ (c2 : Int) := by omega
            have hfin0 : L.take a ++ [x] ++ L.drop a = insL x L := by rw [Ha2.out]; exact (ins_split x L).symm
            have htl : (L.take a).length = a := by rw [List.length_take, Ll.out]; omega
            have hdl : (L.drop a).length = k - a := by rw [List.length_drop, Ll.out]
            have hfin := hfin0
            have arT := arr_tk arq a
            have arD : Arr 1 encI wq wq.heap.size (some ⟨ob, oo + a, none⟩) (L.drop a) := arr_dp arq a
            have nilT : some (⟨ob, oo, none⟩ : Addr) = none → c2 = 0 := fun h => by cases h
            have hcap' : (a : Int) < (c2 : Int) := by omega
            have hcn : ¬ c2 = a := by omega
            clear cx7 own7 cx hwq d3 d3' hfin0 cy d4
            go_wp2_with fail
            refine wp_region_held_drew (S := fun w' => Below wq.heap.size wq w') (by kernel_rfl) (Below.refl _ _).drew (fun hHeld => ?_)
            (refine wpAnyH_take (i := 1) (v := ?_) rfl (by kernel_rfl) (by kernel_rfl) (by kernel_rfl) (fun _ _ _ h => h) (Or.inl ⟨by rfl, ?_⟩) (by assumption) ?_; rotate_left 1; (focus (intro wz hSz; (try dsimp only at hSz); go_simp; (try with_reducible rfl))); (try simp only [Act.put, List.setIfInBounds_toArray, List.set_cons_zero, List.set_cons_succ]))
            (refine wpAnyH_take (i := 2) (v := ?_) rfl (by kernel_rfl) (by kernel_rfl) (by kernel_rfl) (fun _ _ _ h => h) (Or.inl ⟨by rfl, ?_⟩) (by assumption) ?_; rotate_left 1; (focus (intro wz hSz; (try dsimp only at hSz); go_simp; (try with_reducible rfl))); (try simp only [Act.put, List.setIfInBounds_toArray, List.set_cons_zero, List.set_cons_succ]))
            (refine wpAnyH_take (i := 3) (v := ?_) rfl (by kernel_rfl) (by kernel_rfl) (by kernel_rfl) (fun _ _ _ h => h) (Or.inl ⟨by rfl, ?_⟩) (by assumption) ?_; rotate_left 1; (focus (intro wz hSz; (try dsimp only at hSz); go_simp; (try with_reducible rfl))); (try simp only [Act.put, List.setIfInBounds_toArray, List.set_cons_zero, List.set_cons_succ]))
            (refine wpAnyH_take (i := 5) (v := ?_) rfl (by kernel_rfl) (by kernel_rfl) (by kernel_rfl) (fun _ _ _ h => h) (Or.inl ⟨by rfl, ?_⟩) (by assumption) ?_; rotate_left 1; (focus (intro wz hSz; (try dsimp only at hSz); go_simp; (try with_reducible rfl))); (try simp only [Act.put, List.setIfInBounds_toArray, List.set_cons_zero, List.set_cons_succ]))
            (refine wpAnyH_take (i := 6) (v := ?_) rfl (by kernel_rfl) (by kernel_rfl) (by kernel_rfl) (fun _ _ _ h => h) (Or.inl ⟨by rfl, ?_⟩) (by assumption) ?_; rotate_left 1; (focus (intro wz hSz; (try dsimp only at hSz); go_simp; (try with_reducible rfl))); (try simp only [Act.put, List.setIfInBounds_toArray, List.set_cons_zero, List.set_cons_succ]))
            (refine wpAnyH_take (i := 7) (v := ?_) rfl (by kernel_rfl) (by kernel_rfl) (by kernel_rfl) (fun _ _ _ h => h) (Or.inl ⟨by rfl, ?_⟩) (by assumption) ?_; rotate_left 1; (focus (intro wz hSz; (try dsimp only at hSz); go_simp; (try with_reducible rfl))); (try simp only [Act.put, List.setIfInBounds_toArray, List.set_cons_zero, List.set_cons_succ]))
            (refine wpAnyH_take (i := 8) (v := ?_) rfl (by kernel_rfl) (by kernel_rfl) (by kernel_rfl) (fun _ _ _ h => h) (Or.inl ⟨by rfl, ?_⟩) (by assumption) ?_; rotate_left 1; (focus (intro wz hSz; (try dsimp only at hSz); go_simp; (try with_reducible rfl))); (try simp only [Act.put, List.setIfInBounds_toArray, List.set_cons_zero, List.set_cons_succ]))
            (refine wpAnyH_take (i := 11) (v := ?_) rfl (by kernel_rfl) (by kernel_rfl) (by kernel_rfl) (fun _ _ _ h => h) (Or.inl ⟨by rfl, ?_⟩) (by assumption) ?_; rotate_left 1; (focus (intro wz hSz; (try dsimp only at hSz); go_simp; (try with_reducible rfl))); (try simp only [Act.put, List.setIfInBounds_toArray, List.set_cons_zero, List.set_cons_succ]))
            (refine wpAnyH_take (i := 12) (v := ?_) rfl (by kernel_rfl) (by kernel_rfl) (by kernel_rfl) (fun _ _ _ h => h) (Or.inl ⟨by rfl, ?_⟩) (by assumption) ?_; rotate_left 1; (focus (intro wz hSz; (try dsimp only at hSz); go_simp; (try with_reducible rfl))); (try simp only [Act.put, List.setIfInBounds_toArray, List.set_cons_zero, List.set_cons_succ]))
            (refine wpAnyH_take (i := 13) (v := ?_) rfl (by kernel_rfl) (by kernel_rfl) (by kernel_rfl) (fun _ _ _ h => h) (Or.inl ⟨by rfl, ?_⟩) (by assumption) ?_; rotate_left 1; (focus (intro wz hSz; (try dsimp only at hSz); go_simp; (try with_reducible rfl))); (try simp only [Act.put, List.setIfInBounds_toArray, List.set_cons_zero, List.set_cons_succ]))
            refine wpAnyH_ready (rs := [0, 9]) (by kernel_rfl) (by simp) ?_
            refine AllReadyH.cons rfl (fun K1 hK1 => ?_) (AllReadyH.cons rfl (fun K1 hK1 => ?_) AllReadyH.nil)
            · go_simp
              refine hK1.out _ _ ((below_alloc (Below.refl _ _) (.cells #[] 3)).drew) (fun hS1 => ?_)
              try simp only [Act.put, List.setIfInBounds_toArray, List.set_cons_zero, List.set_cons_succ]
              have o1 := (own_empty (α := Int) (sz := 1) (enc := encI) wq wq.heap.size 3 (Nat.le_refl _)).drew
              refine wpAnyH_ready (rs := [4, 9]) (by kernel_rfl) (by simp) ?_
              refine AllReadyH.cons rfl (fun K2 hK2 => ?_) (AllReadyH.cons rfl (fun K2 hK2 => ?_) AllReadyH.nil)
              · skip
                refine step_app (by rfl) _ _ 54 (by rfl) wq.heap.size 3 i0 _ 1 8 Tryz.underlying54 Hi.out Hz0.out Hz1.out Hz2.out rfl (by decide) encI_len encI_one _ ([] : List Int) (L.take a) _ _ _ wq.heap.size htl (by rfl) (o1) (by rfl) (Arr.keep arT (hS1)) nilT (by have := Ll.out; simp <;> omega) (by decide) (hS1.size) ?_
                intro v5 w5 own5 hb5 hg5
                rw [List.nil_append] at own5
                have b5 := hS1.trans hb5
                refine hK2.out _ _ (b5) (fun hS2 => ?_)
                try simp only [Act.put, List.setIfInBounds_toArray, List.set_cons_zero, List.set_cons_succ]
                refine wpAnyH_ready (rs := [9]) (by kernel_rfl) (by simp) ?_
                refine AllReadyH.cons rfl (fun K3 hK3 => ?_) AllReadyH.nil
                go_simp
                have b6 : Below wq.heap.size wq (w5.alloc (.cells #[.int .i64 x] 3)) := b5.alloc b5.size _
                have own6 := own5.alloc (.cells #[.int .i64 x] 3)
                refine hK3.out _ _ (b6) (fun hS3 => ?_)
                try simp only [Act.put, List.setIfInBounds_toArray, List.set_cons_zero, List.set_cons_succ]
                refine wpAnyH_ready (rs := [10]) (by kernel_rfl) (by simp) ?_
                refine AllReadyH.cons rfl (fun K4 hK4 => ?_) AllReadyH.nil
                refine step_snocG (by rfl) _ _ 54 (by rfl) wq.heap.size 3 i0 _ 1 8 Tryz.underlying54 Hi.out Hz0.out Hz1.out Hz2.out rfl (by decide) _ (L.take a) x (by rfl) own6 (by rfl) (cell_lit (new_cell rfl)) rfl (encI_one _) (by have := Ll.out; simp <;> omega) (by decide) b6.size ?_
                intro v7 w7' own7 hb7 hg7
                have b7 := b6.trans hb7
                refine hK4.out _ _ (b7) (fun hS4 => ?_)
                try simp only [Act.put, List.setIfInBounds_toArray, List.set_cons_zero, List.set_cons_succ]
                refine wpAnyH_ready (rs := [14]) (by kernel_rfl) (by simp) ?_
                refine AllReadyH.cons rfl (fun K5 hK5 => ?_) AllReadyH.nil
                refine step_app (by rfl) _ _ 54 (by rfl) wq.heap.size 3 i0 _ 1 8 Tryz.underlying54 Hi.out Hz0.out Hz1.out Hz2.out rfl (by decide) encI_len encI_one _ (L.take a ++ [x]) (L.drop a) _ _ _ wq.heap.size hdl (by rfl) own7 (by rfl) (Arr.keep (Arr.up arD (Nat.le_refl _)) b7) (fun h => by cases h) (by have := Ll.out; simp <;> omega) (by decide) b7.size ?_
                intro v8 w8 own8 hb8 hg8
                have b8 := b7.trans hb8
                refine hK5.out _ _ (b8) (fun hS5 => ?_)
                try simp only [Act.put, List.setIfInBounds_toArray, List.set_cons_zero, List.set_cons_succ]
                (refine wpAnyH_take (i := 15) (v := ?_) rfl (by kernel_rfl) (by kernel_rfl) (by kernel_rfl) (fun _ _ _ h => h) (Or.inl ⟨by rfl, ?_⟩) (by assumption) ?_; rotate_left 1; (focus (intro wz hSz; (try dsimp only at hSz); go_simp; (try with_reducible rfl))); (try simp only [Act.put, List.setIfInBounds_toArray, List.set_cons_zero, List.set_cons_succ]))
                refine wpAnyH_done (by kernel_rfl) ?_ _
                rw [hfin] at own8
                have own9 := own_base own8 bq0
                have b9 := below_trans bqw b8
                clear L0 cxq arq arT own5 own6 own7 own8
                go_wp2_with fail
                exact ⟨⟨k + 1, by omega, by first | go_num | rfl, by rw [st.out]; exact own9, b9⟩, by simp [intOf] <;> omega⟩
              · go_simp
                have bL : Below wq.heap.size wq ((wq.alloc (.cells #[] 3)).alloc (.cells #[.int .i64 x] 3)).drew := (below_alloc (below_alloc (Below.refl _ _) _) _).drew
                refine hK2.out _ _ (bL) (fun hS2 => ?_)
                try simp only [Act.put, List.setIfInBounds_toArray, List.set_cons_zero, List.set_cons_succ]
                have o2 : Own ((wq.alloc (.cells #[] 3)).alloc (.cells #[.int .i64 x] 3)).drew wq.heap.size 3 1 encI (.slice (some ⟨wq.heap.size, 0, none⟩) 0 0) [] := ((own_empty (α := Int) (sz := 1) (enc := encI) wq wq.heap.size 3 (Nat.le_refl _)).alloc _).drew
                have cx2 : ((wq.alloc (.cells #[] 3)).alloc (.cells #[.int .i64 x] 3)).drew.cell? ⟨wq.heap.size + 1, 0, none⟩ = some (.int .i64 x) := by have h := new_cell (w := wq.alloc (.cells #[] 3)) (cs := #[.int .i64 x]) (T := 3) (j := 0) rfl; rw [show (wq.alloc (.cells #[] 3)).heap.size = wq.heap.size + 1 from by simp] at h; exact h
                refine wpAnyH_ready (rs := [4]) (by kernel_rfl) (by simp) ?_
                refine AllReadyH.cons rfl (fun K3 hK3 => ?_) AllReadyH.nil
                refine step_app (by rfl) _ _ 54 (by rfl) wq.heap.size 3 i0 _ 1 8 Tryz.underlying54 Hi.out Hz0.out Hz1.out Hz2.out rfl (by decide) encI_len encI_one _ ([] : List Int) (L.take a) _ _ _ wq.heap.size htl (by rfl) (o2) (by rfl) (Arr.keep arT (bL)) nilT (by have := Ll.out; simp <;> omega) (by decide) (bL.size) ?_
                intro v5 w5 own5 hb5 hg5
                rw [List.nil_append] at own5
                have b6 := bL.trans hb5
                have own6 := own5
                have cx5 := hg5.cell cx2 (by simp [Value.ownBlock])
                refine hK3.out _ _ (b6) (fun hS3 => ?_)
                try simp only [Act.put, List.setIfInBounds_toArray, List.set_cons_zero, List.set_cons_succ]
                refine wpAnyH_ready (rs := [10]) (by kernel_rfl) (by simp) ?_
                refine AllReadyH.cons rfl (fun K4 hK4 => ?_) AllReadyH.nil
                refine step_snocG (by rfl) _ _ 54 (by rfl) wq.heap.size 3 i0 _ 1 8 Tryz.underlying54 Hi.out Hz0.out Hz1.out Hz2.out rfl (by decide) _ (L.take a) x (by rfl) own6 (by rfl) (cell_lit cx5) rfl (encI_one _) (by have := Ll.out; simp <;> omega) (by decide) b6.size ?_
                intro v7 w7' own7 hb7 hg7
                have b7 := b6.trans hb7
                refine hK4.out _ _ (b7) (fun hS4 => ?_)
                try simp only [Act.put, List.setIfInBounds_toArray, List.set_cons_zero, List.set_cons_succ]
                refine wpAnyH_ready (rs := [14]) (by kernel_rfl) (by simp) ?_
                refine AllReadyH.cons rfl (fun K5 hK5 => ?_) AllReadyH.nil
                refine step_app (by rfl) _ _ 54 (by rfl) wq.heap.size 3 i0 _ 1 8 Tryz.underlying54 Hi.out Hz0.out Hz1.out Hz2.out rfl (by decide) encI_len encI_one _ (L.take a ++ [x]) (L.drop a) _ _ _ wq.heap.size hdl (by rfl) own7 (by rfl) (Arr.keep (Arr.up arD (Nat.le_refl _)) b7) (fun h => by cases h) (by have := Ll.out; simp <;> omega) (by decide) b7.size ?_
                intro v8 w8 own8 hb8 hg8
                have b8 := b7.trans hb8
                refine hK5.out _ _ (b8) (fun hS5 => ?_)
                try simp only [Act.put, List.setIfInBounds_toArray, List.set_cons_zero, List.set_cons_succ]
                (refine wpAnyH_take (i := 15) (v := ?_) rfl (by kernel_rfl) (by kernel_rfl) (by kernel_rfl) (fun _ _ _ h => h) (Or.inl ⟨by rfl, ?_⟩) (by assumption) ?_; rotate_left 1; (focus (intro wz hSz; (try dsimp only at hSz); go_simp; (try with_reducible rfl))); (try simp only [Act.put, List.setIfInBounds_toArray, List.set_cons_zero, List.set_cons_succ]))
                refine wpAnyH_done (by kernel_rfl) ?_ _
                rw [hfin] at own8
                have own9 := own_base own8 bq0
                have b9 := below_trans bqw b8
                clear L0 cxq arq arT own5 own6 own7 own8
                go_wp2_with fail
                exact ⟨⟨k + 1, by omega, by first | go_num | rfl, by rw [st.out]; exact own9, b9⟩, by simp [intOf] <;> omega⟩
            · go_simp
              refine hK1.out _ _ ((below_alloc (Below.refl _ _) (.cells #[.int .i64 x] 3)).drew) (fun hS1 => ?_)
              try simp only [Act.put, List.setIfInBounds_toArray, List.set_cons_zero, List.set_cons_succ]
              refine wpAnyH_ready (rs := [0]) (by kernel_rfl) (by simp) ?_
              refine AllReadyH.cons rfl (fun K2 hK2 => ?_) AllReadyH.nil
              go_simp
              have bL : Below wq.heap.size wq ((wq.alloc (.cells #[.int .i64 x] 3)).alloc (.cells #[] 3)).drew := (below_alloc (below_alloc (Below.refl _ _) _) _).drew
              refine hK2.out _ _ (bL) (fun hS2 => ?_)
              try simp only [Act.put, List.setIfInBounds_toArray, List.set_cons_zero, List.set_cons_succ]
              have o2 : Own ((wq.alloc (.cells #[.int .i64 x] 3)).alloc (.cells #[] 3)).drew wq.heap.size 3 1 encI (.slice (some ⟨wq.heap.size + 1, 0, none⟩) 0 0) [] := by have h := (own_empty (α := Int) (sz := 1) (enc := encI) (wq.alloc (.cells #[.int .i64 x] 3)) wq.heap.size 3 (by simp)).drew; rw [show (wq.alloc (.cells #[.int .i64 x] 3)).heap.size = wq.heap.size + 1 from by simp] at h; exact h
              have cx2 : ((wq.alloc (.cells #[.int .i64 x] 3)).alloc (.cells #[] 3)).drew.cell? ⟨wq.heap.size, 0, none⟩ = some (.int .i64 x) := bel_cell (below_alloc (Below.refl _ _) _).drew (new_cell (w := wq) (cs := #[.int .i64 x]) (T := 3) (j := 0) rfl)
              refine wpAnyH_ready (rs := [4]) (by kernel_rfl) (by simp) ?_
              refine AllReadyH.cons rfl (fun K3 hK3 => ?_) AllReadyH.nil
              refine step_app (by rfl) _ _ 54 (by rfl) wq.heap.size 3 i0 _ 1 8 Tryz.underlying54 Hi.out Hz0.out Hz1.out Hz2.out rfl (by decide) encI_len encI_one _ ([] : List Int) (L.take a) _ _ _ wq.heap.size htl (by rfl) (o2) (by rfl) (Arr.keep arT (bL)) nilT (by have := Ll.out; simp <;> omega) (by decide) (bL.size) ?_
              intro v5 w5 own5 hb5 hg5
              rw [List.nil_append] at own5
              have b6 := bL.trans hb5
              have own6 := own5
              have cx5 := hg5.cell cx2 (by simp [Value.ownBlock])
              refine hK3.out _ _ (b6) (fun hS3 => ?_)
              try simp only [Act.put, List.setIfInBounds_toArray, List.set_cons_zero, List.set_cons_succ]
              refine wpAnyH_ready (rs := [10]) (by kernel_rfl) (by simp) ?_
              refine AllReadyH.cons rfl (fun K4 hK4 => ?_) AllReadyH.nil
              refine step_snocG (by rfl) _ _ 54 (by rfl) wq.heap.size 3 i0 _ 1 8 Tryz.underlying54 Hi.out Hz0.out Hz1.out Hz2.out rfl (by decide) _ (L.take a) x (by rfl) own6 (by rfl) (cell_lit cx5) rfl (encI_one _) (by have := Ll.out; simp <;> omega) (by decide) b6.size ?_
              intro v7 w7' own7 hb7 hg7
              have b7 := b6.trans hb7
              refine hK4.out _ _ (b7) (fun hS4 => ?_)
              try simp only [Act.put, List.setIfInBounds_toArray, List.set_cons_zero, List.set_cons_succ]
              refine wpAnyH_ready (rs := [14]) (by kernel_rfl) (by simp) ?_
              refine AllReadyH.cons rfl (fun K5 hK5 => ?_) AllReadyH.nil
              refine step_app (by rfl) _ _ 54 (by rfl) wq.heap.size 3 i0 _ 1 8 Tryz.underlying54 Hi.out Hz0.out Hz1.out Hz2.out rfl (by decide) encI_len encI_one _ (L.take a ++ [x]) (L.drop a) _ _ _ wq.heap.size hdl (by rfl) own7 (by rfl) (Arr.keep (Arr.up arD (Nat.le_refl _)) b7) (fun h => by cases h) (by have := Ll.out; simp <;> omega) (by decide) b7.size ?_
              intro v8 w8 own8 hb8 hg8
              have b8 := b7.trans hb8
              refine hK5.out _ _ (b8) (fun hS5 => ?_)
              try simp only [Act.put, List.setIfInBounds_toArray, List.set_cons_zero, List.set_cons_succ]
              (refine wpAnyH_take (i := 15) (v := ?_) rfl (by kernel_rfl) (by kernel_rfl) (by kernel_rfl) (fun _ _ _ h => h) (Or.inl ⟨by rfl, ?_⟩) (by assumption) ?_; rotate_left 1; (focus (intro wz hSz; (try dsimp only at hSz); go_simp; (try with_reducible rfl))); (try simp only [Act.put, List.setIfInBounds_toArray, List.set_cons_zero, List.set_cons_succ]))
              refine wpAnyH_done (by kernel_rfl) ?_ _
              rw [hfin] at own8
              have own9 := own_base own8 bq0
              have b9 := below_trans bqw b8
              clear L0 cxq arq arT own5 own6 own7 own8
              go_wp2_with fail
              exact ⟨⟨k + 1, by omega, by first | go_num | rfl, by rw [st.out]; exact own9, b9⟩, by simp [intOf] <;> omega⟩
    · obtain rfl : k = n := by omega
      have e1 : l.take k = l := by rw [← Hn.out, List.take_length]
      rw [e1] at ow
      clear e1
      go_wp2_with fail
      go_ret
      exact ⟨_, rfl, ow, hb⟩

end Go.Proofs.YtdngehgjbledfaaGreat
