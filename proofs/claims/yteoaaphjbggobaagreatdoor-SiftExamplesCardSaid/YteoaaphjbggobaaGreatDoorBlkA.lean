/- Blocks of numbers in memory; contracts of both sides' Blocks. For at most 4096 numbers, or refused. -/
import Derived.Test.YteoaaphjbggobaaGreatDoorPrmAll
import Derived.Test.YteoaaphjbggobaaGreatDoorRefAll
import Derived.Test.YteoaaphjbggobaaGreatDoorChk
namespace Go.Proofs.YteoaaphjbggobaaGreatDoor
open Go.RowKit
set_option linter.unusedVariables false
set_option linter.unusedSimpArgs false

/-- 'make([]T, 0, n)' in a region that draws its order. -/
theorem step_make {P : Program} {W : World} {ops : Array Oper} {o : Oper} {a : Act} {K : Act → World → Prop} {Q : Exit → Act → World → Prop} {E : Prop} (hgd : o.guard = none) (l c : Operand) (t : TypeId) (hop : o.op = Op.makeSlice t l c)
    (base : Nat) (e : TypeId) (i : TypeInfo) (z : Value) (size : Nat) (h1 : P.underlying t = some (.slice e)) (h2 : P.info? e = some i) (h3 : i.zero = some z) (h4 : i.size = size)
    (kl kc : IntKind) (C : Int) (n : Nat) (hl : a.eval l = .int kl 0) (hc : a.eval c = .int kc C) (hC : C = (n : Int)) (b2 : i.bytes * n ≤ 281474976710656) (b3 : n ≤ maxLen) (b4 : base ≤ W.heap.size)
    (h : ∀ w', w'.ownsRow base e size (.slice (some ⟨W.heap.size, 0, none⟩) 0 n) 0 [] → W.grownBy w' none → K (a.put o.dst (.slice (some ⟨W.heap.size, 0, none⟩) 0 n)) w') : if Region.wanted o (yielded ops a.tmps) = true then Oper.wp P o a W K Q else E := by
  rw [if_pos (by simp [Region.wanted, hgd])]
  obtain ⟨w', hrun, r1, r2⟩ := run_make_own (P := P) W base t e i z size h1 h2 h3 h4 kl kc n b2 b3 b4
  subst hC
  unfold Oper.wp
  simp [execOp, hop, hl, hc, hrun, Result.andThen]
  exact h w' r1 r2
/-- 'out = append(out, x)' in a region that draws its order: where the new slice lies is said, too. -/
theorem step_snocA {P : Program} {W : World} {ops : Array Oper} {o : Oper} {a : Act} {K : Act → World → Prop} {Q : Exit → Act → World → Prop} {E : Prop} (hgd : o.guard = none) (s x : Operand) (t : TypeId)
    (ho : o.op = .call { callee := .builtin .append, args := #[s, x], argTypes := #[t, t] })
    (base : Nat) (e : TypeId) (i : TypeInfo) (z : Value) (size bytes : Nat) (ht : P.underlying t = some (.slice e)) (hi : P.info? e = some i) (hz : i.zero = some z)
    (hsize : i.size = size) (hby : i.bytes = bytes) (hzs : z.cells.size = size) (hsz : 0 < size)
    {α : Type} {enc : α → List Value} (v : Value) (l : List α) (x0 : α) (hs : a.eval s = v) (hown : Own W base e size enc v l)
    {g : Nat} (hx : a.eval x = .slice (some ⟨g, 0, none⟩) 1 1) (hnews : ∀ j u, (enc x0)[j]? = some u → W.cell? ⟨g, j, none⟩ = some u) (hlen : (enc x0).length = size) (h1 : ∀ u ∈ enc x0, u.oneCell' = true)
    (hbytes : (l.length + 1) * bytes ≤ 140737488355328) (hbp : 0 < bytes) (hbase : base ≤ W.heap.size)
    (h : ∀ v' w', Own w' base e size enc v' (l ++ [x0]) → W.grownBy w' v.ownBlock → At W v v' → K (a.put o.dst v') w') : if Region.wanted o (yielded ops a.tmps) = true then Oper.wp P o a W K Q else E := by
  have h63 : l.length + 1 ≤ maxLen := by
    have := Nat.le_mul_of_pos_right (l.length + 1) hbp
    unfold maxLen; omega
  rw [if_pos (by simp [Region.wanted, hgd])]
  obtain ⟨v', w', hr, h2, h3, h4, h5⟩ := run_append_own_at (P := P) W base t o.type e i z size bytes ht hi hz hsize hby hzs hsz v l.length (l.flatMap enc) hown ⟨g, 0, none⟩ 1 1 (enc x0) (by rw [hlen, Nat.one_mul]) (fun j u hu => by
    have hadd : (⟨g, 0, none⟩ : Addr).add j = ⟨g, j, none⟩ := by unfold Addr.add; split <;> simp_all
    rw [hadd]
    exact hnews j u hu) h1 h63 hbytes hbase
  unfold Oper.wp execOp
  simp only [ho, resolve, invoke, builtin, Sem.run_bind, Sem.run_pure, Result.andThen_ok, List.map_toArray, List.map_cons, List.map_nil, hs, hx, hr]
  refine h v' w' (Own.snoc h2) h3 ?_
  rcases h5 with h5 | h5
  · exact .inl h5
  · exact .inr ⟨_, h5, Nat.le_refl _⟩

theorem grown_setW (x : World) (b o : Nat) (v : Value) : x.grownBy (x.setCell ⟨b, o, none⟩ v) (some b) :=
  ⟨(Below.refl 0 x |>.setCell (Nat.zero_le _) v).os, (Below.refl 0 x |>.setCell (Nat.zero_le _) v).tape, (Below.refl 0 x |>.setCell (Nat.zero_le _) v).output, (Below.refl 0 x |>.setCell (Nat.zero_le _) v).size, fun j _ hn => Below.heap_setCell x _ _ j (by simpa using hn)⟩
theorem own_klt {α : Type} {w w' : World} {base e z g : Nat} {enc : α → List Value} {v : Value} {l : List α} (h : Own w base e z enc v l) (hg : w.grownBy w' (some g)) (hlt : g < base) : Own w' base e z enc v l := h.keep hg (by
  cases hv : v.ownBlock with
  | none => exact .inl rfl
  | some x => exact .inr (by have := (World.ownsRow.lt h x hv).1; simp; omega))
/-- A slice of slices of numbers: the call's own, the rows in blocks of their own. -/
structure Blk (w : World) (base : Nat) (v : Value) (items : List It) (L : List (List Int)) : Prop where
  len : items.length = L.length
  own : Own w base 44 1 (fun x => [It.enc x]) v items
  row : ∀ (k : Nat) (it : It) (l : List Int), items[k]? = some it → L[k]? = some l → Own w base 3 1 encI it.enc l ∧ Ap it.enc v
  apt : ∀ (j k : Nat) (a b : It), j < k → items[j]? = some a → items[k]? = some b → Ap a.enc b.enc
section
variable {w w' : World} {base : Nat} {v v' : Value} {items : List It} {L : List (List Int)}
theorem Blk.nil : Blk w base (.slice none 0 0) [] [] := ⟨rfl, Own.nil, fun k it l h => by simp at h, fun j k a b _ h => by simp at h⟩
theorem Blk.keep (h : Blk w base v items L) {g : Nat} (hg : w.grownBy w' (some g)) (hlt : g < base) : Blk w' base v items L :=
  ⟨h.len, own_klt h.own hg hlt, fun k it l h1 h2 => ⟨own_klt (h.row k it l h1 h2).1 hg hlt, (h.row k it l h1 h2).2⟩, h.apt⟩
theorem Blk.below (h : Blk w base v items L) (hb : Below w.heap.size w w') : Blk w' base v items L :=
  ⟨h.len, h.own.below hb, fun k it l h1 h2 => ⟨(h.row k it l h1 h2).1.below hb, (h.row k it l h1 h2).2⟩, h.apt⟩
theorem Blk.push (h : Blk w base v items L) {it : It} {l : List Int} (hg : w.grownBy w' v.ownBlock) (hat : At w v v') (ho : Own w' base 44 1 (fun x => [It.enc x]) v' (items ++ [it])) (hr : Own w base 3 1 encI it.enc l) (hv : Ap it.enc v) (ha : ∀ (k : Nat) (a : It), items[k]? = some a → Ap a.enc it.enc) : Blk w' base v' (items ++ [it]) (L ++ [l]) := by
  have key : ∀ (k : Nat) (x : It), (items ++ [it])[k]? = some x → (items[k]? = some x ∧ k < items.length) ∨ (k = items.length ∧ x = it) := by
    intro k x hx
    rcases Nat.lt_or_ge k items.length with hk | hk
    · rw [List.getElem?_append_left hk] at hx; exact .inl ⟨hx, hk⟩
    · have := (List.getElem?_eq_some_iff.1 hx).1
      simp at this
      have hke : k = items.length := by omega
      subst hke
      rw [List.getElem?_append_right (Nat.le_refl _), Nat.sub_self] at hx
      exact .inr ⟨rfl, by simpa using hx.symm⟩
  refine ⟨by simp [h.len], ho, fun k x l' h1 h2 => ?_, fun j k a b hjk h1 h2 => ?_⟩
  · rcases key k x h1 with ⟨h1, hk⟩ | ⟨rfl, rfl⟩
    · rw [List.getElem?_append_left (by rw [← h.len]; exact hk)] at h2
      obtain ⟨r1, r2⟩ := h.row k x l' h1 h2
      exact ⟨own_new r1 r2 hg, ap_new r1 r2 hat⟩
    · rw [List.getElem?_append_right (by rw [h.len]; exact Nat.le_refl _), h.len, Nat.sub_self] at h2
      obtain rfl : l = l' := by simpa using h2
      exact ⟨own_new hr hv hg, ap_new hr hv hat⟩
  · rcases key k b h2 with ⟨h2, hk⟩ | ⟨rfl, rfl⟩
    · rcases key j a h1 with ⟨h1, _⟩ | ⟨rfl, _⟩
      · exact h.apt j k a b hjk h1 h2
      · omega
    · rcases key j a h1 with ⟨h1, _⟩ | ⟨rfl, _⟩
      · exact ha j a h1
      · omega
theorem Blk.store (h : Blk w base v items L) {i k g n c : Nat} {r : List Int} (hi : items[i]? = some ⟨some ⟨g, 0, none⟩, n, c⟩) (hr : L[i]? = some r) (x : Int) : Blk (w.setCell ⟨g, k, none⟩ (.int .i64 x)) base v items (L.set i (r.set k x)) := by
  obtain ⟨o1, a1⟩ := h.row i _ _ hi hr
  have hlen : r.length = n := by
    obtain ⟨A, c', hv, _⟩ := o1.form encI_len
    simp [It.enc] at hv
    omega
  have hgv : v.ownBlock = none ∨ v.ownBlock ≠ some g := by
    rcases a1.symm with a1 | a1
    · exact .inl a1
    · exact .inr a1
  refine ⟨by simp [h.len], h.own.keep (grown_setW _ _ _ _) hgv, fun j it l h1 h2 => ?_, h.apt⟩
  by_cases hj : i = j
  · subst hj
    rw [hi] at h1
    obtain rfl := Option.some.inj h1
    rw [List.getElem?_set_self (List.getElem?_eq_some_iff.1 hr).1] at h2
    obtain rfl := Option.some.inj h2
    exact ⟨Own.set1 (f := Value.int .i64) o1 hlen k x, a1⟩
  · rw [List.getElem?_set_ne hj] at h2
    obtain ⟨o2, a2⟩ := h.row j it l h1 h2
    refine ⟨o2.keep (grown_setW _ _ _ _) ?_, a2⟩
    have : Ap it.enc (It.enc ⟨some ⟨g, 0, none⟩, n, c⟩) := by
      rcases Nat.lt_or_gt_of_ne hj with hl | hl
      · exact (h.apt i j _ _ hl hi h1).symm
      · exact h.apt j i _ _ hl h1 hi
    exact this
end

def blk (l : List Int) (z n : Nat) : List (List Int) := (List.range n).map fun k => (l.drop (k * z)).take z
theorem blk_len (l : List Int) (z n : Nat) : (blk l z n).length = n := by simp [blk]
theorem blk_snoc (l : List Int) (z n : Nat) : blk l z (n + 1) = blk l z n ++ [(l.drop (n * z)).take z] := by simp [blk, List.range_succ]
theorem blk_at {l : List Int} {z n k : Nat} (h : k < n) : (blk l z n)[k]? = some ((l.drop (k * z)).take z) := by simp [blk, h]
def bkE (n : Nat) (z : Int) : Int := if betwB z 1 512 = false then 3 else if 4096 < n then 5 else 0
def bkL (l : List Int) (z : Int) : List (List Int) := if bkE l.length z = 0 then blk l z.toNat (l.length / z.toNat) else []
def sLen : Value → Nat
  | .slice _ n _ => n
  | _ => 0


theorem bk_bad {n : Nat} {l : List Int} (hn : l.length = n) {z : Int} (h : bkE n z ≠ 0) : bkL l z = [] := by
  unfold bkL; rw [hn, if_neg h]
theorem bk_ok {n : Nat} {z : Int} (h : bkE n z = 0) : 1 ≤ z ∧ z ≤ 512 ∧ n ≤ 4096 := by
  unfold bkE at h
  split at h
  · cases h
  · split at h
    · cases h
    · rename_i h1 h2
      simp [betwB] at h1
      exact ⟨by omega, by omega, by omega⟩
theorem it_lit {w : World} {g : Nat} {it : It} (h : w.cell? ⟨g, 0, none⟩ = some it.enc) : ∀ j u, ((fun x => [It.enc x]) it)[j]? = some u → w.cell? ⟨g, j, none⟩ = some u := fun j u hu => by
  cases j with
  | zero => obtain rfl : it.enc = u := by simpa using hu
            exact h
  | succ j => simp at hu
/-- What Blocks hands back. -/
def BkR (w w' : World) (l : List Int) (z : Int) (e : Ending) : Prop := ∃ v items, e = .returned (.tuple #[v, .int .i64 (bkE l.length z)]) ∧ Blk w' w.heap.size v items (bkL l z) ∧ Below w.heap.size w w'
theorem bkR_bad {w w' : World} {l : List Int} {z E : Int} (h : bkE l.length z = E) (hE : E ≠ 0) (hb : Below w.heap.size w w') : BkR w w' l z (.returned (.tuple #[.slice none 0 0, .int .i64 E])) :=
  ⟨_, [], by rw [h], by rw [bk_bad rfl (by rw [h]; exact hE)]; exact Blk.nil, hb⟩
set_option maxRecDepth 100000 in
set_option maxHeartbeats 4000000 in
theorem Blocks_any (A : Option Addr) (n c : Nat) (l : List Int) (z : Int) (w : World) (hn : l.length = n) (hA : Arr 1 encI w w.heap.size A l) (hc : n ≤ c) (hm : c ≤ maxLen) (hnil : A = none → c = 0) : Calls Tryz.prog 11 #[.slice A n c, .int .i64 z] w fun e w' => BkR w w' l z e := by
  unfold maxLen at hm
  have cB := fun w' => between_any z 1 512 w'
  by_cases h : bkE n z = 0
  · obtain ⟨z1, z2, n1⟩ := bk_ok h
    obtain ⟨z, rfl⟩ := Int.eq_ofNat_of_zero_le (show 0 ≤ z by omega)
    have hB : betwB (z : Int) 1 512 = true := by simp [betwB]; omega
    simp only [hB] at cB
    have d1 : decide (4096 < (n : Int)) = false := by simp; omega
    have H := Lib.hid h; have Hn := Lib.hid hn
    obtain ⟨i0, hi, hz0, hz1, hz2⟩ := info_parts int_info5
    have Hi := Lib.hid hi; have Hz0 := Lib.hid hz0; have Hz1 := Lib.hid hz1; have Hz2 := Lib.hid hz2
    obtain ⟨j0, ji, jz0, jz1, jz2⟩ := info_parts ints_info
    have Ji := Lib.hid ji; have Jz0 := Lib.hid jz0; have Jz1 := Lib.hid jz1; have Jz2 := Lib.hid jz2
    clear hi hz0 hz1 hz2 ji jz0 jz1 jz2 h hB hn
    go_enter Tryz.func11, Tryz.ntmps11
    go_wp2_with (go_at_call 23; refine (cB _).mono ?_; rintro e w' ⟨rfl, rfl⟩)
    go_loopw [0, 6] (fun sv lv wr => ∃ (k m c' : Nat) (A' : Option Addr) (items : List It), sv = .slice A' m c' ∧ Hid (m + k * z = n) ∧ m ≤ c' ∧ c' ≤ c ∧ k ≤ 4096 ∧ Arr 1 encI w w.heap.size A' (l.drop (k * z)) ∧ (A' = none → c' = 0) ∧ Blk wr w.heap.size lv items (blk l z k) ∧ Below w.heap.size w wr) (fun sv _ _ => sLen sv)
    case atStart => exact ⟨0, n, c, A, [], rfl, Lib.hid (by omega), hc, Nat.le_refl _, by omega, by rw [Nat.zero_mul, List.drop_zero]; exact hA, hnil, Blk.nil, Below.refl _ _⟩
    case round =>
      obtain ⟨k, m, c', A', items, rfl, hmk, hmc, hcc, hk, ar, hn', bk, hb⟩ := hrel
      obtain ⟨w6, rfl⟩ : ∃ w6, w6 = wr := ⟨_, rfl⟩
      have hdl : (l.drop (k * z)).length = m := by rw [List.length_drop, Hn.out]; have := hmk.out; omega
      rcases Nat.lt_or_ge m z with hlt | hge
      · have g1 : decide ((z : Int) ≤ (m : Int)) = false := by simp; omega
        have g1' : decide (z ≤ m) = false := by simp; omega
        have hq : n / z = k := by
          have := hmk.out
          rw [← this]
          rw [Nat.add_mul_div_right _ _ (by omega), Nat.div_eq_of_lt hlt, Nat.zero_add]
        have hfin : bkL l (z : Int) = blk l z k := by unfold bkL; rw [Hn.out, if_pos H.out, Int.toNat_natCast, hq]
        have Hf := Lib.hid hfin
        clear hfin hq hdl
        go_wp2_with fail
        go_ret2
        exact ⟨u6, items, by rw [Hn.out, H.out]; rfl, by rw [Hf.out]; exact bk, hb⟩
      · have g1 : decide ((z : Int) ≤ (m : Int)) = true := by simp; omega
        have g1' : decide (z ≤ m) = true := by simp; omega
        have zc : (z : Int) ≤ (c' : Int) := by omega
        have zm : (z : Int) ≤ (m : Int) := by omega
        have z0 : (0 : Int) ≤ (z : Int) := by omega
        have kz : (k + 1) * z = k * z + z := by rw [Nat.add_mul, Nat.one_mul]
        have hk1 : k + 1 ≤ 4096 := by
          have h2 := hmk.out
          have h3 : (k + 1) * 1 ≤ (k + 1) * z := Nat.mul_le_mul_left _ (by omega)
          omega
        obtain ⟨ab, ao, rfl, hab, _⟩ := ar (by rintro h; rw [h] at hdl; simp at hdl; omega)
        have arT := arr_tk ar z
        have htl : ((l.drop (k * z)).take z).length = z := by rw [List.length_take, hdl]; omega
        have arD : Arr 1 encI w w.heap.size (some ⟨ab, ao + z, none⟩) (l.drop ((k + 1) * z)) := by
          have h := arr_dp ar z
          rw [List.drop_drop] at h
          rw [kz]; exact h
        have hsn := Lib.hid (blk_snoc l z k)
        have Hk := Lib.hid (show (m - z) + (k + 1) * z = n by have := hmk.out; omega)
        have sz := hb.size
        have bl := bk.len
        rw [blk_len] at bl
        have Bl := Lib.hid bl
        clear kz hdl bl
        have hcap : (c' = z ∧ m = z) ∨ (¬ c' = z ∧ (z : Int) < (c' : Int)) := by omega
        have cc : c' ≤ 9223372036854775807 := by omega
        go_wp2_with fail
        refine wp_region_held_drew (S := fun _ => True) (by kernel_rfl) trivial (fun hHeld => ?_)
        (refine wpAnyH_take (i := 0) (v := ?_) rfl (by kernel_rfl) (by kernel_rfl) (by kernel_rfl) (fun _ _ _ h => h) (Or.inl ⟨by rfl, ?_⟩) (by assumption) ?_; rotate_left 1; (focus (intro wz hSz; (try dsimp only at hSz); go_simp; (try with_reducible rfl))); (try simp only [Act.put, List.setIfInBounds_toArray, List.set_cons_zero, List.set_cons_succ]))
        (refine wpAnyH_take (i := 1) (v := ?_) rfl (by kernel_rfl) (by kernel_rfl) (by kernel_rfl) (fun _ _ _ h => h) (Or.inl ⟨by rfl, ?_⟩) (by assumption) ?_; rotate_left 1; (focus (intro wz hSz; (try dsimp only at hSz); go_simp; (try with_reducible rfl))); (try simp only [Act.put, List.setIfInBounds_toArray, List.set_cons_zero, List.set_cons_succ]))
        (refine wpAnyH_take (i := 3) (v := ?_) rfl (by kernel_rfl) (by kernel_rfl) (by kernel_rfl) (fun _ _ _ h => h) (Or.inl ⟨by rfl, ?_⟩) (by assumption) ?_; rotate_left 1; (focus (intro wz hSz; (try dsimp only at hSz); go_simp; (try with_reducible rfl))); (try simp only [Act.put, List.setIfInBounds_toArray, List.set_cons_zero, List.set_cons_succ]))
        (refine wpAnyH_take (i := 4) (v := ?_) rfl (by kernel_rfl) (by kernel_rfl) (by kernel_rfl) (fun _ _ _ h => h) (Or.inl ⟨by rfl, ?_⟩) (by assumption) ?_; rotate_left 1; (focus (intro wz hSz; (try dsimp only at hSz); go_simp; (try with_reducible rfl))); (try simp only [Act.put, List.setIfInBounds_toArray, List.set_cons_zero, List.set_cons_succ]))
        (refine wpAnyH_take (i := 5) (v := ?_) rfl (by kernel_rfl) (by kernel_rfl) (by kernel_rfl) (fun _ _ _ h => h) (Or.inl ⟨by rfl, ?_⟩) (by assumption) ?_; rotate_left 1; (focus (intro wz hSz; (try dsimp only at hSz); go_simp; (try with_reducible rfl))); (try simp only [Act.put, List.setIfInBounds_toArray, List.set_cons_zero, List.set_cons_succ]))
        refine wpAnyH_ready (rs := [2]) (by kernel_rfl) (by simp) ?_
        refine AllReadyH.cons rfl (fun K1 hK1 => ?_) AllReadyH.nil
        refine step_make (by rfl) _ _ 44 (by rfl) w6.drew.heap.size 3 i0 _ 1 Tryz.underlying44 Hi.out Hz0.out Hz1.out _ _ _ z (by rfl) (by rfl) rfl (by rw [Hz2.out]; omega) (by unfold maxLen; omega) (Nat.le_refl _) ?_
        intro w7 row7 gr7
        have own7 : Own w7 w6.heap.size 3 1 encI (.slice (some ⟨w6.drew.heap.size, 0, none⟩) 0 z) ([] : List Int) := row7
        have b7 : Below w6.heap.size w6 w7 := (Below.refl _ _).drew.trans ⟨gr7.os, gr7.tape, gr7.output, gr7.size, fun k hk => gr7.block k hk (by simp)⟩
        refine hK1.out _ _ trivial (fun hS1 => ?_)
        try simp only [Act.put, List.setIfInBounds_toArray, List.set_cons_zero, List.set_cons_succ]
        refine wpAnyH_ready (rs := [6]) (by kernel_rfl) (by simp) ?_
        refine AllReadyH.cons rfl (fun K2 hK2 => ?_) AllReadyH.nil
        refine step_app (by rfl) _ _ 44 (by rfl) w6.heap.size 3 i0 _ 1 8 Tryz.underlying44 Hi.out Hz0.out Hz1.out Hz2.out rfl (by decide) encI_len encI_one _ ([] : List Int) ((l.drop (k * z)).take z) _ _ _ w.heap.size htl (by rfl) own7 (by rfl) (Arr.keep arT (hb.trans (b7.mono sz))) (fun h => by cases h) (by rw [htl]; simp <;> omega) (by decide) b7.size ?_
        intro v8 w8 own8 hb8 hg8
        rw [List.nil_append] at own8
        have b8 := b7.trans hb8
        refine hK2.out _ _ trivial (fun hS2 => ?_)
        try simp only [Act.put, List.setIfInBounds_toArray, List.set_cons_zero, List.set_cons_succ]
        obtain ⟨A8, c8, hv8, l8, m8, _, _⟩ := own8.form encI_len
        rw [htl] at hv8 l8
        subst hv8
        refine wpAnyH_ready (rs := [7]) (by kernel_rfl) (by simp) ?_
        refine AllReadyH.cons rfl (fun K3 hK3 => ?_) AllReadyH.nil
        go_simp
        have b9 : Below w6.heap.size w6 (w8.alloc (.cells #[.slice A8 z c8] 44)) := b8.alloc b8.size _
        refine hK3.out _ _ trivial (fun hS3 => ?_)
        try simp only [Act.put, List.setIfInBounds_toArray, List.set_cons_zero, List.set_cons_succ]
        refine wpAnyH_ready (rs := [8]) (by kernel_rfl) (by simp) ?_
        refine AllReadyH.cons rfl (fun K4 hK4 => ?_) AllReadyH.nil
        have bk9 := bk.below b9
        have own9 : Own (w8.alloc (.cells #[.slice A8 z c8] 44)) w6.heap.size 3 1 encI (.slice A8 z c8) ((l.drop (k * z)).take z) := own8.alloc _
        refine step_snocA (by rfl) _ _ 41 (by rfl) w.heap.size 44 j0 _ 1 24 Tryz.underlying41 Ji.out Jz0.out Jz1.out Jz2.out rfl (by decide) (enc := fun x => [It.enc x]) _ items ⟨A8, z, c8⟩ (by rfl) bk9.own (by rfl) (it_lit (new_cell rfl)) rfl (It.one _) (by rw [Bl.out]; omega) (by decide) (Nat.le_trans sz b9.size) ?_
        intro v10 w10 own10 hg10 hat10
        have apv : Ap (It.enc ⟨A8, z, c8⟩) u6 := ap_low bk.own own9
        have bk10 := bk9.push hg10 hat10 own10 (own_base own9 sz) apv (fun q a ha => by
          obtain ⟨lq, hlq⟩ : ∃ lq, (blk l z k)[q]? = some lq := ⟨_, List.getElem?_eq_getElem (by rw [← bk.len]; exact (List.getElem?_eq_some_iff.1 ha).1)⟩
          exact (ap_low (bk.row q a lq ha hlq).1 own9).symm)
        rw [← hsn.out] at bk10
        have b10 : Below w.heap.size w w10 := (hb.trans (b9.mono sz)).grown hg10 (Nat.le_trans sz b9.size) (fun x hx => (World.ownsRow.lt bk9.own x hx).1)
        refine hK4.out _ _ trivial (fun hS4 => ?_)
        try simp only [Act.put, List.setIfInBounds_toArray, List.set_cons_zero, List.set_cons_succ]
        (refine wpAnyH_take (i := 9) (v := ?_) rfl (by kernel_rfl) (by kernel_rfl) (by kernel_rfl) (fun _ _ _ h => h) (Or.inl ⟨by rfl, ?_⟩) (by assumption) ?_; rotate_left 1; (focus (intro wz hSz; (try dsimp only at hSz); go_simp; (try with_reducible rfl))); (try simp only [Act.put, List.setIfInBounds_toArray, List.set_cons_zero, List.set_cons_succ]))
        refine wpAnyH_done (by kernel_rfl) ?_ _
        clear bk own7 own8 own9 own10 bk9 arT hsn
        have zm2 : m - z < m := by omega
        rcases hcap with ⟨rfl, rfl⟩ | ⟨hne, hlt⟩
        · go_wp2_with fail
          exact ⟨⟨k + 1, 0, 0, _, items ++ [⟨A8, m, c8⟩], rfl, Lib.hid (by have := Hk.out; omega), Nat.le_refl _, by omega, hk1, by rw [List.drop_eq_nil_of_le (by have := Hk.out; rw [Hn.out]; omega)]; exact Arr.nil, fun _ => rfl, bk10, b10⟩, by simp [sLen]; omega⟩
        · go_wp2_with fail
          exact ⟨⟨k + 1, m - z, c' - z, _, items ++ [⟨A8, z, c8⟩], rfl, Hk, by omega, by omega, hk1, arD, (fun h => by cases h), bk10, b10⟩, by simp [sLen]; omega⟩
  · cases hB : betwB z 1 512 with
    | false =>
      have e3 : bkE l.length z = 3 := by unfold bkE; rw [if_pos hB]
      simp only [hB] at cB
      have E3 := Lib.hid e3
      clear h hB e3
      go_enter Tryz.func11, Tryz.ntmps11
      go_wp2_with (go_at_call 23; refine (cB _).mono ?_; rintro e w' ⟨rfl, rfl⟩)
      go_ret2
      exact bkR_bad E3.out (by decide) (Below.refl _ _)
    | true =>
      have h4 : 4096 < n := by
        unfold bkE at h
        rw [if_neg (by rw [hB]; decide)] at h
        by_cases h4 : 4096 < n
        · exact h4
        · rw [if_neg h4] at h; exact (h rfl).elim
      have e5 : bkE l.length z = 5 := by unfold bkE; rw [if_neg (by rw [hB]; decide), if_pos (by rw [hn]; exact h4)]
      simp only [hB] at cB
      have d1 : decide (4096 < (n : Int)) = true := by simp; omega
      have E5 := Lib.hid e5
      clear h hB e5
      go_enter Tryz.func11, Tryz.ntmps11
      go_wp2_with (go_at_call 23; refine (cB _).mono ?_; rintro e w' ⟨rfl, rfl⟩)
      go_ret2
      exact bkR_bad E5.out (by decide) (Below.refl _ _)

end Go.Proofs.YteoaaphjbggobaaGreatDoor
