/- Letters of a session: when they are valid, their bits; contracts of both sides' Bits. -/
import Derived.Test.YtfolgmcoggejbaaGreatSesP
import Derived.Test.YtfolgmcoggejbaaGreatApt
import Derived.Test.YtfolgmcoggejbaaGreatPolAll
import Derived.StillTail
import Derived.StillTailTactics
namespace Go.Proofs.YtfolgmcoggejbaaGreat
open Go.RowKit
set_option linter.unusedVariables false
set_option linter.unusedSimpArgs false

def bitN (n : Int) (k : Nat) : Bool := decide (n.toNat / 2 ^ k % 2 = 1)
/-- The first j of the 16 bits of a number, the greatest one first. -/
def b16 (n : Int) : Nat → List Bool
  | 0 => []
  | j + 1 => b16 n j ++ [bitN n (15 - j)]
theorem b16_len (n : Int) : ∀ j, (b16 n j).length = j
  | 0 => rfl
  | j + 1 => by rw [b16, List.length_append, b16_len n j]; rfl
/-- A box with a slice of bits of the call's own. -/
structure OutAt (w : World) (base p : Nat) (v : Value) (L : List Bool) : Prop where
  c : w.cell? ⟨p, 0, none⟩ = some v
  fr : w.frozen? ⟨p, 0, none⟩ = false
  own : Own w base 4 1 encB v L
  ap : v.ownBlock = none ∨ v.ownBlock ≠ some p
  hp : base ≤ p
theorem grown_setP (x : World) (b o : Nat) (v : Value) : x.grownBy (x.setCell ⟨b, o, none⟩ v) (some b) :=
  ⟨(Below.refl 0 x |>.setCell (Nat.zero_le _) v).os, (Below.refl 0 x |>.setCell (Nat.zero_le _) v).tape, (Below.refl 0 x |>.setCell (Nat.zero_le _) v).output, (Below.refl 0 x |>.setCell (Nat.zero_le _) v).size, fun j _ hn => Below.heap_setCell x _ _ j (by simpa using hn)⟩

def okW (x : Int) : Bool := betwB x 0 65535
theorem fineC_any (x : Int) (w : World) : Calls Tryz.prog 127 #[.int .i64 x] w fun e w' => e = .returned (.bool (!okW x)) ∧ w = w' := by
  have h : Hid (okW x = betwB x 0 65535) := Lib.hid rfl
  go_enter Tryz.func127, Tryz.ntmps127
  go_wp2_with (go_at_call 61; refine (ssane_any _ _ _ _).mono ?_; rintro e w' ⟨rfl, rfl⟩; rw [← h.out])
  go_ret
  exact ⟨rfl, rfl⟩
set_option maxHeartbeats 2000000 in
theorem IndexFunc_any (A : Option Addr) (c : Nat) (l : List Int) (w : World) (hA : Arr 1 encI w w.heap.size A l) (hl : l.length ≤ 4611686018427387904) :
    Calls Tryz.prog 174 #[.slice A l.length c, .func (.func 127) #[] #[]] w fun e w' => ∃ r : Int, e = .returned (.int .i64 r) ∧ decide (r ≥ 0) = !l.all okW ∧ w = w' := by
  go_enter Tryz.func174, Tryz.ntmps174
  go_wp2_with fail
  go_loopw [8] (fun i wr => ∃ k : Nat, k ≤ l.length ∧ i = .int .i64 k ∧ Hid ((l.take k).all okW = true) ∧ w = wr) (fun i _ => l.length - (intOf i).toNat)
  case atStart => exact ⟨0, by omega, rfl, Lib.hid rfl, rfl⟩
  case round =>
    obtain ⟨k, hk, rfl, hall, rfl⟩ := hrel
    by_cases hlt : k < l.length
    · obtain ⟨b, off, rfl, hbb, hc⟩ := hA.get hlt (Below.refl _ _)
      have c0 := hc 0 _ rfl
      simp only [Nat.mul_one, Nat.add_zero] at c0
      have ht : Hid ((l.take (k + 1)).all okW = ((l.take k).all okW && okW l[k])) := Lib.hid (by rw [List.take_succ_eq_append_getElem hlt, List.all_append]; simp)
      have hno : Hid (okW l[k] = false → l.all okW = false) := Lib.hid (fun h => by
        rw [← List.take_append_drop k l, List.all_append, List.drop_eq_getElem_cons hlt, List.all_cons, h]; simp)
      generalize l[k] = x at *
      cases hx : okW x
      · go_wp2_with (go_at_call 127; refine (fineC_any _ _).mono ?_; rintro e w' ⟨rfl, rfl⟩; rw [hx])
        go_ret
        exact ⟨_, rfl, by rw [hno.out hx]; simp, rfl⟩
      · go_wp2_with (go_at_call 127; refine (fineC_any _ _).mono ?_; rintro e w' ⟨rfl, rfl⟩; rw [hx])
        go_roundw
        case rel => exact ⟨k + 1, by omega, by go_num, Lib.hid (by rw [ht.out, hall.out, hx]; rfl), trivial⟩
        case measure => simp [intOf]; omega
    · have e1 : Hid (l.take k = l) := Lib.hid (List.take_of_length_le (by omega))
      go_wp2_with fail
      go_ret
      exact ⟨_, rfl, by rw [← e1.out, hall.out]; rfl, rfl⟩

/-- 'out = append(out, x)' in a region that draws its order: where the new slice lies is said, too. -/
theorem step_snocL {P : Program} {W : World} {ops : Array Oper} {o : Oper} {a : Act} {K : Act → World → Prop} {Q : Exit → Act → World → Prop} {E : Prop} (hgd : o.guard = none) (s x : Operand) (t : TypeId)
    (ho : o.op = .call { callee := .builtin .append, args := #[s, x], argTypes := #[t, t] })
    (base : Nat) (e : TypeId) (i : TypeInfo) (z : Value) (size bytes : Nat) (ht : P.underlying t = some (.slice e)) (hi : P.info? e = some i) (hz : i.zero = some z)
    (hsize : i.size = size) (hby : i.bytes = bytes) (hzs : z.cells.size = size) (hsz : 0 < size)
    {α : Type} {enc : α → List Value} (v : Value) (l : List α) (x0 : α) (hs : a.eval s = v) (hown : Own W base e size enc v l)
    {g : Nat} (hx : a.eval x = .slice (some ⟨g, 0, none⟩) 1 1) (hnews : ∀ j u, (enc x0)[j]? = some u → W.cell? ⟨g, j, none⟩ = some u) (hlen : (enc x0).length = size) (h1 : ∀ u ∈ enc x0, u.oneCell' = true)
    (hbytes : (l.length + 1) * bytes ≤ 140737488355328) (hbp : 0 < bytes) (hbase : base ≤ W.heap.size)
    (h : ∀ v' w', Own w' base e size enc v' (l ++ [x0]) → W.grownBy w' v.ownBlock → At W v v' → K (a.put o.dst v') w') : if Region.wanted o (yielded ops a.tmps) = true then Oper.wp P o a W K Q else E := by
  have h63 : l.length + 1 ≤ maxLen := by
    have := Nat.le_mul_of_pos_right (l.length + 1) hbp
    unfold maxLen; omega
  rw [if_pos (by simp [Region.wanted, hgd])]
  obtain ⟨v', w', hr, h2, h3, h4, h5⟩ := run_append_own_at (P := P) W base t o.type e i z size bytes ht hi hz hsize hby hzs hsz v l.length (l.flatMap enc) hown ⟨g, 0, none⟩ 1 1 (enc x0) (by rw [hlen, Nat.one_mul]) (fun j u hu => by
    have hadd : (⟨g, 0, none⟩ : Addr).add j = ⟨g, j, none⟩ := by unfold Addr.add; split <;> simp_all
    rw [hadd]
    exact hnews j u hu) h1 h63 hbytes hbase
  unfold Oper.wp execOp
  simp only [ho, resolve, invoke, builtin, Sem.run_bind, Sem.run_pure, Result.andThen_ok, List.map_toArray, List.map_cons, List.map_nil, hs, hx, hr]
  refine h v' w' (Own.snoc h2) h3 ?_
  rcases h5 with h5 | h5
  · exact .inl h5
  · exact .inr ⟨_, h5, Nat.le_refl _⟩

theorem bit_i64 {N k : Nat} (h : N < 1000000) : (bits BinOp.and IntKind.i64 ((N : Int) / 2 ^ k) 1 == 1) = bitN (N : Int) k := by
  have hx : N / 2 ^ k < 1000000 := Nat.lt_of_le_of_lt (Nat.div_le_self _ _) h
  have e : ((N : Int) / 2 ^ k) = ((N / 2 ^ k : Nat) : Int) := by simp
  have o : ∀ x : Nat, x < 1000000 → (BitVec.ofInt 64 (x : Int)).toNat = x := fun x hx => by
    rw [BitVec.ofInt_natCast, BitVec.toNat_ofNat]; exact Nat.mod_eq_of_lt (by omega)
  rw [e]
  unfold bitN
  rw [Int.toNat_natCast]
  generalize N / 2 ^ k = M at *
  have h1 : bits BinOp.and IntKind.i64 (M : Int) ((1 : Nat) : Int) = ((M &&& 1 : Nat) : Int) := by
    show IntKind.i64.wrap ((BitVec.ofInt 64 (M : Int) &&& BitVec.ofInt 64 ((1 : Nat) : Int)).toNat : Int) = _
    rw [BitVec.toNat_and, o M hx, o 1 (by decide)]
    have : M &&& 1 ≤ 1 := Nat.and_le_right
    exact IntWalk.i64_in _ (by omega)
  rw [show (1 : Int) = ((1 : Nat) : Int) from rfl, h1, Nat.and_one_is_mod]
  rw [Bool.eq_iff_iff]; simp; omega

set_option maxRecDepth 100000 in
set_option maxHeartbeats 8000000 in
theorem put_any (N p base : Nat) (v : Value) (L : List Bool) (w : World) (hn : N ≤ 65535) (h : OutAt w base p v L) (hL : L.length ≤ 100000) (hb : base ≤ w.heap.size) :
    Calls Tryz.prog 132 #[.int .i64 (N : Int), .pointer (some ⟨p, 0, none⟩)] w fun e w' => (∃ u, e = .returned u) ∧ ∃ v', OutAt w' base p v' (L ++ b16 (N : Int) 16) ∧ Below base w w' := by
  obtain ⟨i0, hi, hz0, hz1, hz2⟩ := info_parts bool_info3
  have Hi := Lib.hid hi; have Hz0 := Lib.hid hz0; have Hz1 := Lib.hid hz1; have Hz2 := Lib.hid hz2
  clear hi hz0 hz1 hz2
  go_enter Tryz.func132, Tryz.ntmps132
  go_wp2_with fail
  go_loopw [3] (fun kv wr => ∃ (j : Nat) (v' : Value), j ≤ 16 ∧ kv = .int .i64 (15 - (j : Int)) ∧ OutAt wr base p v' (L ++ b16 (N : Int) j) ∧ Below base w wr) (fun kv _ => (intOf kv + 1).toNat)
  case atStart => exact ⟨0, v, by omega, by simp, by simpa [b16] using h, Below.refl _ _⟩
  case round =>
    obtain ⟨j, v', hj, rfl, O, hbr⟩ := hrel
    obtain ⟨w6, rfl⟩ : ∃ w6, w6 = wr := ⟨_, rfl⟩
    have sz6 : base ≤ w6.heap.size := Nat.le_trans hb hbr.size
    by_cases hjl : j < 16
    · have hst : Hid (L ++ b16 (N : Int) (j + 1) = (L ++ b16 (N : Int) j) ++ [bitN (N : Int) (15 - j)]) := Lib.hid (by rw [b16, List.append_assoc])
      have hbt := bit_i64 (k := 15 - j) (show N < 1000000 by omega)
      have hlen : Hid ((L ++ b16 (N : Int) j).length + 1 ≤ 140737488355328) := Lib.hid (by rw [List.length_append, b16_len]; omega)
      have oc := O.c; have ofr := O.fr; have oo := O.own; have oap := O.ap; have ohp := O.hp
      have plt : p < w6.heap.size := World.block_lt_of_cell? w6 _ oc
      have Oap := Lib.hid oap
      clear O h oap
      generalize L ++ b16 (N : Int) j = M at *
      generalize bitN (N : Int) (15 - j) = bt at *
      go_upto_region 3 with fail
      refine wp_region_held_drew (S := fun _ => True) (by kernel_rfl) trivial (fun hHeld => ?_)
      (refine wpAnyH_take (i := 1) (v := ?_) rfl (by kernel_rfl) (by kernel_rfl) (by kernel_rfl) (fun _ _ _ h => h) (Or.inl ⟨by rfl, ?_⟩) (by assumption) ?_; rotate_left 1; (focus (intro wz hSz; (try dsimp only at hSz); go_simp; (try with_reducible rfl))); (try simp only [Act.put, List.setIfInBounds_toArray, List.set_cons_zero, List.set_cons_succ]))
      (refine wpAnyH_take (i := 2) (v := ?_) rfl (by kernel_rfl) (by kernel_rfl) (by kernel_rfl) (fun _ _ _ h => h) (Or.inl ⟨by rfl, ?_⟩) (by assumption) ?_; rotate_left 1; (focus (intro wz hSz; (try dsimp only at hSz); go_simp; (try with_reducible rfl))); (try simp only [Act.put, List.setIfInBounds_toArray, List.set_cons_zero, List.set_cons_succ]))
      (refine wpAnyH_take (i := 3) (v := ?_) rfl (by kernel_rfl) (by kernel_rfl) (by kernel_rfl) (fun _ _ _ h => h) (Or.inl ⟨by rfl, ?_⟩) (by assumption) ?_; rotate_left 1; (focus (intro wz hSz; (try dsimp only at hSz); go_simp; (try with_reducible rfl))); (try simp only [Act.put, List.setIfInBounds_toArray, List.set_cons_zero, List.set_cons_succ]))
      (refine wpAnyH_take (i := 4) (v := ?_) rfl (by kernel_rfl) (by kernel_rfl) (by kernel_rfl) (fun _ _ _ h => h) (Or.inl ⟨by rfl, ?_⟩) (by assumption) ?_; rotate_left 1; (focus (intro wz hSz; (try dsimp only at hSz); go_simp; (try with_reducible rfl))); (try simp only [Act.put, List.setIfInBounds_toArray, List.set_cons_zero, List.set_cons_succ]))
      (refine wpAnyH_take (i := 5) (v := ?_) rfl (by kernel_rfl) (by kernel_rfl) (by kernel_rfl) (fun _ _ _ h => h) (Or.inl ⟨by rfl, ?_⟩) (by assumption) ?_; rotate_left 1; (focus (intro wz hSz; (try dsimp only at hSz); go_simp; (try with_reducible rfl))); (try simp only [Act.put, List.setIfInBounds_toArray, List.set_cons_zero, List.set_cons_succ]))
      refine wpAnyH_ready (rs := [0, 6]) (by kernel_rfl) (by simp) ?_
      refine AllReadyH.cons rfl (fun K1 hK1 => ?_) (AllReadyH.cons rfl (fun K1 hK1 => ?_) AllReadyH.nil)
      · go_simp
        refine hK1.out _ _ trivial (fun hS1 => ?_)
        try simp only [Act.put, List.setIfInBounds_toArray, List.set_cons_zero, List.set_cons_succ]
        refine wpAnyH_ready (rs := [6]) (by kernel_rfl) (by simp) ?_
        refine AllReadyH.cons rfl (fun K2 hK2 => ?_) AllReadyH.nil
        go_simp
        refine hK2.out _ _ trivial (fun hS2 => ?_)
        try simp only [Act.put, List.setIfInBounds_toArray, List.set_cons_zero, List.set_cons_succ]
        have oy : Own (w6.alloc (.cells #[.bool bt] 4)).drew base 4 1 encB v' M := oo.alloc _
        have b9 : Below base w6 (w6.alloc (.cells #[.bool bt] 4)).drew := ((Below.refl _ _).alloc sz6 _).drew
        refine wpAnyH_ready (rs := [7]) (by kernel_rfl) (by simp) ?_
        refine AllReadyH.cons rfl (fun K3 hK3 => ?_) AllReadyH.nil
        refine step_snocL (by rfl) _ _ 22 (by rfl) base 4 i0 _ 1 1 Tryz.underlying22 Hi.out Hz0.out Hz1.out Hz2.out rfl (by decide) (enc := encB) _ M bt (by rfl) oy (by rfl) (fun j u hu => by
          match j, hu with
          | 0, hu =>
            obtain rfl : Value.bool bt = u := by simpa [encB] using hu
            exact new_cell rfl) rfl (by simp [encB, Value.oneCell']) (by have := hlen.out; omega) (by decide) (Nat.le_trans sz6 b9.size) ?_
        intro v10 w10 own10 hg10 hat10
        refine hK3.out _ _ trivial (fun hS3 => ?_)
        try simp only [Act.put, List.setIfInBounds_toArray, List.set_cons_zero, List.set_cons_succ]
        have ne10 : some p ≠ v'.ownBlock := fun e => by rcases Oap.out with h | h <;> rw [← e] at h <;> simp at h
        have hbk := hg10.block p (Nat.lt_of_lt_of_le plt (by simp)) ne10
        have c10 : w10.cell? ⟨p, 0, none⟩ = some v' := (World.cell?_of_block hbk).trans ((World.cell?_alloc_lt w6 _ _ plt).trans oc)
        have f10 : w10.frozen? ⟨p, 0, none⟩ = false := (World.frozen?_of_block hbk).trans ((World.frozen?_alloc_past (w := w6) (.cells #[.bool bt] 4) p 0 plt).trans ofr)
        have b10 : Below base w w10 := (hbr.trans b9).grown hg10 (Nat.le_trans sz6 b9.size) (fun x hx => (World.ownsRow.lt oy x hx).1)
        have ap10 : v10.ownBlock = none ∨ v10.ownBlock ≠ some p := by
          rcases hat10 with h | ⟨H, h, hH⟩
          · rw [h]; exact Oap.out
          · refine .inr ?_
            rw [h]
            have : w6.heap.size ≤ H := Nat.le_trans b9.size hH
            simp; omega
        obtain ⟨A10, k10, hv10, _, _, _, _⟩ := own10.form encB_len
        subst hv10
        refine wpAnyH_ready (rs := [8]) (by kernel_rfl) (by simp) ?_
        refine AllReadyH.cons rfl (fun K4 hK4 => ?_) AllReadyH.nil
        go_simp
        refine hK4.out _ _ trivial (fun hS4 => ?_)
        try simp only [Act.put, List.setIfInBounds_toArray, List.set_cons_zero, List.set_cons_succ]
        refine wpAnyH_done (by kernel_rfl) ?_ _
        go_wp2_with fail
        exact ⟨⟨j + 1, _, by omega, congrArg (Value.int .i64) (by omega), by rw [hst.out]; exact ⟨by go_simp, by go_simp, own10.keep (grown_setP w10 p 0 _) ap10, ap10, ohp⟩, b10.setCell ohp _⟩, by simp [intOf]; omega⟩
      · go_simp
        refine hK1.out _ _ trivial (fun hS1 => ?_)
        try simp only [Act.put, List.setIfInBounds_toArray, List.set_cons_zero, List.set_cons_succ]
        refine wpAnyH_ready (rs := [0]) (by kernel_rfl) (by simp) ?_
        refine AllReadyH.cons rfl (fun K2 hK2 => ?_) AllReadyH.nil
        go_simp
        refine hK2.out _ _ trivial (fun hS2 => ?_)
        try simp only [Act.put, List.setIfInBounds_toArray, List.set_cons_zero, List.set_cons_succ]
        have oy : Own (w6.alloc (.cells #[.bool bt] 4)).drew base 4 1 encB v' M := oo.alloc _
        have b9 : Below base w6 (w6.alloc (.cells #[.bool bt] 4)).drew := ((Below.refl _ _).alloc sz6 _).drew
        refine wpAnyH_ready (rs := [7]) (by kernel_rfl) (by simp) ?_
        refine AllReadyH.cons rfl (fun K3 hK3 => ?_) AllReadyH.nil
        refine step_snocL (by rfl) _ _ 22 (by rfl) base 4 i0 _ 1 1 Tryz.underlying22 Hi.out Hz0.out Hz1.out Hz2.out rfl (by decide) (enc := encB) _ M bt (by rfl) oy (by rfl) (fun j u hu => by
          match j, hu with
          | 0, hu =>
            obtain rfl : Value.bool bt = u := by simpa [encB] using hu
            exact new_cell rfl) rfl (by simp [encB, Value.oneCell']) (by have := hlen.out; omega) (by decide) (Nat.le_trans sz6 b9.size) ?_
        intro v10 w10 own10 hg10 hat10
        refine hK3.out _ _ trivial (fun hS3 => ?_)
        try simp only [Act.put, List.setIfInBounds_toArray, List.set_cons_zero, List.set_cons_succ]
        have ne10 : some p ≠ v'.ownBlock := fun e => by rcases Oap.out with h | h <;> rw [← e] at h <;> simp at h
        have hbk := hg10.block p (Nat.lt_of_lt_of_le plt (by simp)) ne10
        have c10 : w10.cell? ⟨p, 0, none⟩ = some v' := (World.cell?_of_block hbk).trans ((World.cell?_alloc_lt w6 _ _ plt).trans oc)
        have f10 : w10.frozen? ⟨p, 0, none⟩ = false := (World.frozen?_of_block hbk).trans ((World.frozen?_alloc_past (w := w6) (.cells #[.bool bt] 4) p 0 plt).trans ofr)
        have b10 : Below base w w10 := (hbr.trans b9).grown hg10 (Nat.le_trans sz6 b9.size) (fun x hx => (World.ownsRow.lt oy x hx).1)
        have ap10 : v10.ownBlock = none ∨ v10.ownBlock ≠ some p := by
          rcases hat10 with h | ⟨H, h, hH⟩
          · rw [h]; exact Oap.out
          · refine .inr ?_
            rw [h]
            have : w6.heap.size ≤ H := Nat.le_trans b9.size hH
            simp; omega
        obtain ⟨A10, k10, hv10, _, _, _, _⟩ := own10.form encB_len
        subst hv10
        refine wpAnyH_ready (rs := [8]) (by kernel_rfl) (by simp) ?_
        refine AllReadyH.cons rfl (fun K4 hK4 => ?_) AllReadyH.nil
        go_simp
        refine hK4.out _ _ trivial (fun hS4 => ?_)
        try simp only [Act.put, List.setIfInBounds_toArray, List.set_cons_zero, List.set_cons_succ]
        refine wpAnyH_done (by kernel_rfl) ?_ _
        go_wp2_with fail
        exact ⟨⟨j + 1, _, by omega, congrArg (Value.int .i64) (by omega), by rw [hst.out]; exact ⟨by go_simp, by go_simp, own10.keep (grown_setP w10 p 0 _) ap10, ap10, ohp⟩, b10.setCell ohp _⟩, by simp [intOf]; omega⟩
    · obtain rfl : j = 16 := by omega
      go_wp2_with fail
      go_end0
      exact ⟨⟨_, rfl⟩, v', O, hbr⟩

end Go.Proofs.YtfolgmcoggejbaaGreat
