/- Contracts of exact's clone, plus. For numbers of at most a million limbs. -/
import Derived.Test.YtmlppnapodamaaaNatA
import Derived.Laws.CopyOwn
namespace Go.Proofs.Ytmlppnapodamaaa
open Go.RowKit
set_option linter.unusedVariables false
set_option linter.unusedSimpArgs false

/-- The slice at A with capacity c reads as limbs. -/
structure Nt (w : World) (A : Option Addr) (c : Nat) (l : List Nat) : Prop where
  arr : Arr 1 enc32 w w.heap.size A l
  len : l.length ≤ c
  cap : c ≤ maxLen
  dig : Dig B32 l
  nil : A = none → c = 0
theorem Nt.on {w w' : World} {A : Option Addr} {c : Nat} {l : List Nat} (h : Nt w A c l) (hb : Below w.heap.size w w') : Nt w' A c l := ⟨h.arr.on hb, h.len, h.cap, h.dig, h.nil⟩
theorem Nt.lt {w : World} {A : Option Addr} {c : Nat} {l : List Nat} (h : Nt w A c l) {k x : Nat} (hx : l[k]? = some x) : x < 4294967296 := h.dig.get hx
/-- The call's own, normal. -/
def Big (w : World) (base : Nat) (v : Value) (n : Nat) : Prop := Own w base 106 1 enc32 v (limbs n)
theorem V_limbs (n : Nat) : V (limbs n) = n := digB_val b32 n
theorem limbs_dig (n : Nat) : Dig B32 (limbs n) := digB_dig b32 n
theorem own_nt {w : World} {base : Nat} {v : Value} {l : List Nat} (h : Own w base 106 1 enc32 v l) (hd : Dig B32 l) : ∃ A c, v = .slice A l.length c ∧ Nt w A c l := by
  obtain ⟨A, c, hv, h1, h2, h3, h4⟩ := Own.form h enc32_len
  exact ⟨A, c, hv, h4, h1, h2, hd, h3⟩
theorem Big.nt {w : World} {base : Nat} {v : Value} {n : Nat} (h : Big w base v n) : ∃ A c, v = .slice A (limbs n).length c ∧ Nt w A c (limbs n) := own_nt h (limbs_dig n)
theorem Big.below {w w' : World} {base : Nat} {v : Value} {n : Nat} (h : Big w base v n) (hb : Below w.heap.size w w') : Big w' base v n := Own.below h hb
theorem Big.down {w : World} {base base' : Nat} {v : Value} {n : Nat} (h : Big w base v n) (hb : base' ≤ base) : Big w base' v n := Own.down h hb
theorem Own.take {α : Type} {w : World} {base e sz : Nat} {enc : α → List Value} {A : Option Addr} {n c : Nat} {l : List α} (h : Own w base e sz enc (.slice A n c) l) (hs : ∀ x, (enc x).length = sz) {k : Nat} (hk : k ≤ l.length) : Own w base e sz enc (.slice A k c) (l.take k) := by
  refine ⟨by rw [flat_len hs], ?_⟩
  have hkl : (l.take k).length = k := by rw [List.length_take, Nat.min_eq_left hk]
  rcases h.2 with ⟨hv, h0⟩ | ⟨g, cap, cur, hv, hg, hh, hn, hm, hc, ht⟩
  · simp only [Value.slice.injEq] at hv
    obtain ⟨rfl, rfl, rfl⟩ := hv
    left
    have : k = 0 := by omega
    subst this
    exact ⟨rfl, hkl⟩
  · right
    simp only [Value.slice.injEq] at hv
    obtain ⟨rfl, rfl, rfl⟩ := hv
    refine ⟨g, _, cur, by rw [hkl], hg, hh, by rw [hkl]; omega, hm, hc, ?_⟩
    rw [hkl]
    have e : l.flatMap enc = (l.take k).flatMap enc ++ (l.drop k).flatMap enc := by rw [← List.flatMap_append, List.take_append_drop]
    rw [e] at ht
    have := congrArg (List.take (k * sz)) ht
    rw [List.take_take, Nat.min_eq_left (Nat.mul_le_mul_right _ hk), List.take_append_of_le_length (by rw [flat_len hs, hkl]; omega)] at this
    rw [this, List.take_of_length_le (by rw [flat_len hs, hkl]; omega)]
/-- What trim makes of one's own. -/
theorem Own.trim {w : World} {base : Nat} {A : Option Addr} {n c : Nat} {l : List Nat} (h : Own w base 106 1 enc32 (.slice A n c) l) (hd : Dig B32 l) : Big w base (.slice A (trimL l).length c) (V l) := by
  have := Own.take h enc32_len (trimL_le l)
  rw [← trimL_take] at this
  unfold Big
  rw [← trim_limbs hd]
  exact this

theorem u32_info : (Try.prog.info? 106).map (fun i => (i.zero, i.size, i.bytes)) = some (some (.int .u32 0), 1, 4) := by kernel_rfl
theorem u32_size : (Try.prog.info? 106).map (·.size) = some 1 := by kernel_rfl

/-- 'copy(out, xs)': out is the call's own, known whole; xs reads as a list not longer than it. -/
theorem wpList_cp {P : Program} {w : World} {ops : Array Oper} {rest : List Oper} {o : Oper} {a : Act} {Q : Exit → Act → World → Prop} (hgd : o.guard = none) (d s : Operand) (dT sT : TypeId)
    (ho : o.op = .call { callee := .builtin .copy, args := #[d, s], argTypes := #[dT, sT] }) (e : TypeId) (hu : P.underlying dT = some (.slice e)) (hsz : (P.info? e).map (·.size) = some 1)
    {α : Type} {f : α → Value} (h1 : ∀ x, (f x).oneCell' = true) {base : Nat} {w0 : World} {g n : Nat} {l m : List α} {A : Option Addr} {B c : Nat} (hd : a.eval d = .slice (some ⟨g, 0, none⟩) n n) (hs : a.eval s = .slice A m.length c)
    (hown : Own w base e 1 (fun x => [f x]) (.slice (some ⟨g, 0, none⟩) n n) l) (hl : l.length = n) (hA : Arr 1 (fun x => [f x]) w B A m) (hm : m.length ≤ n) (hb : Below base w0 w)
    (h : ∀ w', Own w' base e 1 (fun x => [f x]) (.slice (some ⟨g, 0, none⟩) n n) (m ++ l.drop m.length) → Below base w0 w' → wpList P ops Q rest (a.put o.dst (goInt m.length)) w') : wpList P ops Q (o :: rest) a w := by
  subst hl
  rcases hown.2 with ⟨hv, _⟩ | ⟨g', cap, cur, hv, hg, hh, hn, hmx, hc, ht⟩
  · simp at hv
  simp only [Value.slice.injEq, Option.some.injEq, Addr.mk.injEq] at hv
  obtain ⟨⟨rfl, _⟩, _, rfl⟩ := hv
  rw [flat1, Nat.mul_one] at ht
  rw [Nat.mul_one] at hc
  have hcur : cur.toList = l.map f := by rw [← ht, List.take_of_length_le (by simp [hc])]
  have hh' : w.heap[g]? = some (.cells (l.map f).toArray e (0, 0)) := by rw [hh, ← hcur]
  refine wpList_copy_splice hgd d s dT sT ho e hu hsz _ _ _ _ _ _ hd hs g 0 (l.map f) e hh' (m.map f) ?_ ?_ (by simp; omega) ?_ base w0 hb hg (fun w' hg' hb' => ?_)
  · simp [Nat.min_def]; omega
  · intro hp
    obtain ⟨b, off, rfl, hbb, hc'⟩ := hA (by rintro rfl; simp at hp)
    refine ⟨rfl, _, rfl, ?_⟩
    have := flat_cell (sz := 1) (enc := fun x => [f x]) (fun _ => rfl) (by decide) hc'
    rw [flat1] at this
    exact this
  · intro v hv
    obtain ⟨x, _, rfl⟩ := List.mem_map.1 hv
    exact h1 x
  · have h2 := h w' ?_ hb'
    · simpa using h2
    · refine ⟨by rw [flat1]; simp, .inr ⟨g, _, (splice (l.map f) 0 (m.map f)).toArray, ?_, hg, hg'.out, ?_, hmx, ?_, ?_⟩⟩
      · simp; omega
      · simp; omega
      · rw [List.size_toArray, length_splice _ _ _ (by simp; omega)]; simp
      · rw [flat1]
        have e1 : splice (l.map f) 0 (m.map f) = (m ++ l.drop m.length).map f := by simp [splice, List.map_drop]
        rw [e1, List.take_of_length_le (by simp)]

set_option maxRecDepth 100000 in
set_option maxHeartbeats 1000000 in
theorem clone_any (A : Option Addr) (c : Nat) (l : List Nat) (w : World) (h : Nt w A c l) (hl : l.length ≤ 3000000) :
    Calls Try.prog 43 #[.slice A l.length c] w fun e w' => ∃ v, e = .returned v ∧ Big w' w.heap.size v (V l) ∧ Below w.heap.size w w' := by
  obtain ⟨i0, hi, hz0, hz1, hz2⟩ := info_parts u32_info
  have k1 := trimL_le l
  have ha := h.arr.take (trimL l).length
  rw [← trimL_take] at ha
  have hlen := h.len; have hcap := h.cap
  go_enter Try.func43, Try.ntmps43
  go_wp2_with (first
    | (go_at_call 92; refine (trim_any A c l _ h.arr h.len h.cap).mono ?_; rintro e w' ⟨rfl, rfl⟩)
    | (at_make; refine wpList_mk rfl _ _ 37 rfl 106 i0 _ 4 Try.underlying37 hi hz0 hz1 hz2 rfl (fun n : Nat => Value.int .u32 n) 0 rfl _ _ _ _ (trimL l).length rfl rfl rfl rfl (by omega) (by unfold maxLen; omega) ?_; intro w3 hown3 hb3)
    | (refine wpList_cp rfl _ _ 37 37 rfl 106 Try.underlying37 u32_size (f := fun n : Nat => Value.int .u32 n) (fun _ => rfl) (m := trimL l) rfl rfl hown3 (by simp) (ha.on hb3) (Nat.le_refl _) hb3 ?_; intro w4 hown4 hb4))
  go_ret
  refine ⟨_, rfl, ?_, hb4⟩
  rw [List.drop_of_length_le (by simp), List.append_nil] at hown4
  unfold Big
  rw [← trim_limbs h.dig]
  exact hown4

theorem getD_take {b : Nat} (l : List Nat) (k : Nat) : valB b (l.take (k + 1)) = valB b (l.take k) + b ^ k * l[k]?.getD 0 := by
  by_cases h : k < l.length
  · rw [valB_snoc (List.getElem?_eq_getElem h), List.getElem?_eq_getElem h]; rfl
  · rw [List.take_of_length_le (by omega), List.take_of_length_le (by omega), List.getElem?_eq_none (by omega)]; simp
theorem set_take {l : List Nat} {k x : Nat} (h : k < l.length) : (l.set k x).take (k + 1) = l.take k ++ [x] := by
  rw [List.take_set, take_snoc (List.getElem?_eq_getElem h), List.set_append, if_neg (by simp; omega), List.length_take, Nat.min_eq_left (by omega), Nat.sub_self]; rfl
theorem set_val {b : Nat} {l : List Nat} {k x : Nat} (h : k < l.length) : valB b ((l.set k x).take (k + 1)) = valB b (l.take k) + b ^ k * x := by
  rw [set_take h, valB_app, valB_one, List.length_take, Nat.min_eq_left (by omega)]

theorem wrapU {n : Int} {k : Nat} (h : n = k) (hk : k < 18446744073709551616) : IntKind.u64.wrap n = k := by
  rw [IntKind.wrap_u64]; omega
/-- A sum and its two limbs, for the walk. -/
theorem limbs2 (t : Nat) : ∃ q r : Nat, (t : Int) / 4294967296 = (q : Int) ∧ (t : Int) % 4294967296 = (r : Int) ∧ Hid (q = t / B32 ∧ r = t % B32) :=
  ⟨t / 4294967296, t % 4294967296, by omega, by omega, Lib.hid ⟨rfl, rfl⟩⟩

/-- One step of an addition. -/
theorem plus_step {l m o : List Nat} {k cy s : Nat} (hk : k < o.length) (h : valB B32 (o.take k) + B32 ^ k * cy = valB B32 (l.take k) + valB B32 (m.take k)) (hs : s = cy + l[k]?.getD 0 + m[k]?.getD 0) :
    valB B32 ((o.set k (s % B32)).take (k + 1)) + B32 ^ (k + 1) * (s / B32) = valB B32 (l.take (k + 1)) + valB B32 (m.take (k + 1)) := by
  rw [set_val hk, getD_take, getD_take, Nat.pow_succ, Nat.mul_assoc, Nat.add_assoc, ← Nat.mul_add, Nat.mod_add_div, hs, Nat.mul_add, Nat.mul_add]
  omega
theorem plus_end {l m o : List Nat} {cy : Nat} (h : valB B32 o + B32 ^ o.length * cy = V l + V m) (dl : Dig B32 l) (dm : Dig B32 m) (h1 : l.length < o.length) (h2 : m.length < o.length) : V o = V l + V m := by
  have a1 := valB_lt dl
  have a2 := valB_lt dm
  have b1 : B32 ^ l.length ≤ B32 ^ (o.length - 1) := Nat.pow_le_pow_right (by decide) (by omega)
  have b2 : B32 ^ m.length ≤ B32 ^ (o.length - 1) := Nat.pow_le_pow_right (by decide) (by omega)
  have e : B32 ^ o.length = B32 ^ (o.length - 1) * 4294967296 := by rw [← Nat.pow_succ]; congr 1; omega
  rcases Nat.eq_zero_or_pos cy with rfl | hc
  · unfold V at *; simpa using h
  · have : B32 ^ o.length * 1 ≤ B32 ^ o.length * cy := Nat.mul_le_mul_left _ hc
    unfold V at *
    omega

set_option maxRecDepth 100000 in
set_option maxHeartbeats 2000000 in
theorem plus_any (A : Option Addr) (c : Nat) (l : List Nat) (C : Option Addr) (d : Nat) (m : List Nat) (w : World) (hA : Nt w A c l) (hC : Nt w C d m) (hl : l.length ≤ 1000000) (hm : m.length ≤ 1000000) :
    Calls Try.prog 158 #[.slice A l.length c, .slice C m.length d] w fun e w' => ∃ v, e = .returned v ∧ Big w' w.heap.size v (V l + V m) ∧ Below w.heap.size w w' := by
  obtain ⟨i0, hi, hz0, hz1, hz2⟩ := info_parts u32_info
  obtain ⟨N, hN⟩ : ∃ N : Nat, N = max l.length m.length + 1 := ⟨_, rfl⟩
  have hN1 : Hid (((max l.length m.length : Nat) : Int) + 1 = (N : Int)) := Lib.hid (by omega)
  have n1 : l.length < N := by omega
  have n2 : m.length < N := by omega
  have n3 : N ≤ 1000001 := by omega
  have e1 : max (l.length : Int) (m.length : Int) = (N : Int) - 1 := by omega
  clear hN
  rcases Nat.lt_or_ge l.length m.length with hlm | hlm
  all_goals (
    go_enter Try.func158, Try.ntmps158
    go_wp2_with (at_make; refine wpList_mk rfl _ _ 37 rfl 106 i0 _ 4 Try.underlying37 hi hz0 hz1 hz2 rfl (fun n : Nat => Value.int .u32 n) 0 rfl _ _ _ _ N rfl rfl (by omega) (by omega) (by omega) (by unfold maxLen; omega) ?_; intro w3 hown3 hb3)
    clear hlm e1 hN1
    go_loopw [6, 17] (fun cy i wr => ∃ (k s : Nat) (o : List Nat), k ≤ N ∧ i = .int .i64 k ∧ cy = .int .u64 s ∧ s ≤ 1 ∧ o.length = N ∧ Dig B32 o ∧ valB B32 (o.take k) + B32 ^ k * s = valB B32 (l.take k) + valB B32 (m.take k) ∧
      Own wr w.heap.size 106 1 enc32 (.slice (some ⟨w.heap.size, 0, none⟩) N N) o ∧ Below w.heap.size w wr) (fun _ i _ => N - (intOf i).toNat)
    case atStart => exact ⟨0, 0, _, Nat.zero_le _, rfl, rfl, by decide, by simp, Dig.rep (by decide) _, by simp [valB], hown3, hb3⟩
    case round =>
      obtain ⟨k, s, o, hk, rfl, rfl, hs, hol, hd, hv, hown, hb⟩ := hrel
      have Hv := Lib.hid hv; have Hd := Lib.hid hd; have Hol := Lib.hid hol
      clear hv hd hol
      by_cases hlt : k < N
      · have d0 := Own.at1 (f := fun n : Nat => Value.int .u32 n) hown Hol.out (List.getElem?_eq_getElem (by rw [Hol.out]; exact hlt))
        have d1 := Own.fr1 (f := fun n : Nat => Value.int .u32 n) hown Hol.out k
        by_cases h1 : k < l.length <;> by_cases h2 : k < m.length
        · obtain ⟨b1, o1, x, rfl, hb1, hx, c1⟩ := hA.arr.u32 h1 hb
          have x1 := hA.lt hx.out
          have w1 : IntKind.u64.wrap (x : Int) = (x : Int) := wrapU rfl (by omega)
          obtain ⟨b2, o2, y, rfl, hb2, hy, c2⟩ := hC.arr.u32 h2 hb
          have y1 := hC.lt hy.out
          have w2 : IntKind.u64.wrap (y : Int) = (y : Int) := wrapU rfl (by omega)
          obtain ⟨t, ht⟩ : ∃ t : Nat, t = s + x + y := ⟨_, rfl⟩
          obtain ⟨q, r, hq, hr, hqr⟩ := limbs2 t
          have w3 : IntKind.u64.wrap ((s : Int) + (x : Int)) = (s : Int) + (x : Int) := (wrapU (k := s + x) (by omega) (by omega)).trans (by omega)
          have w4 : IntKind.u64.wrap ((s : Int) + (x : Int) + (y : Int)) = (t : Int) := wrapU (by omega) (by omega)
          have Hst := Lib.hid (plus_step (l := l) (m := m) (o := o) (s := t) (by rw [Hol.out]; exact hlt) Hv.out (by rw [hx.out, hy.out]; exact ht))
          have Hset : Hid (Own (wr.setCell ⟨w.heap.size, k, none⟩ (.int .u32 (r : Int))) w.heap.size 106 1 enc32 (.slice (some ⟨w.heap.size, 0, none⟩) N N) (o.set k r)) := Lib.hid (Own.set1 (f := fun n : Nat => Value.int .u32 n) hown Hol.out k r)
          have hq1 : q ≤ 1 := by have := hqr.out.1; change q = t / 4294967296 at this; omega
          have hr1 : Hid (r < B32) := Lib.hid (by rw [hqr.out.2]; exact Nat.mod_lt _ (by decide))
          rw [← hqr.out.1, ← hqr.out.2] at Hst
          clear ht x1 y1
          go_wp2
          go_roundw
          case rel => exact ⟨k + 1, q, o.set k r, by omega, by go_num, rfl, hq1, by rw [List.length_set]; exact Hol.out, Hd.out.set hr1.out k, Hst.out, Hset.out, hb.setCell (Nat.le_refl _) _⟩
          case measure => (simp [intOf] <;> omega)
        · obtain ⟨b1, o1, x, rfl, hb1, hx, c1⟩ := hA.arr.u32 h1 hb
          have x1 := hA.lt hx.out
          have w1 : IntKind.u64.wrap (x : Int) = (x : Int) := wrapU rfl (by omega)
          have hy : Hid (m[k]? = none) := Lib.hid (List.getElem?_eq_none (by omega))
          have y1 := True.intro
          obtain ⟨t, ht⟩ : ∃ t : Nat, t = s + x := ⟨_, rfl⟩
          obtain ⟨q, r, hq, hr, hqr⟩ := limbs2 t
          have w4 : IntKind.u64.wrap ((s : Int) + (x : Int)) = (t : Int) := wrapU (by omega) (by omega)
          have Hst := Lib.hid (plus_step (l := l) (m := m) (o := o) (s := t) (by rw [Hol.out]; exact hlt) Hv.out (by rw [hx.out, hy.out]; simp; omega))
          have Hset : Hid (Own (wr.setCell ⟨w.heap.size, k, none⟩ (.int .u32 (r : Int))) w.heap.size 106 1 enc32 (.slice (some ⟨w.heap.size, 0, none⟩) N N) (o.set k r)) := Lib.hid (Own.set1 (f := fun n : Nat => Value.int .u32 n) hown Hol.out k r)
          have hq1 : q ≤ 1 := by have := hqr.out.1; change q = t / 4294967296 at this; omega
          have hr1 : Hid (r < B32) := Lib.hid (by rw [hqr.out.2]; exact Nat.mod_lt _ (by decide))
          rw [← hqr.out.1, ← hqr.out.2] at Hst
          clear ht x1 y1
          go_wp2
          go_roundw
          case rel => exact ⟨k + 1, q, o.set k r, by omega, by go_num, rfl, hq1, by rw [List.length_set]; exact Hol.out, Hd.out.set hr1.out k, Hst.out, Hset.out, hb.setCell (Nat.le_refl _) _⟩
          case measure => (simp [intOf] <;> omega)
        · have hx : Hid (l[k]? = none) := Lib.hid (List.getElem?_eq_none (by omega))
          have x1 := True.intro
          obtain ⟨b2, o2, y, rfl, hb2, hy, c2⟩ := hC.arr.u32 h2 hb
          have y1 := hC.lt hy.out
          have w2 : IntKind.u64.wrap (y : Int) = (y : Int) := wrapU rfl (by omega)
          obtain ⟨t, ht⟩ : ∃ t : Nat, t = s + y := ⟨_, rfl⟩
          obtain ⟨q, r, hq, hr, hqr⟩ := limbs2 t
          have w4 : IntKind.u64.wrap ((s : Int) + (y : Int)) = (t : Int) := wrapU (by omega) (by omega)
          have Hst := Lib.hid (plus_step (l := l) (m := m) (o := o) (s := t) (by rw [Hol.out]; exact hlt) Hv.out (by rw [hx.out, hy.out]; simp; omega))
          have Hset : Hid (Own (wr.setCell ⟨w.heap.size, k, none⟩ (.int .u32 (r : Int))) w.heap.size 106 1 enc32 (.slice (some ⟨w.heap.size, 0, none⟩) N N) (o.set k r)) := Lib.hid (Own.set1 (f := fun n : Nat => Value.int .u32 n) hown Hol.out k r)
          have hq1 : q ≤ 1 := by have := hqr.out.1; change q = t / 4294967296 at this; omega
          have hr1 : Hid (r < B32) := Lib.hid (by rw [hqr.out.2]; exact Nat.mod_lt _ (by decide))
          rw [← hqr.out.1, ← hqr.out.2] at Hst
          clear ht x1 y1
          go_wp2
          go_roundw
          case rel => exact ⟨k + 1, q, o.set k r, by omega, by go_num, rfl, hq1, by rw [List.length_set]; exact Hol.out, Hd.out.set hr1.out k, Hst.out, Hset.out, hb.setCell (Nat.le_refl _) _⟩
          case measure => (simp [intOf] <;> omega)
        · have hx : Hid (l[k]? = none) := Lib.hid (List.getElem?_eq_none (by omega))
          have hy : Hid (m[k]? = none) := Lib.hid (List.getElem?_eq_none (by omega))
          have Hst := Lib.hid (plus_step (l := l) (m := m) (o := o) (s := s) (by rw [Hol.out]; exact hlt) Hv.out (by rw [hx.out, hy.out]; simp))
          rw [Nat.mod_eq_of_lt (by simp only [B32]; omega), Nat.div_eq_of_lt (by simp only [B32]; omega)] at Hst
          have Hset : Hid (Own (wr.setCell ⟨w.heap.size, k, none⟩ (.int .u32 (s : Int))) w.heap.size 106 1 enc32 (.slice (some ⟨w.heap.size, 0, none⟩) N N) (o.set k s)) := Lib.hid (Own.set1 (f := fun n : Nat => Value.int .u32 n) hown Hol.out k s)
          have hs0 : (s : Int) / 4294967296 = 0 := by omega
          go_wp2
          go_roundw
          case rel => exact ⟨k + 1, 0, o.set k s, by omega, by go_num, rfl, by omega, by rw [List.length_set]; exact Hol.out, Hd.out.set (by simp only [B32]; omega) k, Hst.out, Hset.out, hb.setCell (Nat.le_refl _) _⟩
          case measure => (simp [intOf] <;> omega)
      · obtain rfl : k = N := by omega
        have hw3 : Nt wr (some ⟨w.heap.size, 0, none⟩) k o := by
          obtain ⟨A1, c1, hv1, hn1⟩ := own_nt hown Hd.out
          simp only [Value.slice.injEq] at hv1
          obtain ⟨rfl, _, rfl⟩ := hv1
          exact hn1
        rw [← Hol.out] at hown hw3 ⊢
        go_wp2_with (go_at_call 92; refine (trim_any _ _ o _ hw3.arr hw3.len hw3.cap).mono ?_; rintro e w' ⟨rfl, rfl⟩)
        go_ret
        refine ⟨_, rfl, ?_, hb⟩
        have hfin : V o = V l + V m := plus_end (cy := s) (by have := Hv.out; rw [List.take_of_length_le (by rw [Hol.out]; exact Nat.le_refl _), List.take_of_length_le (by omega), List.take_of_length_le (by omega)] at this; rw [Hol.out]; exact this) hA.dig hC.dig (by rw [Hol.out]; exact n1) (by rw [Hol.out]; exact n2)
        rw [← hfin]
        exact Own.trim hown Hd.out)

end Go.Proofs.Ytmlppnapodamaaa
