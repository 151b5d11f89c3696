/- Contracts of algebra's zip (with differ) and Toeplitz, and of the reference's Toeplitz. For at most 512 bits, a result of at most 512 bits, a seed that fits. Contracts of algebra's Xor and Pick. For bit strings of at most 65536 bits, and indexes that are in range. Contract of the reference's Pick, and plain words on picked bits. For bit strings of at most 65536 bits, and indexes that are in range. Contract of sift's Test. For bit strings of at most 65536 bits, any numbers and any two fractions. -/
import Derived.Test.YtfolgmcoggejbaaGreatDrwA
import Derived.Test.YtfolgmcoggejbaaGreatBits2
import Derived.Test.YtfolgmcoggejbaaGreatGfcAll
import Derived.Test.YtfolgmcoggejbaaGreatPrmAll
import Derived.Test.YtfolgmcoggejbaaGreatNtxAll
namespace Go.Proofs.YtfolgmcoggejbaaGreat
open Go.RowKit
set_option linter.unusedVariables false
set_option linter.unusedSimpArgs false

/-- The bit i of a Toeplitz hash, of the first columns. -/
def toC (seed a : List Bool) (i : Nat) : Nat → Bool
  | 0 => false
  | k + 1 => toC seed a i k != ((a[k]?).getD false && (seed[i + (a.length - 1 - k)]?).getD false)
def toepK (seed a : List Bool) (out k : Nat) : List Bool := (List.range out).map (fun i => toC seed a i k)
def toepL (seed a : List Bool) (out : Nat) : List Bool := toepK seed a out a.length
theorem toepK_len (seed a : List Bool) (out k : Nat) : (toepK seed a out k).length = out := by simp [toepK]
theorem toepK_zero (seed a : List Bool) (out : Nat) : toepK seed a out 0 = List.replicate out false := by
  refine List.ext_getElem? fun i => ?_
  simp only [toepK, List.getElem?_map, List.getElem?_replicate]
  by_cases h : i < out
  · rw [List.getElem?_range h, if_pos h]; rfl
  · rw [List.getElem?_eq_none (by simpa using h), if_neg h]; rfl
theorem toepK_no {seed a : List Bool} {out k : Nat} (h : a[k]? = some false) : toepK seed a out (k + 1) = toepK seed a out k := by
  unfold toepK
  congr 1
  funext i
  rw [toC, h]; simp
theorem toepK_yes {seed a : List Bool} {out k : Nat} (h : a[k]? = some true) (hs : a.length - 1 - k + out ≤ seed.length) : toepK seed a out (k + 1) = xorL (toepK seed a out k) ((seed.drop (a.length - 1 - k)).take out) := by
  refine List.ext_getElem? fun i => ?_
  simp only [toepK, xorL, List.getElem?_map, List.getElem?_zipWith, List.getElem?_take, List.getElem?_drop]
  by_cases hi : i < out
  · rw [List.getElem?_range hi, if_pos hi]
    have hlt : a.length - 1 - k + i < seed.length := by omega
    rw [List.getElem?_eq_getElem hlt]
    simp only [Option.map_some]
    rw [toC, h, Nat.add_comm i, List.getElem?_eq_getElem hlt]
    simp
  · rw [List.getElem?_eq_none (by simpa using hi)]; simp

set_option maxHeartbeats 400000 in
theorem differ_any (x y : Bool) (w : World) : Calls Tryz.prog 96 #[.bool x, .bool y] w fun e w' => e = .returned (.bool (x != y)) ∧ w = w' := by
  go_enter Tryz.func96, Tryz.ntmps96
  go_wp2
  go_ret
  exact ⟨rfl, rfl⟩

set_option maxRecDepth 100000 in
set_option maxHeartbeats 2000000 in
theorem zip_any (A B : Option Addr) (cA cB : Nat) (a b : List Bool) (w : World) (hA : Arr 1 encB w w.heap.size A a) (hB : Arr 1 encB w w.heap.size B b) (hl : a.length = b.length) (hm : a.length ≤ 65536) :
    Calls Tryz.prog 95 #[.slice A a.length cA, .slice B b.length cB, .func (.func 96) #[] #[]] w fun e w' => ∃ v, e = .returned v ∧ Own w' w.heap.size 4 1 encB v (xorL a b) ∧ Below w.heap.size w w' := by
  obtain ⟨i0, hi, hz0, hz1, hz2⟩ := info_parts bool_info3
  have Hi := Lib.hid hi; have Hz0 := Lib.hid hz0; have Hz1 := Lib.hid hz1; have Hz2 := Lib.hid hz2
  clear hi hz0 hz1 hz2
  have xl : (xorL a b).length = a.length := by unfold xorL; rw [List.length_zipWith]; omega
  have Hxl := Lib.hid xl
  have Hl := Lib.hid hl
  clear xl hl
  obtain ⟨n, hn⟩ : ∃ n, n = a.length := ⟨_, rfl⟩
  have Hn := Lib.hid hn
  rw [← hn]
  have hbl : b.length = n := by rw [hn, Hl.out]
  rw [hbl]
  have Hbl := Lib.hid hbl
  rw [← hn] at hm
  clear hn hbl
  go_enter Tryz.func95, Tryz.ntmps95
  go_wp2_with (at_make; refine wpList_mk rfl _ _ 22 rfl 4 i0 _ 1 Tryz.underlying22 Hi.out Hz0.out Hz1.out Hz2.out rfl (fun b : Bool => Value.bool b) false rfl _ _ _ _ n rfl rfl rfl rfl (by omega) (by unfold maxLen; omega) ?_; intro w1 own1 hb1)
  have hfl : Hid (fill (xorL a b) false 0 = List.replicate n false) := Lib.hid (by rw [fill_zero, Hxl.out, Hn.out])
  go_loopw [15] (fun i wr => ∃ k : Nat, k ≤ n ∧ i = .int .i64 k ∧ Own wr w.heap.size 4 1 (fun x => [Value.bool x]) (.slice (some ⟨w.heap.size, 0, none⟩) n n) (fill (xorL a b) false k) ∧ Below w.heap.size w wr) (fun i _ => n - (intOf i).toNat)
  case atStart => exact ⟨0, Nat.zero_le _, rfl, by rw [hfl.out]; exact own1, hb1⟩
  case round =>
    obtain ⟨k, hk, rfl, ow, hb⟩ := hrel
    have hlen : Hid ((fill (xorL a b) false k).length = n) := Lib.hid ((fill_len _ _ (by rw [Hxl.out, ← Hn.out]; exact hk)).trans (by rw [Hxl.out, Hn.out]))
    rcases Nat.lt_or_ge k n with hlt | hge
    · obtain ⟨p, o, x, rfl, hp, hx, c0⟩ := hA.bool (k := k) (by rw [← Hn.out]; exact hlt) hb
      obtain ⟨p2, o2, y, rfl, hp2, hy, c1⟩ := hB.bool (k := k) (by rw [Hbl.out]; exact hlt) hb
      have f0 := ow.at1 hlen.out (k := k) (fill_at false (by rw [Hxl.out, ← Hn.out]; exact hlt))
      have f1 := ow.fr1 hlen.out k
      have hxy : Hid ((xorL a b)[k]? = some (x != y)) := Lib.hid (by unfold xorL; rw [List.getElem?_zipWith, hx.out, hy.out])
      have ow3 := ow.set1 hlen.out k (x != y)
      rw [fill_set false hxy.out] at ow3
      clear hx hy
      go_wp2_with (go_at_call 96; refine (differ_any _ _ _).mono ?_; rintro e w' ⟨rfl, rfl⟩)
      exact ⟨⟨k + 1, by omega, by go_num, ow3, hb.setCell (Nat.le_refl _) _⟩, by simp [intOf]; omega⟩
    · obtain rfl : k = n := by omega
      rw [fill_all _ _ (by rw [Hxl.out, ← Hn.out]; exact Nat.le_refl _)] at ow
      go_wp2_with fail
      go_ret
      exact ⟨_, rfl, ow, hb⟩

end Go.Proofs.YtfolgmcoggejbaaGreat

namespace Go.Proofs.YtfolgmcoggejbaaGreat
open Go.RowKit
set_option linter.unusedVariables false
set_option linter.unusedSimpArgs false

def pickL (b : List Bool) (at_ : List Int) : List Bool := at_.map fun i => b.getD i.toNat false
theorem pick_len (b : List Bool) (at_ : List Int) : (pickL b at_).length = at_.length := by simp [pickL]
theorem pick_snoc {b : List Bool} {at_ : List Int} {k i : Nat} {x : Bool} (hk : at_[k]? = some (i : Int)) (hx : b[i]? = some x) : pickL b (at_.take (k + 1)) = pickL b (at_.take k) ++ [x] := by
  have h1 := (List.getElem?_eq_some_iff.1 hk).1
  have h2 := (List.getElem?_eq_some_iff.1 hk).2
  unfold pickL
  rw [List.take_succ_eq_append_getElem h1, h2, List.map_append]
  simp [List.getD, hx]
set_option maxRecDepth 100000 in
set_option maxHeartbeats 2000000 in
theorem Pick_any (A C : Option Addr) (cA n cC m : Nat) (b : List Bool) (at_ : List Int) (w : World) (hb : b.length = n) (hat : at_.length = m) (hA : Arr 1 encB w w.heap.size A b) (hC : Arr 1 encI w w.heap.size C at_) (hn : n ≤ 65536) (hm : m ≤ 65536) (hr : ∀ x ∈ at_, 0 ≤ x ∧ x < n) :
    Calls Tryz.prog 43 #[.slice A n cA, .slice C m cC] w fun e w' => ∃ v, e = .returned (.tuple #[v, .int .i64 0]) ∧ Own w' w.heap.size 4 1 encB v (pickL b at_) ∧ Below w.heap.size w w' := by
  obtain ⟨i0, hi, hz0, hz1, hz2⟩ := info_parts bool_info3
  have Hi := Lib.hid hi; have Hz0 := Lib.hid hz0; have Hz1 := Lib.hid hz1; have Hz2 := Lib.hid hz2
  have Hb := Lib.hid hb; have Hat := Lib.hid hat; have Hr := Lib.hid hr
  clear hi hz0 hz1 hz2 hb hat hr
  go_enter Tryz.func43, Tryz.ntmps43
  go_wp2_with (at_make; refine wpList_make_own _ rfl _ _ 22 rfl w.heap.size 4 i0 _ 1 Tryz.underlying22 Hi.out Hz0.out Hz1.out _ _ _ m rfl rfl rfl (by rw [Hz2.out]; omega) (by unfold maxLen; omega) (Nat.le_refl _) ?_; intro w1 own1 gr1)
  have hb1 : Below w.heap.size w w1 := ⟨gr1.os, gr1.tape, gr1.output, gr1.size, fun k hk => gr1.block k hk (by simp)⟩
  have own1' : Own w1 w.heap.size 4 1 encB (.slice (some ⟨w.heap.size, 0, none⟩) 0 m) ([] : List Bool) := own1
  clear own1 gr1
  go_loopw [6, 14] (fun v i wr => ∃ k : Nat, k ≤ m ∧ i = .int .i64 k ∧ Own wr w.heap.size 4 1 encB v (pickL b (at_.take k)) ∧ Below w.heap.size w wr) (fun _ i _ => m - (intOf i).toNat)
  case atStart => exact ⟨0, Nat.zero_le _, rfl, own1', hb1⟩
  case round =>
    clear own1' hb1
    obtain ⟨k, hk, rfl, ow, hb⟩ := hrel
    obtain ⟨w6, rfl⟩ : ∃ w6, w6 = wr := ⟨_, rfl⟩
    have sz := hb.size
    rcases Nat.lt_or_ge k m with hlt | hge
    · obtain ⟨x, hx⟩ : ∃ x, at_[k]? = some x := ⟨_, List.getElem?_eq_getElem (by rw [Hat.out]; exact hlt)⟩
      obtain ⟨r0, r1⟩ := Hr.out x (List.mem_of_getElem? hx)
      obtain ⟨i, rfl⟩ := Int.eq_ofNat_of_zero_le r0
      have hin : i < n := by omega
      obtain ⟨y, hy⟩ : ∃ y, b[i]? = some y := ⟨_, List.getElem?_eq_getElem (by rw [Hb.out]; exact hin)⟩
      obtain ⟨pb, po, rfl, _, hc⟩ := (hC.on hb) (by rintro rfl; simp at hx)
      obtain ⟨qb, qo, rfl, _, hc2⟩ := (hA.on hb) (by rintro rfl; simp at hy)
      have e1 : w6.cell? ⟨pb, po + k, none⟩ = some (.int .i64 (i : Int)) := by have := hc k _ hx 0 _ rfl; simpa using this
      have e2 : w6.cell? ⟨qb, qo + i, none⟩ = some (.bool y) := by have := hc2 i _ hy 0 _ rfl; simpa using this
      have st := Lib.hid (pick_snoc hx hy)
      have km : (k : Int) < (m : Int) := by omega
      have oby : ((pickL b (at_.take k)).length + 1) * 1 ≤ 140737488355328 := by rw [pick_len, List.length_take]; omega
      clear hc hc2 hx hy
      go_wp2_with (at_builtin; refine wpList_snoc (g := w6.heap.size) rfl _ _ 22 rfl w.heap.size 4 i0 _ 1 1 Tryz.underlying22 Hi.out Hz0.out Hz1.out Hz2.out rfl (by decide) _ (pickL b (at_.take k)) y #[.bool y] 4 rfl ow rfl rfl rfl (encB_one _) oby (by decide) sz rfl ?_; intro v5 w5 own5 hb5)
      exact ⟨⟨k + 1, by omega, by go_num, by rw [st.out]; exact own5, hb.trans hb5⟩, by simp [intOf]; omega⟩
    · obtain rfl : k = m := by omega
      have e1 : at_.take k = at_ := by rw [← Hat.out, List.take_length]
      rw [e1] at ow
      clear e1
      go_wp2_with fail
      go_ret2
      exact ⟨_, rfl, ow, hb⟩

set_option maxRecDepth 100000 in
set_option maxHeartbeats 1000000 in
theorem Xor_any (A B : Option Addr) (cA cB n : Nat) (a b : List Bool) (w : World) (ha : a.length = n) (hb : b.length = n) (hA : Arr 1 encB w w.heap.size A a) (hB : Arr 1 encB w w.heap.size B b) (hm : n ≤ 65536) :
    Calls Tryz.prog 39 #[.slice A n cA, .slice B n cB] w fun e w' => ∃ v, e = .returned (.tuple #[v, .int .i64 0]) ∧ Own w' w.heap.size 4 1 encB v (xorL a b) ∧ Below w.heap.size w w' := by
  have cZ := zip_any A B cA cB a b w hA hB (by omega) (by omega)
  rw [ha, hb] at cZ
  clear ha hb
  go_enter Tryz.func39, Tryz.ntmps39
  go_wp2_with (go_at_call 95; refine cZ.mono ?_; rintro e w1 ⟨v, rfl, own1, hb1⟩)
  go_ret2
  exact ⟨v, rfl, own1, hb1⟩

end Go.Proofs.YtfolgmcoggejbaaGreat

namespace Go.Proofs.YtfolgmcoggejbaaGreat
open Go.RowKit
set_option linter.unusedVariables false
set_option linter.unusedSimpArgs false

theorem pick_xor {a b : List Bool} {L : List Int} (hl : a.length = b.length) (hr : ∀ x ∈ L, 0 ≤ x ∧ x < (a.length : Int)) : xorL (pickL a L) (pickL b L) = pickL (xorL a b) L := by
  induction L with
  | nil => rfl
  | cons x L ih =>
    have h1 := hr x (by simp)
    have hx : x.toNat < a.length := by omega
    have hy : x.toNat < b.length := by omega
    have e : ((xorL a b).getD x.toNat false) = ((a.getD x.toNat false) != (b.getD x.toNat false)) := by
      simp only [xorL, List.getD, List.getElem?_zipWith, List.getElem?_eq_getElem hx, List.getElem?_eq_getElem hy]
      rfl
    show ((a.getD x.toNat false) != (b.getD x.toNat false)) :: xorL (pickL a L) (pickL b L) = ((xorL a b).getD x.toNat false) :: pickL (xorL a b) L
    rw [e, ih (fun y hy => hr y (by simp [hy]))]
theorem cnt_app (l m : List Bool) : cntL (l ++ m) = cntL l + cntL m := by simp [cntL, List.filter_append]
theorem cnt_yes (l : List Bool) : cntL (l ++ [true]) = cntL l + 1 := by rw [cnt_app]; rfl
theorem cnt_no (l : List Bool) : cntL (l ++ [false]) = cntL l := by rw [cnt_app]; rfl
theorem pick_up (D : List Bool) : pickL D (upL D.length) = D := by
  refine List.ext_getElem? fun i => ?_
  simp only [pickL, upL, List.getElem?_map]
  by_cases h : i < D.length
  · rw [List.getElem?_range h]; simp [h]
  · rw [List.getElem?_eq_none (by simpa using h), List.getElem?_eq_none (by simpa using h)]; rfl
theorem cnt_perm {D : List Bool} {L M : List Int} (h : L.Perm M) : cntL (pickL D L) = cntL (pickL D M) := by
  unfold cntL pickL
  exact ((h.map _).filter _).length_eq
theorem up_mem {n : Nat} {x : Int} : x ∈ upL n ↔ 0 ≤ x ∧ x < n := by
  simp only [upL, List.mem_map, List.mem_range]
  exact ⟨fun ⟨i, h, e⟩ => by omega, fun ⟨h1, h2⟩ => ⟨x.toNat, by omega, by omega⟩⟩
theorem rst_mem {L : List Int} {n : Nat} : ∀ x ∈ rstL L n, 0 ≤ x ∧ x < n := fun x hx => up_mem.1 (List.mem_filter.1 hx).1
theorem nodup_perm {L M : List Int} (h1 : L.Nodup) (h2 : M.Nodup) (h : ∀ x, x ∈ L ↔ x ∈ M) : L.Perm M := by
  rw [List.perm_iff_count]
  intro a
  rw [h1.count, h2.count]
  by_cases e : a ∈ L
  · rw [if_pos e, if_pos ((h a).1 e)]
  · rw [if_neg e, if_neg (fun q => e ((h a).2 q))]
theorem up_parts {L : List Int} {n : Nat} (hL : L.Nodup) (hm : ∀ x ∈ L, 0 ≤ x ∧ x < n) : (L ++ rstL L n).Perm (upL n) := by
  have h1 : L.Perm ((upL n).filter fun i => L.contains i) := by
    refine nodup_perm hL ((upL_nodup n).filter _) fun x => ?_
    simp only [List.mem_filter, up_mem, List.contains_iff_mem]
    exact ⟨fun h => ⟨hm x h, h⟩, fun h => h.2⟩
  exact (h1.append_right _).trans (by unfold rstL; exact List.filter_append_perm _ _)
theorem cnt_parts {D : List Bool} {L : List Int} {n : Nat} (hD : D.length = n) (hL : L.Nodup) (hm : ∀ x ∈ L, 0 ≤ x ∧ x < n) : cntL (pickL D L) + cntL (pickL D (rstL L n)) = cntL D := by
  have h3 := cnt_perm (D := D) (up_parts hL hm)
  rw [show pickL D (L ++ rstL L n) = pickL D L ++ pickL D (rstL L n) from List.map_append, cnt_app] at h3
  rw [h3, ← hD, pick_up]

end Go.Proofs.YtfolgmcoggejbaaGreat

namespace Go.Proofs.YtfolgmcoggejbaaGreat
open Go.RowKit
set_option linter.unusedVariables false
set_option linter.unusedSimpArgs false

theorem results_cell3 {fn : Func} {p u v x : Tmp} {ty : TypeId} (h : fn.results = #[.cell p ty, .tmp u, .tmp v, .tmp x]) (tmps : Array Value) (P : Program) (w : World) :
    (results fn tmps).run P w =
      ((asAddr (tmps.getD p undef)).run P w).andThen fun a w₁ => ((loadVar ty a).run P w₁).andThen fun z w₂ => .ok (.tuple #[z, tmps.getD u undef, tmps.getD v undef, tmps.getD x undef]) w₂ := by
  simp only [results, h]
  simp [Sem.run_bind, Result.andThen]
theorem rate_form (t s n : Int) (f : Frc) : ∃ a b c d e : Int, rateV t s n f = .agg #[.int .i64 a, .int .i64 b, .int .i64 c, .int .i64 d, .int .i64 e] := by
  unfold rateV zero5
  split
  · exact ⟨_, _, _, _, _, rfl⟩
  · exact ⟨_, _, _, _, _, rfl⟩

/-- How many of the sample are wrong. -/
def seenN (a b : List Bool) (k : Int) (s : Nat) : Nat := cntL (pickL (xorL a b) (smL s a.length k))
def tstE (a b : List Bool) (k : Int) (s : Nat) (f g : Frc) : Int :=
  if a.length ≠ b.length then 22 else if smE a.length k ≠ 0 then 3 else if boundE a.length k (seenN a b k s) f ≠ 0 then boundE a.length k (seenN a b k s) f else judgeE k (seenN a b k s) g
def tstV (a b : List Bool) (k : Int) (s : Nat) (f g : Frc) : Value := if tstE a b k s f g = 0 then rateV a.length k (seenN a b k s) f else zero5
def tstP (x a b : List Bool) (k : Int) (s : Nat) (f g : Frc) : List Bool := if tstE a b k s f g = 0 then pickL x (rsL s a.length k) else []
theorem sm_mem {s n : Nat} {k : Int} {x : Int} (h : x ∈ smL s n k) : 0 ≤ x ∧ x < n := by
  unfold smL at h
  split at h
  · have := smpL_mem h; simpa using this
  · cases h
theorem rs_mem {s n : Nat} {k : Int} {x : Int} (h : x ∈ rsL s n k) : 0 ≤ x ∧ x < n := by
  unfold rsL at h
  split at h
  · have := rst_mem _ h; simpa using this
  · cases h
theorem sm_len {s n : Nat} {k : Int} (h : smE n k = 0) : (smL s n k).length = k.toNat := by
  obtain ⟨_, _, _, _⟩ := smE_ok h
  unfold smL; rw [if_pos h, smpL_len (by omega)]
theorem rs_len {s n : Nat} {k : Int} (h : smE n k = 0) : (rsL s n k).length ≤ n := by
  unfold rsL; rw [if_pos h]; have := rst_len (smpL s (n : Int).toNat k.toNat) (n : Int).toNat; simpa using this
theorem seen_le {a b : List Bool} {k : Int} {s : Nat} (h : smE a.length k = 0) : seenN a b k s ≤ k.toNat := by
  unfold seenN; exact Nat.le_trans (cntL_le _) (by rw [pick_len, sm_len h]; exact Nat.le_refl _)
/-- What Test hands back. -/
def TsR (w w' : World) (a b : List Bool) (k : Int) (s : Nat) (f g : Frc) (e : Ending) : Prop :=
  ∃ v1 v2, e = .returned (.tuple #[tstV a b k s f g, v1, v2, .int .i64 (tstE a b k s f g)]) ∧ Own w' w.heap.size 4 1 encB v1 (tstP a a b k s f g) ∧ Own w' w.heap.size 4 1 encB v2 (tstP b a b k s f g) ∧ Below w.heap.size w w'
theorem tsR_bad {w w' : World} {a b : List Bool} {k : Int} {s : Nat} {f g : Frc} {E : Int} (hE : tstE a b k s f g = E) (h0 : E ≠ 0) (hb : Below w.heap.size w w') : TsR w w' a b k s f g (.returned (.tuple #[zero5, .slice none 0 0, .slice none 0 0, .int .i64 E])) := by
  subst hE
  exact ⟨_, _, by unfold tstV; rw [if_neg h0], by unfold tstP; rw [if_neg h0]; exact Own.nil, by unfold tstP; rw [if_neg h0]; exact Own.nil, hb⟩
theorem tsR_good {w w' : World} {a b : List Bool} {k : Int} {s : Nat} {f g : Frc} (hE : tstE a b k s f g = 0) {v1 v2 : Value} (h1 : Own w' w.heap.size 4 1 encB v1 (pickL a (rsL s a.length k))) (h2 : Own w' w.heap.size 4 1 encB v2 (pickL b (rsL s a.length k))) (hb : Below w.heap.size w w') :
    TsR w w' a b k s f g (.returned (.tuple #[rateV a.length k (seenN a b k s) f, v1, v2, .int .i64 0])) :=
  ⟨v1, v2, by unfold tstV; rw [if_pos hE, hE], by unfold tstP; rw [if_pos hE]; exact h1, by unfold tstP; rw [if_pos hE]; exact h2, hb⟩
theorem xor_len {a b : List Bool} (h : a.length = b.length) : (xorL a b).length = a.length := by unfold xorL; rw [List.length_zipWith]; omega

set_option maxRecDepth 100000 in
set_option maxHeartbeats 1000000 in
theorem Xor_bad (A B : Option Addr) (cA cB n m : Nat) (w : World) (h : ((n : Int) != (m : Int)) = true) :
    Calls Tryz.prog 39 #[.slice A n cA, .slice B m cB] w fun e w' => e = .returned (.tuple #[.slice none 0 0, .int .i64 22]) ∧ w = w' := by
  go_enter Tryz.func39, Tryz.ntmps39
  go_wp2_with fail
  go_ret2
  exact ⟨rfl, rfl⟩

set_option maxRecDepth 100000 in
set_option maxHeartbeats 4000000 in
theorem Test_bad1 (A B : Option Addr) (cA cB n m : Nat) (a b : List Bool) (k : Int) (s : Nat) (f g : Frc) (w : World) (ha : a.length = n) (hb : b.length = m) (hne : n ≠ m) :
    Calls Tryz.prog 7 #[.slice A n cA, .slice B m cB, .int .i64 k, .int .u64 s, f.val, g.val] w fun e w' => TsR w w' a b k s f g e := by
  have hE : Hid (tstE a b k s f g = 22) := Lib.hid (by unfold tstE; rw [if_pos (by omega)])
  have hnm : ((n : Int) != (m : Int)) = true := by simp; omega
  have hb0 := below_alloc (below_alloc (below_alloc (Below.refl w.heap.size w) (.cells #[.slice f.A f.l.length f.c, .slice f.C f.m.length f.d] 33)) (.cells #[.slice g.A g.l.length g.c, .slice g.C g.m.length g.d] 33)) (.cells #[.int .i64 0, .int .i64 0, .int .i64 0, .int .i64 0, .int .i64 0] 35)
  have cX := Xor_bad A B cA cB n m
  unfold Frc.val
  clear hne ha hb
  go_enter Tryz.func7, Tryz.ntmps7
  go_wp2_with (go_at_call 39; refine (cX _ hnm).mono ?_; rintro e w' ⟨rfl, rfl⟩)
  (try simp only [Exit.inBlock, Exit.then])
  refine bodyPost_ret (v := .tuple #[zero5, .slice none 0 0, .slice none 0 0, .int .i64 22]) ?_ rfl (tsR_bad hE.out (by decide) ?_)
  · rw [results_cell3 rfl]
    unfold zero5
    go_simp
  · exact hb0

/-- Five zeros that may be written. -/
def Five (y : World) (g : Nat) : Prop := (y.cell? ⟨g, 0, none⟩ = some (.int .i64 0) ∧ y.frozen? ⟨g, 0, none⟩ = false) ∧ (y.cell? ⟨g, 1, none⟩ = some (.int .i64 0) ∧ y.frozen? ⟨g, 1, none⟩ = false) ∧ (y.cell? ⟨g, 2, none⟩ = some (.int .i64 0) ∧ y.frozen? ⟨g, 2, none⟩ = false) ∧ (y.cell? ⟨g, 3, none⟩ = some (.int .i64 0) ∧ y.frozen? ⟨g, 3, none⟩ = false) ∧ (y.cell? ⟨g, 4, none⟩ = some (.int .i64 0) ∧ y.frozen? ⟨g, 4, none⟩ = false)
theorem five_new {W y : World} {T : TypeId} (h : Below (W.alloc (.cells #[.int .i64 0, .int .i64 0, .int .i64 0, .int .i64 0, .int .i64 0] T)).heap.size (W.alloc (.cells #[.int .i64 0, .int .i64 0, .int .i64 0, .int .i64 0, .int .i64 0] T)) y) {g : Nat} (hg : g = W.heap.size) : Five y g :=
  ⟨blk_new h hg rfl, blk_new h hg rfl, blk_new h hg rfl, blk_new h hg rfl, blk_new h hg rfl⟩
theorem Five.on {y z : World} {g : Nat} (h : Five y g) (hb : Below y.heap.size y z) : Five z g := by
  obtain ⟨h0, h1, h2, h3, h4⟩ := h
  have al : ∀ {j : Nat}, y.cell? ⟨g, j, none⟩ = some (.int .i64 0) ∧ y.frozen? ⟨g, j, none⟩ = false → z.cell? ⟨g, j, none⟩ = some (.int .i64 0) ∧ z.frozen? ⟨g, j, none⟩ = false :=
    fun {j} q => ⟨bel_cell hb q.1, (hb.frozen (p := ⟨g, j, none⟩) (World.block_lt_of_cell? y _ q.1)).trans q.2⟩
  exact ⟨al h0, al h1, al h2, al h3, al h4⟩
theorem below_set5 {w y : World} (h : Below w.heap.size w y) {g : Nat} (hg : w.heap.size ≤ g) {a0 a1 a2 a3 a4 : Value} : Below w.heap.size w (((((y.setCell ⟨g, 0, none⟩ a0).setCell ⟨g, 1, none⟩ a1).setCell ⟨g, 2, none⟩ a2).setCell ⟨g, 3, none⟩ a3).setCell ⟨g, 4, none⟩ a4) :=
  ((((h.setCell hg _).setCell hg _).setCell hg _).setCell hg _).setCell hg _
theorem own_set5 {α : Type} {y : World} {base e sz g : Nat} {enc : α → List Value} {v : Value} {l : List α} (h : Own y base e sz enc v l) (hlt : g < base) {a0 a1 a2 a3 a4 : Value} : Own (((((y.setCell ⟨g, 0, none⟩ a0).setCell ⟨g, 1, none⟩ a1).setCell ⟨g, 2, none⟩ a2).setCell ⟨g, 3, none⟩ a3).setCell ⟨g, 4, none⟩ a4) base e sz enc v l :=
  h.keep_lt (grown_trans (grown_trans (grown_trans (grown_trans (grown_set _ _ _ _) (grown_set _ _ _ _)) (grown_set _ _ _ _)) (grown_set _ _ _ _)) (grown_set _ _ _ _)) hlt
theorem arr_cap {α : Type} {w : World} {base e z : Nat} {enc : α → List Value} {v : Value} {l : List α} {n : Nat} (h : Own w base e z enc v l) (hs : ∀ x, (enc x).length = z) (hl : l.length = n) : ∃ A c, v = .slice A n c ∧ Arr z enc w w.heap.size A l := by
  obtain ⟨A, c, hv, _, _, _, ar⟩ := h.form hs
  exact ⟨A, c, by rw [hv, hl], ar⟩

set_option maxRecDepth 100000 in
set_option maxHeartbeats 4000000 in
theorem Test_bad2 (A B : Option Addr) (cA cB n : Nat) (a b : List Bool) (k : Int) (s : Nat) (f g : Frc) (w : World) (ha : a.length = n) (hb : b.length = n) (hA : Arr 1 encB w w.heap.size A a) (hB : Arr 1 encB w w.heap.size B b) (hn : n ≤ 65536) (h : smE n k ≠ 0) :
    Calls Tryz.prog 7 #[.slice A n cA, .slice B n cB, .int .i64 k, .int .u64 s, f.val, g.val] w fun e w' => TsR w w' a b k s f g e := by
  have h3 := (sm_bad (s := s) h).1
  have hE : Hid (tstE a b k s f g = 3) := Lib.hid (by unfold tstE; rw [if_neg (by omega), ha, if_pos h])
  have hb0 := below_alloc (below_alloc (below_alloc (Below.refl w.heap.size w) (.cells #[.slice f.A f.l.length f.c, .slice f.C f.m.length f.d] 33)) (.cells #[.slice g.A g.l.length g.c, .slice g.C g.m.length g.d] 33)) (.cells #[.int .i64 0, .int .i64 0, .int .i64 0, .int .i64 0, .int .i64 0] 35)
  have cX := Xor_any A B cA cB n a b _ ha hb (hA.on hb0) (hB.on hb0) hn
  have cS := fun w1 => SampleS_any s n k w1
  unfold SmR at cS
  rw [h3] at cS
  unfold Frc.val
  clear h h3 ha hb hA hB
  go_enter Tryz.func7, Tryz.ntmps7
  go_wp2_with fail
  refine cX.mono ?_
  rintro e w1 ⟨vD, rfl, ownD, hb1⟩
  go_wp2_with fail
  refine (cS _).mono ?_
  rintro e w2 ⟨v1, v2, rfl, own1, own2, hb2⟩
  have q1 := below_trans hb0 hb1
  have q2 := below_trans q1 hb2
  obtain ⟨f0, f1, f2, f3, f4⟩ := (five_new hb1 (g := w.heap.size + 1 + 1) (by simp)).on hb2
  go_wp2_with fail
  (try simp only [Exit.inBlock, Exit.then])
  refine bodyPost_ret (v := .tuple #[zero5, .slice none 0 0, .slice none 0 0, .int .i64 3]) ?_ rfl (tsR_bad hE.out (by decide) ?_)
  · rw [results_cell3 rfl]
    unfold zero5
    go_simp
  · exact below_set5 q2 (by omega)

/-- What a call makes of five cells of its own. -/
theorem test_case (a b : List Bool) (k : Int) (s n : Nat) (f g : Frc) (ha : a.length = n) (hb : b.length = n) (h : smE n k = 0) :
    tstE a b k s f g = (if boundE n k (seenN a b k s) f ≠ 0 then boundE n k (seenN a b k s) f else judgeE k (seenN a b k s) g) := by
  unfold tstE; rw [if_neg (by omega), ha, if_neg (by omega)]

set_option maxRecDepth 100000 in
set_option maxHeartbeats 8000000 in
theorem Test_main (A B : Option Addr) (cA cB n : Nat) (a b : List Bool) (k : Int) (s : Nat) (f g : Frc) (w : World) (ha : a.length = n) (hb : b.length = n) (hA : Arr 1 encB w w.heap.size A a) (hB : Arr 1 encB w w.heap.size B b) (hn : n ≤ 65536) (h : smE n k = 0) (hf : f.In w) (hg : g.In w) :
    Calls Tryz.prog 7 #[.slice A n cA, .slice B n cB, .int .i64 k, .int .u64 s, f.val, g.val] w fun e w' => TsR w w' a b k s f g e := by
  have hTE := Lib.hid (test_case a b k s n f g ha hb h)
  have hk := smE_ok h
  have hb0 := below_alloc (below_alloc (below_alloc (Below.refl w.heap.size w) (.cells #[.slice f.A f.l.length f.c, .slice f.C f.m.length f.d] 33)) (.cells #[.slice g.A g.l.length g.c, .slice g.C g.m.length g.d] 33)) (.cells #[.int .i64 0, .int .i64 0, .int .i64 0, .int .i64 0, .int .i64 0] 35)
  have cX := Xor_any A B cA cB n a b _ ha hb (hA.on hb0) (hB.on hb0) hn
  have cS := fun w1 => SampleS_any s n k w1
  unfold SmR at cS
  rw [h] at cS
  have xl := xor_len (a := a) (b := b) (by omega)
  rw [ha] at xl
  have sl := sm_len (s := s) h
  obtain ⟨m, hm⟩ : ∃ m, k.toNat = m := ⟨_, rfl⟩
  rw [hm] at sl
  have hm5 : m ≤ 512 := by omega
  have rl := rs_len (s := s) h
  have sm := fun x => sm_mem (s := s) (n := n) (k := k) (x := x)
  have rm := fun x => rs_mem (s := s) (n := n) (k := k) (x := x)
  obtain ⟨L, hL⟩ : ∃ L, smL s n k = L := ⟨_, rfl⟩
  obtain ⟨R, hR⟩ : ∃ R, rsL s n k = R := ⟨_, rfl⟩
  obtain ⟨D, hD⟩ : ∃ D, xorL a b = D := ⟨_, rfl⟩
  obtain ⟨r, hr⟩ : ∃ r, R.length = r := ⟨_, rfl⟩
  rw [hL] at cS sl sm
  rw [hR] at cS rl rm
  rw [hD] at cX xl
  have hSN : Hid (seenN a b k s = cntL (pickL D L)) := Lib.hid (by unfold seenN; rw [ha, hL, hD])
  have HL := Lib.hid hL; have HR := Lib.hid hR; have HD := Lib.hid hD; have Hr := Lib.hid hr
  have Hxl := Lib.hid xl; have Hsl := Lib.hid sl; have Hsm := Lib.hid sm; have Hrm := Lib.hid rm
  have Ha := Lib.hid ha; have Hb := Lib.hid hb
  have Hf := Lib.hid hf; have Hg := Lib.hid hg
  have Hk := Lib.hid hk; have Hm := Lib.hid hm
  rw [hr] at rl
  clear hL hR hD hr xl sl sm rm h ha hb hk hm
  have fv : f.val = .agg #[.slice f.A f.l.length f.c, .slice f.C f.m.length f.d] := rfl
  have gv : g.val = .agg #[.slice g.A g.l.length g.c, .slice g.C g.m.length g.d] := rfl
  rw [fv, gv]
  clear fv gv
  go_enter Tryz.func7, Tryz.ntmps7
  go_wp2_with fail
  refine cX.mono ?_
  rintro e w1 ⟨vD, rfl, ownD, hb1⟩
  obtain ⟨DA, DC, hvD, arD⟩ := arr_cap ownD encB_len Hxl.out
  rw [hvD]
  clear hvD ownD
  go_wp2_with fail
  refine (cS _).mono ?_
  rintro e w2 ⟨v1, v2, rfl, own1, own2, hb2⟩
  obtain ⟨LA, LC, hv1, arL⟩ := arr_cap own1 encI_len Hsl.out
  obtain ⟨RA, RC, hv2, arR⟩ := arr_cap own2 encI_len Hr.out
  rw [hv1, hv2]
  clear hv1 hv2 own1 own2
  have q1 := below_trans hb0 hb1
  have q2 := below_trans q1 hb2
  have five2 := (five_new hb1 (g := w.heap.size + 1 + 1) (by simp)).on hb2
  have al := fun {x : Addr} {v : Value} (h : w1.cell? x = some v) => bel_cell hb2 h
  have e0 : w2.cell? ⟨w.heap.size, 0, none⟩ = some (.slice f.A f.l.length f.c) := al (bel_cell hb1 (by go_simp))
  have e1 : w2.cell? ⟨w.heap.size, 1, none⟩ = some (.slice f.C f.m.length f.d) := al (bel_cell hb1 (by go_simp))
  have g0 : w2.cell? ⟨w.heap.size + 1, 0, none⟩ = some (.slice g.A g.l.length g.c) := al (bel_cell hb1 (by go_simp))
  have g1 : w2.cell? ⟨w.heap.size + 1, 1, none⟩ = some (.slice g.C g.m.length g.d) := al (bel_cell hb1 (by go_simp))
  have arD2 := arD.on hb2
  have sz2 : w.heap.size + 1 + 1 < w2.heap.size := by have := hb1.size; have := hb2.size; simp at *; omega
  clear cX cS arD al hb1
  go_wp2_with fail
  go_loop [20, 54] (fun tv iv => ∃ j : Nat, j ≤ m ∧ iv = .int .i64 j ∧ tv = .int .i64 (cntL (pickL D (L.take j)) : Nat)) (fun _ i => m - (intOf i).toNat)
  case atStart => exact ⟨0, Nat.zero_le _, rfl, rfl⟩
  case round =>
    obtain ⟨j, hj, rfl, rfl⟩ := hrel
    have cl : cntL (pickL D (L.take j)) ≤ j := by
      refine Nat.le_trans (cntL_le _) ?_
      rw [pick_len, List.length_take]; omega
    rcases Nat.lt_or_ge j m with hlt | hge
    · obtain ⟨x, hx⟩ : ∃ x, L[j]? = some x := ⟨_, List.getElem?_eq_getElem (by rw [Hsl.out]; exact hlt)⟩
      obtain ⟨r0, r1⟩ := Hsm.out x (List.mem_of_getElem? hx)
      obtain ⟨i, rfl⟩ := Int.eq_ofNat_of_zero_le r0
      have hin : i < n := by omega
      obtain ⟨y, hy⟩ : ∃ y, D[i]? = some y := ⟨_, List.getElem?_eq_getElem (by rw [Hxl.out]; exact hin)⟩
      obtain ⟨pb, po, rfl, _, hc⟩ := arL (by rintro rfl; simp at hx)
      obtain ⟨qb, qo, rfl, _, hc2⟩ := arD2 (by rintro rfl; simp at hy)
      have c1 : w2.cell? ⟨pb, po + j, none⟩ = some (.int .i64 (i : Int)) := by have := hc j _ hx 0 _ rfl; simpa using this
      have c2 : w2.cell? ⟨qb, qo + i, none⟩ = some (.bool y) := by have := hc2 i _ hy 0 _ rfl; simpa using this
      have st := Lib.hid (pick_snoc hx hy)
      have km : (j : Int) < (m : Int) := by omega
      clear hc hc2 hx hy
      obtain ⟨c, hcn⟩ : ∃ c, cntL (pickL D (L.take j)) = c := ⟨_, rfl⟩
      have Hc := Lib.hid hcn
      rw [hcn] at cl ⊢
      clear hcn
      cases y
      · have sc : Hid (cntL (pickL D (L.take (j + 1))) = c) := Lib.hid (by rw [st.out, cnt_no, Hc.out])
        go_wp2_with fail
        exact ⟨⟨j + 1, by omega, by go_num, by rw [sc.out]⟩, by simp [intOf]; omega⟩
      · have sc : Hid (cntL (pickL D (L.take (j + 1))) = c + 1) := Lib.hid (by rw [st.out, cnt_yes, Hc.out])
        go_wp2_with fail
        exact ⟨⟨j + 1, by omega, by go_num, by rw [sc.out]; go_num⟩, by simp [intOf]; omega⟩
    · obtain rfl : j = m := by omega
      have tl : L.take j = L := by rw [← Hsl.out, List.take_length]
      rw [tl] at cl ⊢
      have hs0 := hSN.out
      obtain ⟨c, hcn⟩ : ∃ c, cntL (pickL D L) = c := ⟨_, rfl⟩
      rw [hcn] at cl hs0 ⊢
      clear tl hcn
      have hTE2 := hTE.out
      rw [hs0] at hTE2
      have HTE := Lib.hid hTE2
      have Hs0 := Lib.hid hs0
      clear hTE2 hs0
      have cR := Rate_any n k c f w2 (Hf.out.on q2)
      rw [show f.val = .agg #[.slice f.A f.l.length f.c, .slice f.C f.m.length f.d] from rfl] at cR
      obtain ⟨ea, eb, ec, ed, ee, hE⟩ := rate_form n k c f
      have HE := Lib.hid hE
      rw [hE] at cR
      clear hE
      by_cases h1 : boundE n k c f = 0
      · rw [h1] at cR
        have HTJ : Hid (tstE a b k s f g = judgeE k c g) := Lib.hid (by rw [HTE.out, if_neg (by omega)])
        go_wp2_with fail
        refine cR.mono ?_
        rintro e w3 ⟨rfl, hb3⟩
        have q3 := below_alloc (below_trans q2 hb3) (.cells #[.int .i64 ea, .int .i64 eb, .int .i64 ec, .int .i64 ed, .int .i64 ee] 35)
        have five3 := five2.on hb3
        have g0' := bel_cell hb3 g0
        have g1' := bel_cell hb3 g1
        have sz3 : w.heap.size + 1 + 1 < w3.heap.size := by have := hb3.size; omega
        have sz31 : w.heap.size + 1 < w3.heap.size := by omega
        clear cR e0 e1 g0 g1
        go_wp2_with fail
        have cJ := Judge_any k c g _ (Hg.out.on q3)
        rw [show g.val = .agg #[.slice g.A g.l.length g.c, .slice g.C g.m.length g.d] from rfl] at cJ
        refine cJ.mono ?_
        rintro e w4 ⟨rfl, hb4⟩
        have q4 := below_trans q3 hb4
        have al3 := fun {x : Addr} {v : Value} (h : w3.cell? x = some v) => bel_cell hb4 ((World.cell?_alloc_lt w3 (.cells #[.int .i64 ea, .int .i64 eb, .int .i64 ec, .int .i64 ed, .int .i64 ee] 35) x (World.block_lt_of_cell? w3 x h)).trans h)
        obtain ⟨f0, f1, f2, f3, f4⟩ := (five3.on (below_alloc (Below.refl _ _) (.cells #[.int .i64 ea, .int .i64 eb, .int .i64 ec, .int .i64 ed, .int .i64 ee] 35))).on hb4
        have x0 := (blk_new hb4 (g := w3.heap.size) rfl (j := 0) rfl).1
        have x1 := (blk_new hb4 (g := w3.heap.size) rfl (j := 1) rfl).1
        have x2 := (blk_new hb4 (g := w3.heap.size) rfl (j := 2) rfl).1
        have x3 := (blk_new hb4 (g := w3.heap.size) rfl (j := 3) rfl).1
        have x4 := (blk_new hb4 (g := w3.heap.size) rfl (j := 4) rfl).1
        have sz4 : w.heap.size + 1 + 1 < w4.heap.size := by have := hb4.size; simp at this; omega
        have sz43 : w3.heap.size < w4.heap.size := by have := hb4.size; simp at this; omega
        clear cJ g0' g1' al3
        by_cases h2 : judgeE k c g = 0
        · have hT : Hid (tstE a b k s f g = 0) := Lib.hid (by rw [HTJ.out, h2])
          rw [h2]
          clear h2
          have arA4 := hA.on q4
          have arB4 := hB.on q4
          have arR4 := (arR.on hb3).on (below_trans (below_alloc (Below.refl _ _) (.cells #[.int .i64 ea, .int .i64 eb, .int .i64 ec, .int .i64 ed, .int .i64 ee] 35)) hb4)
          have cP := Pick_any A RA cA n RC r a R w4 Ha.out Hr.out arA4 arR4 hn (by omega) (fun x hx => Hrm.out x hx)
          go_wp2_with fail
          refine cP.mono ?_
          rintro e w5 ⟨v5, rfl, own5, hb5⟩
          have cP2 := Pick_any B RA cB n RC r b R w5 Hb.out Hr.out (arB4.on hb5) (arR4.on hb5) hn (by omega) (fun x hx => Hrm.out x hx)
          clear cP
          go_wp2_with fail
          refine cP2.mono ?_
          rintro e w6 ⟨v6, rfl, own6, hb6⟩
          have hb46 := below_trans hb5 hb6
          have y0 := bel_cell hb46 x0
          have y1 := bel_cell hb46 x1
          have y2 := bel_cell hb46 x2
          have y3 := bel_cell hb46 x3
          have y4 := bel_cell hb46 x4
          have sz6 : w.heap.size + 1 + 1 < w6.heap.size := by have := hb46.size; omega
          have sz63 : w3.heap.size < w6.heap.size := by have := hb46.size; omega
          obtain ⟨m0, m1, m2, m3, m4⟩ := (Five.on ⟨f0, f1, f2, f3, f4⟩ hb46 : Five w6 (w.heap.size + 1 + 1))
          clear cP2 x0 x1 x2 x3 x4 f0 f1 f2 f3 f4
          have q6 := below_trans q4 hb46
          have s4 := q4.size
          have s5 := hb5.size
          go_wp2_with fail
          (try simp only [Exit.inBlock, Exit.then])
          have o5 := own_base (own_set5 (own5.below hb6) (g := w.heap.size + 1 + 1) (by omega) (a0 := .int .i64 ea) (a1 := .int .i64 eb) (a2 := .int .i64 ec) (a3 := .int .i64 ed) (a4 := .int .i64 ee)) s4
          have o6 := own_base (own_set5 own6 (g := w.heap.size + 1 + 1) (by omega) (a0 := .int .i64 ea) (a1 := .int .i64 eb) (a2 := .int .i64 ec) (a3 := .int .i64 ed) (a4 := .int .i64 ee)) (show w.heap.size ≤ w5.heap.size by omega)
          have fin := tsR_good (w := w) hT.out (by rw [Ha.out, HR.out]; exact o5) (by rw [Ha.out, HR.out]; exact o6) (below_set5 q6 (g := w.heap.size + 1 + 1) (by omega) (a0 := .int .i64 ea) (a1 := .int .i64 eb) (a2 := .int .i64 ec) (a3 := .int .i64 ed) (a4 := .int .i64 ee))
          rw [Ha.out, Hs0.out, HE.out] at fin
          refine bodyPost_ret (v := .tuple #[.agg #[.int .i64 ea, .int .i64 eb, .int .i64 ec, .int .i64 ed, .int .i64 ee], v5, v6, .int .i64 0]) ?_ rfl fin
          rw [results_cell3 rfl]
          go_simp
        · have hT : Hid (tstE a b k s f g = judgeE k c g) := HTJ
          have h2' : (judgeE k c g != 0) = true := by simpa using h2
          generalize judgeE k c g = E2 at *
          have H2 := Lib.hid h2
          clear h2
          go_wp2_with fail
          (try simp only [Exit.inBlock, Exit.then])
          refine bodyPost_ret (v := .tuple #[zero5, .slice none 0 0, .slice none 0 0, .int .i64 E2]) ?_ rfl (tsR_bad hT.out H2.out ?_)
          · rw [results_cell3 rfl]
            unfold zero5
            go_simp
          · exact below_set5 q4 (by omega)
      · have hT : Hid (tstE a b k s f g = boundE n k c f) := Lib.hid (by rw [HTE.out, if_pos h1])
        have h1' : (boundE n k c f != 0) = true := by simpa using h1
        generalize boundE n k c f = E1 at *
        have H1 := Lib.hid h1
        clear h1
        go_wp2_with fail
        refine cR.mono ?_
        rintro e w3 ⟨rfl, hb3⟩
        have q3 := below_trans q2 hb3
        obtain ⟨f0, f1, f2, f3, f4⟩ := five2.on hb3
        have sz3 : w.heap.size + 1 + 1 < w3.heap.size := by have := hb3.size; omega
        go_wp2_with fail
        (try simp only [Exit.inBlock, Exit.then])
        refine bodyPost_ret (v := .tuple #[zero5, .slice none 0 0, .slice none 0 0, .int .i64 E1]) ?_ rfl (tsR_bad hT.out H1.out ?_)
        · rw [results_cell3 rfl]
          unfold zero5
          go_simp
        · exact below_alloc (below_set5 q3 (by omega)) _

theorem Test_any (A B : Option Addr) (cA cB n m : Nat) (a b : List Bool) (k : Int) (s : Nat) (f g : Frc) (w : World) (ha : a.length = n) (hb : b.length = m) (hA : Arr 1 encB w w.heap.size A a) (hB : Arr 1 encB w w.heap.size B b) (hn : n ≤ 65536) (hf : f.In w) (hg : g.In w) :
    Calls Tryz.prog 7 #[.slice A n cA, .slice B m cB, .int .i64 k, .int .u64 s, f.val, g.val] w fun e w' => TsR w w' a b k s f g e := by
  by_cases h : n = m
  · subst h
    by_cases h2 : smE n k = 0
    · exact Test_main A B cA cB n a b k s f g w ha hb hA hB hn h2 hf hg
    · exact Test_bad2 A B cA cB n a b k s f g w ha hb hA hB hn h2
  · exact Test_bad1 A B cA cB n m a b k s f g w ha hb h

end Go.Proofs.YtfolgmcoggejbaaGreat
