/- Contracts of algebra's Xor and Pick. For bit strings of at most 65536 bits, and indexes that are in range. -/
import Derived.Test.YtbobbcfjjdmdgaaTopA
import Derived.Test.YtbobbcfjjdmdgaaPrmC
namespace Go.Proofs.Ytbobbcfjjdmdgaa
open Go.RowKit
set_option linter.unusedVariables false
set_option linter.unusedSimpArgs false

def pickL (b : List Bool) (at_ : List Int) : List Bool := at_.map fun i => b.getD i.toNat false
theorem pick_len (b : List Bool) (at_ : List Int) : (pickL b at_).length = at_.length := by simp [pickL]
theorem pick_snoc {b : List Bool} {at_ : List Int} {k i : Nat} {x : Bool} (hk : at_[k]? = some (i : Int)) (hx : b[i]? = some x) : pickL b (at_.take (k + 1)) = pickL b (at_.take k) ++ [x] := by
  have h1 := (List.getElem?_eq_some_iff.1 hk).1
  have h2 := (List.getElem?_eq_some_iff.1 hk).2
  unfold pickL
  rw [List.take_succ_eq_append_getElem h1, h2, List.map_append]
  simp [List.getD, hx]
set_option maxRecDepth 100000 in
set_option maxHeartbeats 2000000 in
theorem Pick_any (A C : Option Addr) (cA n cC m : Nat) (b : List Bool) (at_ : List Int) (w : World) (hb : b.length = n) (hat : at_.length = m) (hA : Arr 1 encB w w.heap.size A b) (hC : Arr 1 encI w w.heap.size C at_) (hn : n ≤ 65536) (hm : m ≤ 65536) (hr : ∀ x ∈ at_, 0 ≤ x ∧ x < n) :
    Calls Try.prog 107 #[.slice A n cA, .slice C m cC] w fun e w' => ∃ v, e = .returned (.tuple #[v, .int .i64 0]) ∧ Own w' w.heap.size 4 1 encB v (pickL b at_) ∧ Below w.heap.size w w' := by
  obtain ⟨i0, hi, hz0, hz1, hz2⟩ := info_parts bool_info3
  have Hi := Lib.hid hi; have Hz0 := Lib.hid hz0; have Hz1 := Lib.hid hz1; have Hz2 := Lib.hid hz2
  have Hb := Lib.hid hb; have Hat := Lib.hid hat; have Hr := Lib.hid hr
  clear hi hz0 hz1 hz2 hb hat hr
  go_enter Try.func107, Try.ntmps107
  go_wp2_with (at_make; refine wpList_make_own _ rfl _ _ 72 rfl w.heap.size 4 i0 _ 1 Try.underlying72 Hi.out Hz0.out Hz1.out _ _ _ m rfl rfl rfl (by rw [Hz2.out]; omega) (by unfold maxLen; omega) (Nat.le_refl _) ?_; intro w1 own1 gr1)
  have hb1 : Below w.heap.size w w1 := ⟨gr1.os, gr1.tape, gr1.output, gr1.size, fun k hk => gr1.block k hk (by simp)⟩
  have own1' : Own w1 w.heap.size 4 1 encB (.slice (some ⟨w.heap.size, 0, none⟩) 0 m) ([] : List Bool) := own1
  clear own1 gr1
  go_loopw [6, 14] (fun v i wr => ∃ k : Nat, k ≤ m ∧ i = .int .i64 k ∧ Own wr w.heap.size 4 1 encB v (pickL b (at_.take k)) ∧ Below w.heap.size w wr) (fun _ i _ => m - (intOf i).toNat)
  case atStart => exact ⟨0, Nat.zero_le _, rfl, own1', hb1⟩
  case round =>
    clear own1' hb1
    obtain ⟨k, hk, rfl, ow, hb⟩ := hrel
    obtain ⟨w6, rfl⟩ : ∃ w6, w6 = wr := ⟨_, rfl⟩
    have sz := hb.size
    rcases Nat.lt_or_ge k m with hlt | hge
    · obtain ⟨x, hx⟩ : ∃ x, at_[k]? = some x := ⟨_, List.getElem?_eq_getElem (by rw [Hat.out]; exact hlt)⟩
      obtain ⟨r0, r1⟩ := Hr.out x (List.mem_of_getElem? hx)
      obtain ⟨i, rfl⟩ := Int.eq_ofNat_of_zero_le r0
      have hin : i < n := by omega
      obtain ⟨y, hy⟩ : ∃ y, b[i]? = some y := ⟨_, List.getElem?_eq_getElem (by rw [Hb.out]; exact hin)⟩
      obtain ⟨pb, po, rfl, _, hc⟩ := (hC.on hb) (by rintro rfl; simp at hx)
      obtain ⟨qb, qo, rfl, _, hc2⟩ := (hA.on hb) (by rintro rfl; simp at hy)
      have e1 : w6.cell? ⟨pb, po + k, none⟩ = some (.int .i64 (i : Int)) := by have := hc k _ hx 0 _ rfl; simpa using this
      have e2 : w6.cell? ⟨qb, qo + i, none⟩ = some (.bool y) := by have := hc2 i _ hy 0 _ rfl; simpa using this
      have st := Lib.hid (pick_snoc hx hy)
      have km : (k : Int) < (m : Int) := by omega
      have oby : ((pickL b (at_.take k)).length + 1) * 1 ≤ 140737488355328 := by rw [pick_len, List.length_take]; omega
      clear hc hc2 hx hy
      go_wp2_with (at_builtin; refine wpList_snoc (g := w6.heap.size) rfl _ _ 72 rfl w.heap.size 4 i0 _ 1 1 Try.underlying72 Hi.out Hz0.out Hz1.out Hz2.out rfl (by decide) _ (pickL b (at_.take k)) y #[.bool y] 4 rfl ow rfl rfl rfl (encB_one _) oby (by decide) sz rfl ?_; intro v5 w5 own5 hb5)
      exact ⟨⟨k + 1, by omega, by go_num, by rw [st.out]; exact own5, hb.trans hb5⟩, by simp [intOf]; omega⟩
    · obtain rfl : k = m := by omega
      have e1 : at_.take k = at_ := by rw [← Hat.out, List.take_length]
      rw [e1] at ow
      clear e1
      go_wp2_with fail
      go_ret2
      exact ⟨_, rfl, ow, hb⟩

set_option maxRecDepth 100000 in
set_option maxHeartbeats 1000000 in
theorem Xor_any (A B : Option Addr) (cA cB n : Nat) (a b : List Bool) (w : World) (ha : a.length = n) (hb : b.length = n) (hA : Arr 1 encB w w.heap.size A a) (hB : Arr 1 encB w w.heap.size B b) (hm : n ≤ 65536) :
    Calls Try.prog 104 #[.slice A n cA, .slice B n cB] w fun e w' => ∃ v, e = .returned (.tuple #[v, .int .i64 0]) ∧ Own w' w.heap.size 4 1 encB v (xorL a b) ∧ Below w.heap.size w w' := by
  have cZ := zip_any A B cA cB a b w hA hB (by omega) (by omega)
  rw [ha, hb] at cZ
  clear ha hb
  go_enter Try.func104, Try.ntmps104
  go_wp2_with (go_at_call 163; refine cZ.mono ?_; rintro e w1 ⟨v, rfl, own1, hb1⟩)
  go_ret2
  exact ⟨v, rfl, own1, hb1⟩

end Go.Proofs.Ytbobbcfjjdmdgaa
