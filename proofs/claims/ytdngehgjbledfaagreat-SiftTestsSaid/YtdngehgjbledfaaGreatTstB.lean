/- Contract of the reference's Pick, and plain words on picked bits. For bit strings of at most 65536 bits, and indexes that are in range. -/
import Derived.Test.YtdngehgjbledfaaGreatTstA
namespace Go.Proofs.YtdngehgjbledfaaGreat
open Go.RowKit
set_option linter.unusedVariables false
set_option linter.unusedSimpArgs false

theorem pick_xor {a b : List Bool} {L : List Int} (hl : a.length = b.length) (hr : ∀ x ∈ L, 0 ≤ x ∧ x < (a.length : Int)) : xorL (pickL a L) (pickL b L) = pickL (xorL a b) L := by
  induction L with
  | nil => rfl
  | cons x L ih =>
    have h1 := hr x (by simp)
    have hx : x.toNat < a.length := by omega
    have hy : x.toNat < b.length := by omega
    have e : ((xorL a b).getD x.toNat false) = ((a.getD x.toNat false) != (b.getD x.toNat false)) := by
      simp only [xorL, List.getD, List.getElem?_zipWith, List.getElem?_eq_getElem hx, List.getElem?_eq_getElem hy]
      rfl
    show ((a.getD x.toNat false) != (b.getD x.toNat false)) :: xorL (pickL a L) (pickL b L) = ((xorL a b).getD x.toNat false) :: pickL (xorL a b) L
    rw [e, ih (fun y hy => hr y (by simp [hy]))]
theorem cnt_app (l m : List Bool) : cntL (l ++ m) = cntL l + cntL m := by simp [cntL, List.filter_append]
theorem cnt_yes (l : List Bool) : cntL (l ++ [true]) = cntL l + 1 := by rw [cnt_app]; rfl
theorem cnt_no (l : List Bool) : cntL (l ++ [false]) = cntL l := by rw [cnt_app]; rfl
theorem pick_up (D : List Bool) : pickL D (upL D.length) = D := by
  refine List.ext_getElem? fun i => ?_
  simp only [pickL, upL, List.getElem?_map]
  by_cases h : i < D.length
  · rw [List.getElem?_range h]; simp [h]
  · rw [List.getElem?_eq_none (by simpa using h), List.getElem?_eq_none (by simpa using h)]; rfl
theorem cnt_perm {D : List Bool} {L M : List Int} (h : L.Perm M) : cntL (pickL D L) = cntL (pickL D M) := by
  unfold cntL pickL
  exact ((h.map _).filter _).length_eq
theorem up_mem {n : Nat} {x : Int} : x ∈ upL n ↔ 0 ≤ x ∧ x < n := by
  simp only [upL, List.mem_map, List.mem_range]
  exact ⟨fun ⟨i, h, e⟩ => by omega, fun ⟨h1, h2⟩ => ⟨x.toNat, by omega, by omega⟩⟩
theorem rst_mem {L : List Int} {n : Nat} : ∀ x ∈ rstL L n, 0 ≤ x ∧ x < n := fun x hx => up_mem.1 (List.mem_filter.1 hx).1
theorem nodup_perm {L M : List Int} (h1 : L.Nodup) (h2 : M.Nodup) (h : ∀ x, x ∈ L ↔ x ∈ M) : L.Perm M := by
  rw [List.perm_iff_count]
  intro a
  rw [h1.count, h2.count]
  by_cases e : a ∈ L
  · rw [if_pos e, if_pos ((h a).1 e)]
  · rw [if_neg e, if_neg (fun q => e ((h a).2 q))]
theorem up_parts {L : List Int} {n : Nat} (hL : L.Nodup) (hm : ∀ x ∈ L, 0 ≤ x ∧ x < n) : (L ++ rstL L n).Perm (upL n) := by
  have h1 : L.Perm ((upL n).filter fun i => L.contains i) := by
    refine nodup_perm hL ((upL_nodup n).filter _) fun x => ?_
    simp only [List.mem_filter, up_mem, List.contains_iff_mem]
    exact ⟨fun h => ⟨hm x h, h⟩, fun h => h.2⟩
  exact (h1.append_right _).trans (by unfold rstL; exact List.filter_append_perm _ _)
theorem cnt_parts {D : List Bool} {L : List Int} {n : Nat} (hD : D.length = n) (hL : L.Nodup) (hm : ∀ x ∈ L, 0 ≤ x ∧ x < n) : cntL (pickL D L) + cntL (pickL D (rstL L n)) = cntL D := by
  have h3 := cnt_perm (D := D) (up_parts hL hm)
  rw [show pickL D (L ++ rstL L n) = pickL D L ++ pickL D (rstL L n) from List.map_append, cnt_app] at h3
  rw [h3, ← hD, pick_up]

set_option maxRecDepth 100000 in
set_option maxHeartbeats 2000000 in
theorem rPick_any (A C : Option Addr) (cA n cC m : Nat) (b : List Bool) (at_ : List Int) (w : World) (hb : b.length = n) (hat : at_.length = m) (hA : Arr 1 encB w w.heap.size A b) (hC : Arr 1 encI w w.heap.size C at_) (hn : n ≤ 65536) (hm : m ≤ 65536) (hr : ∀ x ∈ at_, 0 ≤ x ∧ x < n) :
    Calls Tryz.prog 19 #[.slice A n cA, .slice C m cC] w fun e w' => ∃ v, e = .returned v ∧ Own w' w.heap.size 4 1 encB v (pickL b at_) ∧ Below w.heap.size w w' := by
  obtain ⟨i0, hi, hz0, hz1, hz2⟩ := info_parts bool_info3
  have Hi := Lib.hid hi; have Hz0 := Lib.hid hz0; have Hz1 := Lib.hid hz1; have Hz2 := Lib.hid hz2
  have Hb := Lib.hid hb; have Hat := Lib.hid hat; have Hr := Lib.hid hr
  clear hi hz0 hz1 hz2 hb hat hr
  go_enter Tryz.func19, Tryz.ntmps19
  go_wp2
  go_loopw [5, 6] (fun v i wr => ∃ k : Nat, k ≤ m ∧ i = .int .i64 k ∧ Own wr w.heap.size 4 1 encB v (pickL b (at_.take k)) ∧ Below w.heap.size w wr) (fun _ i _ => m - (intOf i).toNat)
  case atStart => exact ⟨0, Nat.zero_le _, rfl, Own.nil, Below.refl _ _⟩
  case round =>
    obtain ⟨k, hk, rfl, ow, hb⟩ := hrel
    obtain ⟨w6, rfl⟩ : ∃ w6, w6 = wr := ⟨_, rfl⟩
    have sz := hb.size
    rcases Nat.lt_or_ge k m with hlt | hge
    · obtain ⟨x, hx⟩ : ∃ x, at_[k]? = some x := ⟨_, List.getElem?_eq_getElem (by rw [Hat.out]; exact hlt)⟩
      obtain ⟨r0, r1⟩ := Hr.out x (List.mem_of_getElem? hx)
      obtain ⟨i, rfl⟩ := Int.eq_ofNat_of_zero_le r0
      have hin : i < n := by omega
      obtain ⟨y, hy⟩ : ∃ y, b[i]? = some y := ⟨_, List.getElem?_eq_getElem (by rw [Hb.out]; exact hin)⟩
      obtain ⟨pb, po, rfl, _, hc⟩ := (hC.on hb) (by rintro rfl; simp at hx)
      obtain ⟨qb, qo, rfl, _, hc2⟩ := (hA.on hb) (by rintro rfl; simp at hy)
      have e1 : w6.cell? ⟨pb, po + k, none⟩ = some (.int .i64 (i : Int)) := by have := hc k _ hx 0 _ rfl; simpa using this
      have e2 : w6.cell? ⟨qb, qo + i, none⟩ = some (.bool y) := by have := hc2 i _ hy 0 _ rfl; simpa using this
      have st := Lib.hid (pick_snoc hx hy)
      have km : (k : Int) < (m : Int) := by omega
      have oby : ((pickL b (at_.take k)).length + 1) * 1 ≤ 140737488355328 := by rw [pick_len, List.length_take]; omega
      clear hc hc2 hx hy
      go_wp2_with (at_builtin; refine wpList_snoc (g := w6.heap.size) rfl _ _ 22 rfl w.heap.size 4 i0 _ 1 1 Tryz.underlying22 Hi.out Hz0.out Hz1.out Hz2.out rfl (by decide) _ (pickL b (at_.take k)) y #[.bool y] 4 rfl ow rfl rfl rfl (encB_one _) oby (by decide) sz rfl ?_; intro v5 w5 own5 hb5)
      exact ⟨⟨k + 1, by omega, by go_num, by rw [st.out]; exact own5, hb.trans hb5⟩, by simp [intOf]; omega⟩
    · obtain rfl : k = m := by omega
      have e1 : at_.take k = at_ := by rw [← Hat.out, List.take_length]
      rw [e1] at ow
      clear e1
      go_wp2_with fail
      go_ret
      exact ⟨_, rfl, ow, hb⟩

end Go.Proofs.YtdngehgjbledfaaGreat
