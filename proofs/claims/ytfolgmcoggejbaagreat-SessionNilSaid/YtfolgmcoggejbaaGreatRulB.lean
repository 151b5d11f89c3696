/- The rules of a channel: the reference's CheckRule; CheckRules of both packages. -/
import Derived.Test.YtfolgmcoggejbaaGreatRulA
namespace Go.Proofs.YtfolgmcoggejbaaGreat
open Go.RowKit
set_option linter.unusedVariables false
set_option linter.unusedSimpArgs false

def shiftsN (l : List Rul) : Nat := (l.filter fun r => r.k == 3).length
def rulesE (l : List Rul) : Int := if 32 < l.length then 5 else if l.all ruleB = false then 2 else if 1 < shiftsN l then 10 else 0
theorem rules_bad {l : List Rul} (h : ¬ 32 < l.length) {k : Nat} {r : Rul} (hk : l[k]? = some r) (hr : ruleB r = false) : rulesE l = 2 := by
  unfold rulesE
  rw [if_neg h, if_pos]
  rw [List.all_eq_false]
  exact ⟨r, List.mem_of_getElem? hk, by simp [hr]⟩
theorem rules_good {l : List Rul} (h : ¬ 32 < l.length) (ha : (l.take l.length).all ruleB = true) : rulesE l = if 1 < shiftsN l then 10 else 0 := by
  unfold rulesE
  rw [List.take_length] at ha
  rw [if_neg h, if_neg (by simp [ha])]
theorem shifts_step {l : List Rul} {k : Nat} {r : Rul} (hk : l[k]? = some r) : shiftsN (l.take (k + 1)) = shiftsN (l.take k) + (if (r.k == 3) = true then 1 else 0) := by
  unfold shiftsN
  rw [List.take_add_one, hk, List.filter_append, List.length_append]
  cases h : (r.k == 3) <;> simp [h]
theorem all_step {l : List Rul} {k : Nat} {r : Rul} (hk : l[k]? = some r) (ha : (l.take k).all ruleB = true) (hr : ruleB r = true) : (l.take (k + 1)).all ruleB = true := by
  rw [List.take_add_one, hk, List.all_append, ha]
  simp [hr]
theorem shifts_le (l : List Rul) : shiftsN l ≤ l.length := List.length_filter_le _ _
theorem Arr.rul {w w' : World} {B : Nat} {A : Option Addr} {k : Nat} {l : List Rul} (h : Arr 5 Rul.enc w B A l) (hk : k < l.length) (hb : Below B w w') :
    ∃ b off x, A = some ⟨b, off, none⟩ ∧ b < B ∧ Hid (l[k]? = some x) ∧ w'.cell? ⟨b, off + k * 5, none⟩ = some (.int .i64 x.k) ∧ w'.cell? ⟨b, off + k * 5 + 1, none⟩ = some (.int .i64 x.f) ∧
      w'.cell? ⟨b, off + k * 5 + 2, none⟩ = some (.int .i64 x.t) ∧ w'.cell? ⟨b, off + k * 5 + 3, none⟩ = some (.int .i64 x.a) ∧ w'.cell? ⟨b, off + k * 5 + 4, none⟩ = some (.int .i64 x.b) := by
  obtain ⟨b, off, rfl, hbb, hc⟩ := h.get hk hb
  exact ⟨b, off, _, rfl, hbb, Lib.hid (List.getElem?_eq_getElem hk), hc 0 _ rfl, hc 1 _ rfl, hc 2 _ rfl, hc 3 _ rfl, hc 4 _ rfl⟩

set_option maxRecDepth 100000 in
set_option maxHeartbeats 4000000 in
theorem oRules_any (A : Option Addr) (c : Nat) (l : List Rul) (w : World) (hA : Arr 5 Rul.enc w w.heap.size A l) (hl : l.length ≤ 9223372036854775807) :
    Calls Tryz.prog 193 #[.slice A l.length c] w fun e w' => e = .returned (.int .i64 (rulesE l)) ∧ Below w.heap.size w w' := by
  by_cases h32 : 32 < l.length
  · have d1 : decide (32 < (l.length : Int)) = true := by simp; omega
    have e1 : rulesE l = 5 := by unfold rulesE; rw [if_pos h32]
    rw [e1]
    go_enter Tryz.func193, Tryz.ntmps193
    go_wp2
    go_ret
    exact ⟨rfl, Below.refl _ _⟩
  have d1 : decide (32 < (l.length : Int)) = false := by simp; omega
  have cR := fun (r : Rul) w' => oRule_any r w'
  go_enter Tryz.func193, Tryz.ntmps193
  go_wp2_with fail
  go_loopw [3, 12] (fun s i wr => ∃ k n : Nat, k ≤ l.length ∧ n ≤ k ∧ i = .int .i64 k ∧ s = .int .i64 n ∧ Hid ((l.take k).all ruleB = true ∧ shiftsN (l.take k) = n) ∧ Below w.heap.size w wr) (fun _ i _ => l.length + 1 - (intOf i).toNat)
  case atStart => exact ⟨0, 0, Nat.zero_le _, Nat.le_refl _, rfl, rfl, Lib.hid ⟨rfl, rfl⟩, Below.refl _ _⟩
  case round =>
    obtain ⟨k, n, hk, hn, rfl, rfl, inv, hb⟩ := hrel
    obtain ⟨w6, rfl⟩ : ∃ w6, w6 = wr := ⟨_, rfl⟩
    rcases Nat.lt_or_ge k l.length with hlt | hge
    · obtain ⟨b, off, x, rfl, hbb, hx, c0, c1, c2, c3, c4⟩ := hA.rul hlt hb
      have hst := Lib.hid (shifts_step hx.out)
      have cX := fun w' => cR x w'
      unfold Rul.val at cX
      go_wp2_with fail
      refine (cX _).mono ?_
      rintro e w7 ⟨rfl, hb7⟩
      have y0 := bel_cell hb7 (new_cell (j := 0) rfl)
      have q7 := below_trans (below_alloc hb _) hb7
      cases hr : ruleB x
      · have E1 := Lib.hid (rules_bad h32 hx.out hr)
        have e2 : ruleE x = 2 := by unfold ruleE; rw [hr]; rfl
        rw [e2]
        go_wp2_with fail
        go_ret
        exact ⟨ret_int (by rw [E1.out]), q7⟩
      · have e2 : ruleE x = 0 := by unfold ruleE; rw [if_pos hr]
        rw [e2]
        have hal := Lib.hid (all_step hx.out inv.out.1 hr)
        cases h3 : (x.k == 3)
        · have hst2 : Hid (shiftsN (l.take (k + 1)) = n) := Lib.hid (by rw [hst.out, inv.out.2, h3]; rfl)
          clear hst
          go_wp2_with fail
          exact ⟨⟨k + 1, n, by omega, by omega, by go_num, rfl, Lib.hid ⟨hal.out, hst2.out⟩, q7⟩, by simp [intOf]; omega⟩
        · have hst2 : Hid (shiftsN (l.take (k + 1)) = n + 1) := Lib.hid (by rw [hst.out, inv.out.2, h3]; rfl)
          clear hst
          go_wp2_with fail
          exact ⟨⟨k + 1, n + 1, by omega, by omega, by go_num, by go_num, Lib.hid ⟨hal.out, hst2.out⟩, q7⟩, by simp [intOf]; omega⟩
    · have hkl : k = l.length := by omega
      subst hkl
      have fin := Lib.hid (rules_good h32 inv.out.1)
      have hN : Hid (shiftsN l = n) := Lib.hid (by have := inv.out.2; rwa [List.take_length] at this)
      by_cases h1 : 1 < n
      · have d2 : decide (1 < (n : Int)) = true := by simp; omega
        go_wp2_with fail
        go_ret
        exact ⟨ret_int (by rw [fin.out, hN.out, if_pos h1]), hb⟩
      · have d2 : decide (1 < (n : Int)) = false := by simp; omega
        go_wp2_with fail
        go_ret
        exact ⟨ret_int (by rw [fin.out, hN.out, if_neg h1]), hb⟩

end Go.Proofs.YtfolgmcoggejbaaGreat
