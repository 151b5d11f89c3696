/- The agreement of a head and clicks: the program's 'agreement' and the reference's 'score' both compute 'scoreTo'. For at most 4096 pulses and clicks, and a shift from -16 to 16. -/
import Derived.Test.YteoaaphjbggobaaGreatDoorChk
namespace Go.Proofs.YteoaaphjbggobaaGreatDoor
open Go.RowKit
set_option linter.unusedVariables false
set_option linter.unusedSimpArgs false

def ptAt (p : Pls) (q : Clk) : Int := if p.seen = false ∨ singleB q.kind = false ∨ p.basis ≠ q.basis then 0 else if p.bit = decide (q.kind = 2) then 1 else -1
def pt (h : List Pls) (c : List Clk) (s : Int) (k : Nat) : Int := if 0 ≤ (k : Int) + s then (match h[k]?, c[((k : Int) + s).toNat]? with | some p, some q => ptAt p q | _, _ => 0) else 0
def scoreTo (h : List Pls) (c : List Clk) (s : Int) : Nat → Int
  | 0 => 0
  | k + 1 => scoreTo h c s k + pt h c s k
theorem ptAt_bd (p : Pls) (q : Clk) : -1 ≤ ptAt p q ∧ ptAt p q ≤ 1 := by unfold ptAt; split <;> (try split) <;> omega
theorem pt_bd (h : List Pls) (c : List Clk) (s : Int) (k : Nat) : -1 ≤ pt h c s k ∧ pt h c s k ≤ 1 := by
  unfold pt; split
  · split
    · exact ptAt_bd _ _
    · omega
  · omega
theorem scoreTo_bd (h : List Pls) (c : List Clk) (s : Int) : ∀ k : Nat, -(k : Int) ≤ scoreTo h c s k ∧ scoreTo h c s k ≤ k
  | 0 => by simp [scoreTo]
  | k + 1 => by have := scoreTo_bd h c s k; have := pt_bd h c s k; simp only [scoreTo]; omega
theorem sc_none {h : List Pls} {c : List Clk} {s : Int} {k : Nat} (hj : (k : Int) + s < 0 ∨ (c.length : Int) ≤ (k : Int) + s) : scoreTo h c s (k + 1) = scoreTo h c s k := by
  simp only [scoreTo, pt]
  by_cases h0 : 0 ≤ (k : Int) + s
  · rw [if_pos h0, List.getElem?_eq_none (l := c) (by omega)]
    split <;> simp_all
  · rw [if_neg h0]; omega
theorem sc_at {h : List Pls} {c : List Clk} {s : Int} {k j : Nat} {p : Pls} {q : Clk} (hk : h[k]? = some p) (hj : c[j]? = some q) (e : (k : Int) + s = j) : scoreTo h c s (k + 1) = scoreTo h c s k + ptAt p q := by
  simp only [scoreTo, pt]
  rw [if_pos (by omega), e, Int.toNat_natCast, hk, hj]
theorem ptAt_zero {p : Pls} {q : Clk} (h : p.seen = false ∨ singleB q.kind = false ∨ p.basis ≠ q.basis) : ptAt p q = 0 := if_pos h

theorem ptAt_yes {pb : Int} {pbit : Bool} {pc pph qk : Int} (h : singleB qk = true) (e : pbit = (qk == 2)) : ptAt ⟨pb, pbit, pc, pph, true⟩ ⟨pb, qk⟩ = 1 := by
  subst e; simp [ptAt, h]; rfl
theorem ptAt_no {pb : Int} {pbit : Bool} {pc pph qk : Int} (h : singleB qk = true) (e : ¬ pbit = (qk == 2)) : ptAt ⟨pb, pbit, pc, pph, true⟩ ⟨pb, qk⟩ = -1 := by
  have e' : ¬ pbit = decide (qk = 2) := e
  simp [ptAt, h, e']

set_option maxHeartbeats 2000000 in
theorem agreement_any (A : Option Addr) (n : Nat) (h : List Pls) (C : Option Addr) (m : Nat) (c : List Clk) (s : Int) (w : World) (hA : Arr 5 Pls.enc w w.heap.size A h) (hC : Arr 2 Clk.enc w w.heap.size C c)
    (hl : h.length ≤ 4096) (hm : c.length ≤ 4096) (hs1 : -16 ≤ s) (hs2 : s ≤ 16) :
    Calls Tryz.prog 22 #[.slice A h.length n, .slice C c.length m, .int .i64 s] w fun e w' => e = .returned (.int .i64 (scoreTo h c s h.length)) ∧ Below w.heap.size w w' := by
  go_enter Tryz.func22, Tryz.ntmps22
  go_wp2
  go_loopw [6, 12] (fun t i wr => ∃ k : Nat, k ≤ h.length ∧ i = .int .i64 k ∧ t = .int .i64 (scoreTo h c s k) ∧ Below w.heap.size w wr) (fun _ i _ => h.length - (intOf i).toNat)
  case atStart => exact ⟨0, Nat.zero_le _, rfl, rfl, Below.refl _ _⟩
  case round =>
    obtain ⟨k, hk, rfl, rfl, hb⟩ := hrel
    have hbd := scoreTo_bd h c s k
    by_cases hlt : k < h.length
    · obtain ⟨b, off, pb, pbit, pc, pph, ps, rfl, hbb, hp, c0, c1, c2, c3, c4⟩ := hA.pls hlt hb
      by_cases hj0 : (k : Int) + s < 0
      · have hj0' : decide ((k : Int) + s < 0) = true := by simpa using hj0
        go_wp2
        refine wp_region_later (by kernel_rfl) (by kernel_rfl) ?_
        repeat (go_big_quiet_step (fail))
        refine wpQuiet_nil ?_
        rintro w1 ⟨⟨_, hb1⟩, rfl⟩
        go_wp2
        go_roundw
        case rel => exact ⟨k + 1, by omega, by go_num, by rw [sc_none (.inl hj0)], below_trans (below_alloc hb _) hb1⟩
        case measure => simp [intOf]; omega
      · by_cases hj1 : (c.length : Int) ≤ (k : Int) + s
        · have hj0' : decide ((k : Int) + s < 0) = false := by simpa using hj0
          have hj1' : decide ((c.length : Int) ≤ (k : Int) + s) = true := by simpa using hj1
          go_wp2
          refine wp_region_later (by kernel_rfl) (by kernel_rfl) ?_
          repeat (go_big_quiet_step (fail))
          refine wpQuiet_nil ?_
          rintro w1 ⟨⟨_, hb1⟩, rfl⟩
          go_wp2
          go_roundw
          case rel => exact ⟨k + 1, by omega, by go_num, by rw [sc_none (.inr hj1)], below_trans (below_alloc hb _) hb1⟩
          case measure => simp [intOf]; omega
        · obtain ⟨j, hj⟩ : ∃ j : Nat, (k : Int) + s = j := ⟨((k : Int) + s).toNat, by omega⟩
          have hjc : j < c.length := by omega
          obtain ⟨b2, off2, qb, qk, rfl, hbb2, hq, q0, q1⟩ := hC.clk hjc hb
          have Hsc := Lib.hid (sc_at hp.out hq.out hj)
          have Hj := Lib.hid hj
          clear hj hj0 hj1
          have g0 : decide ((j : Int) < 0) = false := by simp
          have g1 : decide (c.length ≤ j) = false := by simp; omega
          obtain ⟨n0, n1, n2, n3, n4⟩ := pls_new wr pb pbit pc pph ps 23
          have r0 := later_alloc q0 (.cells #[.int .i64 pb, .bool pbit, .int .i64 pc, .int .i64 pph, .bool ps] 23)
          have r1 := later_alloc q1 (.cells #[.int .i64 pb, .bool pbit, .int .i64 pc, .int .i64 pph, .bool ps] 23)
          cases ps
          · go_wp2
            rw [Hj.out]
            refine wp_region_later (by kernel_rfl) (by kernel_rfl) ?_
            repeat (go_big_quiet_step (fail))
            refine wpQuiet_nil ?_
            rintro w1 ⟨⟨_, hb1⟩, rfl⟩
            go_wp2
            go_roundw
            case rel => exact ⟨k + 1, by omega, by go_num, by rw [Hsc.out, ptAt_zero (.inl rfl)]; simp, below_trans (below_alloc hb _) hb1⟩
            case measure => simp [intOf]; omega
          · cases hsg : singleB qk
            · have Hs := Lib.hid hsg
              go_wp2
              rw [Hj.out]
              refine wp_region_later (by kernel_rfl) (by kernel_rfl) ?_
              repeat (go_big_quiet_step ((go_at_call 26; exact calls_later (hsg ▸ single_any _ _ _))))
              refine wpQuiet_nil ?_
              rintro w1 ⟨⟨_, hb1⟩, rfl⟩
              go_wp2
              go_roundw
              case rel => exact ⟨k + 1, by omega, by go_num, by rw [Hsc.out, ptAt_zero (.inr (.inl Hs.out))]; simp, below_trans (below_alloc hb _) hb1⟩
              case measure => simp [intOf]; omega
            · have Hs := Lib.hid hsg
              by_cases hbs : pb = qb
              · subst hbs
                go_wp2
                rw [Hj.out]
                refine wp_region_later (by kernel_rfl) (by kernel_rfl) ?_
                repeat (go_big_quiet_step ((go_at_call 26; exact calls_later (hsg ▸ single_any _ _ _))))
                refine wpQuiet_nil ?_
                rintro w1 ⟨⟨_, hb1⟩, rfl⟩
                have e1 := later_cell (w := w1) (n1 ⟨w1, hb1⟩)
                have e2 := later_cell (w := w1) (r1 ⟨w1, hb1⟩)
                clear n0 n1 n2 n3 n4 r0 r1
                go_wp2
                refine wp_region_later (by kernel_rfl) (by kernel_rfl) ?_
                repeat (go_big_quiet_step (fail))
                refine wpQuiet_nil ?_
                rintro w2 ⟨⟨_, hb2⟩, rfl⟩
                go_wp2
                · rename_i hx
                  go_roundw
                  case rel => exact ⟨k + 1, by omega, by go_num, by rw [Hsc.out, ptAt_yes Hs.out (by simpa using hx)], below_trans (below_trans (below_alloc hb _) hb1) hb2⟩
                  case measure => simp [intOf]; omega
                · rename_i hx
                  go_roundw
                  case rel => exact ⟨k + 1, by omega, by go_num, by rw [Hsc.out, ptAt_no Hs.out (by simpa using hx)]; rfl, below_trans (below_trans (below_alloc hb _) hb1) hb2⟩
                  case measure => simp [intOf]; omega
              · have hbs' : (pb != qb) = true := by simpa using hbs
                go_wp2
                rw [Hj.out]
                refine wp_region_later (by kernel_rfl) (by kernel_rfl) ?_
                repeat (go_big_quiet_step ((go_at_call 26; exact calls_later (hsg ▸ single_any _ _ _))))
                refine wpQuiet_nil ?_
                rintro w1 ⟨⟨_, hb1⟩, rfl⟩
                go_wp2
                go_roundw
                case rel => exact ⟨k + 1, by omega, by go_num, by rw [Hsc.out, ptAt_zero (.inr (.inr hbs))]; simp, below_trans (below_alloc hb _) hb1⟩
                case measure => simp [intOf]; omega
    · go_wp2
      go_ret
      obtain rfl : k = h.length := by omega
      exact ⟨rfl, hb⟩

end Go.Proofs.YteoaaphjbggobaaGreatDoor
