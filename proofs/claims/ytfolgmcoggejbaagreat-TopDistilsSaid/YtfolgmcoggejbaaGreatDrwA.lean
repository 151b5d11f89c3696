/- Contracts of the draws: New, valid, size, Next of the program, Next of the reference. For a state of 64 bits. -/
import Derived.Test.YtfolgmcoggejbaaGreatProg
import Derived.Test.YtfolgmcoggejbaaGreatMade
import Derived.Laws.BitsAllLaws
import Derived.Deep.QuietTactic
import Derived.IntWalk
namespace Go.Proofs.YtfolgmcoggejbaaGreat
open Go.RowKit
set_option linter.unusedVariables false
set_option linter.unusedSimpArgs false

/-- The state behind a draw, and the number that is drawn. -/
def m64 (x : Nat) : Nat := x % 18446744073709551616
def nxS (s : Nat) : Nat := m64 (m64 (s * 4906513781625342421) + 1181783497276652981)
def nxX (s : Nat) : Nat := m64 ((s ^^^ s / 4294967296) * 7809847782465536323)
def nxY (s : Nat) : Nat := nxX (nxS s) ^^^ nxX (nxS s) / 536870912
theorem m64_lt (x : Nat) : m64 x < 2 ^ 64 := Nat.mod_lt _ (by decide)
theorem wrap_m64 (x : Nat) : IntKind.u64.wrap (x : Int) = (m64 x : Int) := by
  unfold m64
  simp [IntKind.wrap, IntKind.bits, IntKind.signed]
/-- What both texts compute, in numbers that have names: m1 the product, s' the state, h its higher half, x1 the exclusive or, x the product, g its part, y the number. -/
theorem nx_parts (s : Nat) : ∃ m1 s' h x1 x g y : Nat, IntKind.u64.wrap ((s : Int) * 4906513781625342421) = (m1 : Int) ∧ IntKind.u64.wrap (4906513781625342421 * (s : Int)) = (m1 : Int) ∧ IntKind.u64.wrap ((m1 : Int) + 1181783497276652981) = (s' : Int) ∧ (s' : Int) / 4294967296 = (h : Int) ∧ bits .xor .u64 (s' : Int) (h : Int) = (x1 : Int) ∧
    IntKind.u64.wrap ((x1 : Int) * 7809847782465536323) = (x : Int) ∧ IntKind.u64.wrap (7809847782465536323 * (x1 : Int)) = (x : Int) ∧ (x : Int) / 536870912 = (g : Int) ∧ bits .xor .u64 (x : Int) (g : Int) = (y : Int) ∧ Hid (s' = nxS s ∧ y = nxY s ∧ y < 2 ^ 64 ∧ s' < 2 ^ 64 ∧ IntKind.u64.wrap (h : Int) = (h : Int) ∧ (s' : Int).tdiv 4294967296 = (h : Int) ∧ IntKind.u64.wrap (g : Int) = (g : Int) ∧ (x : Int).tdiv 536870912 = (g : Int)) := by
  have l1 := m64_lt (s * 4906513781625342421)
  have l2 : nxS s < 2 ^ 64 := m64_lt _
  have l3 : nxX (nxS s) < 2 ^ 64 := m64_lt _
  have d2 : nxS s / 4294967296 < 2 ^ 64 := Nat.lt_of_le_of_lt (Nat.div_le_self _ _) l2
  have d3 : nxX (nxS s) / 536870912 < 2 ^ 64 := Nat.lt_of_le_of_lt (Nat.div_le_self _ _) l3
  refine ⟨m64 (s * 4906513781625342421), nxS s, nxS s / 4294967296, nxS s ^^^ nxS s / 4294967296, nxX (nxS s), nxX (nxS s) / 536870912, nxY s, ?_, ?_, ?_, ?_, ?_, ?_, ?_, ?_, ?_, Lib.hid ⟨rfl, rfl, Nat.xor_lt_two_pow l3 d3, l2, ?_, rfl, ?_, rfl⟩⟩
  · rw [← wrap_m64]; simp
  · rw [← wrap_m64, Int.mul_comm]; simp
  · exact wrap_m64 (m64 (s * 4906513781625342421) + 1181783497276652981)
  · simp
  · exact u64_xor_nat _ _ l2 d2
  · unfold nxX; rw [← wrap_m64]; simp
  · unfold nxX; rw [← wrap_m64, Int.mul_comm]; simp
  · simp
  · exact u64_xor_nat _ _ l3 d3
  · have e : m64 (nxS s / 4294967296) = nxS s / 4294967296 := Nat.mod_eq_of_lt d2
    rw [wrap_m64, e]
  · have e : m64 (nxX (nxS s) / 536870912) = nxX (nxS s) / 536870912 := Nat.mod_eq_of_lt d3
    rw [wrap_m64, e]

set_option maxHeartbeats 400000 in
theorem New_any (s : Nat) (w : World) : Calls Tryz.prog 98 #[.int .u64 s] w fun e w' => e = .returned (.pointer (some ⟨w.heap.size, 0, none⟩)) ∧ w' = w.alloc (.cells #[.int .u64 s, .bool true] 254) := by
  go_enter Tryz.func98, Tryz.ntmps98
  go_wp2
  go_ret
  exact ⟨rfl, rfl⟩
set_option maxHeartbeats 400000 in
theorem dvalid_any (b : Nat) (w : World) (h1 : w.cell? ⟨b, 1, none⟩ = some (.bool true)) : Calls Tryz.prog 191 #[.pointer (some ⟨b, 0, none⟩)] w fun e w' => e = .returned (.bool true) ∧ w = w' := by
  go_enter Tryz.func191, Tryz.ntmps191
  go_wp2
  go_ret
  exact ⟨rfl, rfl⟩
set_option maxRecDepth 100000 in
set_option maxHeartbeats 1000000 in
theorem Next_any (b s : Nat) (w : World) (h0 : w.cell? ⟨b, 0, none⟩ = some (.int .u64 s)) (hf : w.frozen? ⟨b, 0, none⟩ = false) (h1 : w.cell? ⟨b, 1, none⟩ = some (.bool true)) :
    Calls Tryz.prog 141 #[.pointer (some ⟨b, 0, none⟩)] w fun e w' => e = .returned (.int .u64 (nxY s)) ∧ ∃ n, w' = (w.setCell ⟨b, 0, none⟩ (.int .u64 (nxS s))).drewN n := by
  obtain ⟨m1, s', h, x1, x, g, y, a1, _, a3, a4, a5, a6, _, a8, a9, hid⟩ := nx_parts s
  have cV := dvalid_any b w h1
  go_enter Tryz.func141, Tryz.ntmps141
  go_wp2_with (go_at_call 191; refine (cV).mono ?_; rintro e w' ⟨rfl, rfl⟩)
  have z0 : (w.setCell ⟨b, 0, none⟩ (.int .u64 (s' : Int))).cell? ⟨b, 0, none⟩ = some (.int .u64 (s' : Int)) := World.cell?_setCell_same' _ _ _ (by rw [h0]; rfl)
  go_quiet (fail)
  go_wp2
  go_ret
  exact ⟨ret_int (by rw [hid.out.2.1]), _, by rw [hid.out.1]⟩
set_option maxHeartbeats 400000 in
theorem dsize_any (b : Nat) (n : Int) (w : World) (h1 : w.cell? ⟨b, 1, none⟩ = some (.bool true)) (hn : 0 ≤ n ∧ n ≤ 65536) : Calls Tryz.prog 148 #[.pointer (some ⟨b, 0, none⟩), .int .i64 n] w fun e w' => e = .returned (.int .i64 0) ∧ w = w' := by
  have cV := dvalid_any b w h1
  obtain ⟨n0, n1⟩ := hn
  go_enter Tryz.func148, Tryz.ntmps148
  go_wp2_with (go_at_call 191; refine (cV).mono ?_; rintro e w' ⟨rfl, rfl⟩)
  go_ret
  exact ⟨rfl, rfl⟩

/-- All blocks but b lie as they lay. -/
theorem grown_trans {x y z : World} {r : Option Nat} (h : x.grownBy y r) (k : y.grownBy z r) : x.grownBy z r :=
  ⟨k.os.trans h.os, k.tape.trans h.tape, k.output.trans h.output, Nat.le_trans h.size k.size, fun i hi hr => (k.block i (Nat.lt_of_lt_of_le hi h.size) hr).trans (h.block i hi hr)⟩
theorem grown_up {x y : World} {r : Option Nat} (h : x.grownBy y none) : x.grownBy y r := ⟨h.os, h.tape, h.output, h.size, fun i hi _ => h.block i hi (by simp)⟩
theorem grown_drewN (x : World) (n : Nat) (r : Option Nat) : x.grownBy (x.drewN n) r := ⟨rfl, rfl, rfl, Nat.le_refl _, fun _ _ _ => rfl⟩
theorem grown_setCell (x : World) (b o : Nat) (v : Value) : x.grownBy (x.setCell ⟨b, o, none⟩ v) (some b) :=
  ⟨rfl, rfl, rfl, by show x.heap.size ≤ (x.heap.modify _ _).size; rw [Array.size_modify]; exact Nat.le_refl _, fun k _ hk => Below.heap_setCell x ⟨b, o, none⟩ v k (fun e => hk (by rw [e]))⟩

/-- The state behind so many draws; the bits that are drawn. -/
def drwS (s : Nat) : Nat → Nat
  | 0 => s
  | k + 1 => nxS (drwS s k)
def drwB (s k : Nat) : Bool := decide (nxY (drwS s k) % 2 = 1)
def drwL (s n : Nat) : List Bool := (List.range n).map (drwB s)
theorem drwL_len (s n : Nat) : (drwL s n).length = n := by simp [drwL]
theorem drwL_at {s n k : Nat} (h : k < n) : (drwL s n)[k]? = some (drwB s k) := by simp [drwL, h]
theorem drwL_snoc (s n : Nat) : drwL s (n + 1) = drwL s n ++ [drwB s n] := by simp [drwL, List.range_succ]
theorem lo_bit64 {d : Nat} (hd : d < 2 ^ 64) : (bits BinOp.and IntKind.u64 (d : Int) 1 == 1) = decide (d % 2 = 1) := by
  rw [show (1 : Int) = ((1 : Nat) : Int) from rfl, u64_and_nat d 1 hd (by decide), Nat.and_one_is_mod]
  rw [Bool.eq_iff_iff]; simp; omega
theorem nxY_lt (s : Nat) : nxY s < 2 ^ 64 := by
  obtain ⟨m1, s', h, x1, x, g, y, _, _, _, _, _, _, _, _, _, hid⟩ := nx_parts s
  rw [← hid.out.2.1]; exact hid.out.2.2.1

theorem bool_info3 : (Tryz.prog.info? 4).map (fun i => (i.zero, i.size, i.bytes)) = some (some (.bool false), 1, 1) := by kernel_rfl
set_option maxRecDepth 100000 in
set_option maxHeartbeats 2000000 in
theorem dBits_any (b s n : Nat) (w : World) (h0 : w.cell? ⟨b, 0, none⟩ = some (.int .u64 s)) (hf : w.frozen? ⟨b, 0, none⟩ = false) (h1 : w.cell? ⟨b, 1, none⟩ = some (.bool true)) (hn : n ≤ 65536) :
    Calls Tryz.prog 166 #[.pointer (some ⟨b, 0, none⟩), .int .i64 n] w fun e w' => ∃ v, e = .returned (.tuple #[v, .int .i64 0]) ∧ Own w' w.heap.size 4 1 encB v (drwL s n) ∧ w.grownBy w' (some b) ∧ w'.cell? ⟨b, 0, none⟩ = some (.int .u64 (drwS s n)) ∧ w'.frozen? ⟨b, 0, none⟩ = false ∧ w'.cell? ⟨b, 1, none⟩ = some (.bool true) := by
  obtain ⟨i0, hi, hz0, hz1, hz2⟩ := info_parts bool_info3
  have Hi := Lib.hid hi; have Hz0 := Lib.hid hz0; have Hz1 := Lib.hid hz1; have Hz2 := Lib.hid hz2
  clear hi hz0 hz1 hz2
  have cS := dsize_any b n w h1 ⟨by omega, by omega⟩
  have hbl := World.block_lt_of_cell? w _ h0
  simp only at hbl
  go_enter Tryz.func166, Tryz.ntmps166
  go_wp2_with (first
    | (go_at_call 148; refine (cS).mono ?_; rintro e w' ⟨rfl, rfl⟩)
    | (at_make; refine wpList_mk rfl _ _ 22 rfl 4 i0 _ 1 Tryz.underlying22 Hi.out Hz0.out Hz1.out Hz2.out rfl (fun b : Bool => Value.bool b) false rfl _ _ _ _ n rfl rfl rfl rfl (by omega) (by unfold maxLen; omega) ?_; intro w1 own1 hb1))
  have z0 := bel_cell hb1 h0
  have z1 := bel_cell hb1 h1
  have zf := (hb1.frozen (World.block_lt_of_cell? _ _ h0)).trans hf
  have hfl : Hid (fill (drwL s n) false 0 = List.replicate n false) := Lib.hid (by rw [fill_zero, drwL_len])
  go_loopw [19] (fun i wr => ∃ k : Nat, k ≤ n ∧ i = .int .i64 k ∧ Own wr w.heap.size 4 1 (fun x => [Value.bool x]) (.slice (some ⟨w.heap.size, 0, none⟩) n n) (fill (drwL s n) false k) ∧ w.grownBy wr (some b) ∧ wr.cell? ⟨b, 0, none⟩ = some (.int .u64 (drwS s k)) ∧ wr.frozen? ⟨b, 0, none⟩ = false ∧ wr.cell? ⟨b, 1, none⟩ = some (.bool true)) (fun i _ => n - (intOf i).toNat)
  case atStart => exact ⟨0, Nat.zero_le _, rfl, by rw [hfl.out]; exact own1, grown_up (grown_of_below hb1), z0, zf, z1⟩
  case round =>
    clear z0 z1 zf h0 h1 hf
    obtain ⟨k, hk, rfl, ow, gr, z0, zf, z1⟩ := hrel
    rcases Nat.lt_or_ge k n with hlt | hge
    · have cN := Next_any b (drwS s k) wr z0 zf z1
      have lb := lo_bit64 (nxY_lt (drwS s k))
      have hB : Hid (drwB s k = decide (nxY (drwS s k) % 2 = 1)) := Lib.hid rfl
      have hst : Hid (drwS s (k + 1) = nxS (drwS s k)) := Lib.hid rfl
      rw [← hB.out] at lb
      generalize nxY (drwS s k) = y at *
      rw [← hst.out] at cN
      have f0 := ow.at1 (fill_len _ _ (by rw [drwL_len]; omega) |>.trans (drwL_len _ _)) (k := k) (fill_at false (by rw [drwL_len]; exact hlt))
      have f1 := ow.fr1 (fill_len _ _ (by rw [drwL_len]; omega) |>.trans (drwL_len _ _)) k
      have Cn : Calls Tryz.prog 141 #[.pointer (some ⟨b, 0, none⟩)] wr fun e w' => e = .returned (.int .u64 y) ∧ (w'.cell? ⟨w.heap.size, k, none⟩ = some (.bool false) ∧ w'.frozen? ⟨w.heap.size, k, none⟩ = false) ∧ Own w' w.heap.size 4 1 (fun x => [Value.bool x]) (.slice (some ⟨w.heap.size, 0, none⟩) n n) (fill (drwL s n) false k) ∧ w.grownBy w' (some b) ∧ w'.cell? ⟨b, 0, none⟩ = some (.int .u64 (drwS s (k + 1))) ∧ w'.frozen? ⟨b, 0, none⟩ = false ∧ w'.cell? ⟨b, 1, none⟩ = some (.bool true) := by
        refine cN.mono ?_
        rintro e w' ⟨rfl, nn, rfl⟩
        have g1 : wr.grownBy ((wr.setCell ⟨b, 0, none⟩ (.int .u64 (drwS s (k + 1)))).drewN nn) (some b) := grown_trans (grown_setCell wr b 0 _) (grown_drewN _ nn _)
        have hne : some w.heap.size ≠ some b := by simp; omega
        have wlt := World.block_lt_of_cell? wr _ f0
        refine ⟨rfl, ⟨(World.cell?_of_block (g1.block _ wlt hne)).trans f0, (World.frozen?_of_block (g1.block _ wlt hne)).trans f1⟩, ow.keep g1 (.inr hne), grown_trans gr g1, ?_, ?_, ?_⟩
        · exact World.cell?_setCell_same' _ _ _ (by rw [z0]; rfl)
        · exact (World.frozen?_setCell _ _ _ _).trans zf
        · exact (World.cell?_setCell_other _ _ _ _ (by simp)).trans z1
      clear cN z0 zf z1 f0 f1
      go_wp2_with (go_at_call 141; refine Cn.mono ?_; rintro e w2 ⟨rfl, ⟨f0, f1⟩, ow2, gr2, z0, zf, z1⟩)
      have hlen : (fill (drwL s n) false k).length = n := (fill_len _ _ (by rw [drwL_len]; omega)).trans (drwL_len _ _)
      have ow3 := ow2.set1 hlen k (drwB s k)
      rw [fill_set false (drwL_at hlt)] at ow3
      have hnb : b ≠ w.heap.size := by omega
      refine ⟨⟨k + 1, by omega, by go_num, ow3, ⟨gr2.os, gr2.tape, gr2.output, Nat.le_trans gr2.size (grown_setCell w2 w.heap.size k _).size, fun i hi hr => (Below.heap_setCell w2 ⟨w.heap.size, k, none⟩ _ i (by show i ≠ w.heap.size; omega)).trans (gr2.block i hi hr)⟩, ?_, ?_, ?_⟩, by simp [intOf]; omega⟩
      · rw [World.cell?_setCell_other _ _ _ _ (by intro e; injection e with e; exact hnb e.symm)]; exact z0
      · rw [World.frozen?_setCell]; exact zf
      · rw [World.cell?_setCell_other _ _ _ _ (by intro e; injection e with e; exact hnb e.symm)]; exact z1
    · obtain rfl : k = n := by omega
      rw [fill_all _ _ (by rw [drwL_len]; omega)] at ow
      go_wp2
      go_ret2
      exact ⟨_, rfl, ow, gr, z0, zf, z1⟩

end Go.Proofs.YtfolgmcoggejbaaGreat
