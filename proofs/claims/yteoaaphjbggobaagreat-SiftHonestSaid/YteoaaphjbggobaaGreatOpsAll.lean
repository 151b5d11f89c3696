/- The draws of the optics: below, chance, weighed. The boxes of a pulse while it is drawn; what a pulse is. No condition. The draw of a pulse. For a valid arrangement. Plain: what rules do with light, and what is detected. No condition. -/
import Derived.Test.YteoaaphjbggobaaGreatDrwA
import Derived.Test.YteoaaphjbggobaaGreatOptB
import Derived.Test.YteoaaphjbggobaaGreatOptD
import Derived.Test.YteoaaphjbggobaaGreatData
import Derived.Deep.DeepCutAuto
import Derived.Test.YteoaaphjbggobaaGreatRulA
namespace Go.Proofs.YteoaaphjbggobaaGreat
open Go.RowKit
set_option linter.unusedVariables false
set_option linter.unusedSimpArgs false

/-- Draws in a box of their own, in the state s. -/
def DrwAt (w : World) (b s : Nat) : Prop := w.heap[b]? = some (.cells #[.int .u64 s, .bool true] 210 (0, 0))
section
variable {w w' : World} {b s : Nat}
theorem DrwAt.c0 (h : DrwAt w b s) : w.cell? ⟨b, 0, none⟩ = some (.int .u64 s) := cell_of_row _ _ _ _ _ _ h
theorem DrwAt.c1 (h : DrwAt w b s) : w.cell? ⟨b, 1, none⟩ = some (.bool true) := cell_of_row _ _ _ _ _ _ h
theorem DrwAt.fr (h : DrwAt w b s) : w.frozen? ⟨b, 0, none⟩ = false := frozen_of_row _ _ _ _ _ h
theorem DrwAt.lt (h : DrwAt w b s) : b < w.heap.size := (Array.getElem?_eq_some_iff.1 h).1
theorem DrwAt.keep (h : DrwAt w b s) {row : Option Nat} (hg : w.grownBy w' row) (hr : row ≠ some b) : DrwAt w' b s := (hg.block b h.lt (fun e => hr e.symm)).trans h
theorem DrwAt.on (h : DrwAt w b s) (hb : Below w.heap.size w w') : DrwAt w' b s := h.keep (grown_of_below hb) (by simp)
theorem DrwAt.new (w : World) (s : Nat) : DrwAt (w.alloc (.cells #[.int .u64 s, .bool true] 210)) w.heap.size s := heap_alloc_new w _
theorem DrwAt.next (h : DrwAt w b s) (x n : Nat) : DrwAt ((w.setCell ⟨b, 0, none⟩ (.int .u64 x)).drewN n) b x ∧ w.grownBy ((w.setCell ⟨b, 0, none⟩ (.int .u64 x)).drewN n) (some b) :=
  ⟨heap_setCell_same w b 0 _ _ _ h, grown_trans (grown_setCell w b 0 _) (grown_drewN _ n _)⟩
end

theorem arr_kept1 {α : Type} {sz : Nat} {enc : α → List Value} {w w' : World} {A : Option Addr} {l : List α} {row : Option Nat} (h : Arr sz enc w w.heap.size A l) (hg : w.grownBy w' row) (hne : ∀ a, A = some a → some a.block ≠ row) : Arr sz enc w' w'.heap.size A l := fun hl => by
  obtain ⟨b, off, rfl, hbb, hc⟩ := h hl
  exact ⟨b, off, rfl, Nat.lt_of_lt_of_le hbb hg.size, fun i x hx j u hu => hg.cell (hc i x hx j u hu) (hne ⟨b, off, none⟩ rfl)⟩
theorem yN (s n : Nat) (hn : 0 < n) (hn2 : n ≤ 65536) : ∃ r : Nat, (nxY s : Int) % (n : Int) = (r : Int) ∧ (nxY s : Int).tmod (n : Int) = (r : Int) ∧ r = nxY s % n ∧ r < n := ⟨nxY s % n, by simp, by rw [Int.tmod_eq_emod_of_nonneg (by omega)]; simp, rfl, Nat.mod_lt _ hn⟩
set_option maxRecDepth 100000 in
set_option maxHeartbeats 2000000 in
theorem dBelow_any (b s n : Nat) (w : World) (h : DrwAt w b s) (hn : 0 < n) (hn2 : n ≤ 65536) :
    Calls Tryz.prog 165 #[.pointer (some ⟨b, 0, none⟩), .int .i64 n] w fun e w' => e = .returned (.tuple #[.int .i64 ((nxY s % n : Nat) : Int), .int .i64 0]) ∧ DrwAt w' b (nxS s) ∧ w.grownBy w' (some b) := by
  have cV := dvalid_any b w h.c1
  have cN := Next_any b s w h.c0 h.fr h.c1
  obtain ⟨r, h1, h2, h3, hr⟩ := yN s n hn hn2
  have hN := h.next (nxS s)
  have wr : IntKind.u64.wrap (n : Int) = (n : Int) := by
    have := wrap_m64 n
    rw [this]; congr 1; exact Nat.mod_eq_of_lt (by omega)
  have n0 : (n : Int) ≠ 0 := by omega
  have d1 : decide ((n : Int) < 1) = false := by simp; omega
  rw [← h3]
  clear h3
  generalize nxY s = Y at *
  generalize nxS s = S at *
  go_enter Tryz.func165, Tryz.ntmps165
  go_wp2_with (first
    | (go_at_call 151; refine (cV).mono ?_; rintro e w' ⟨rfl, rfl⟩)
    | (go_at_call 153; refine cN.mono ?_; rintro e w1 ⟨rfl, m, hw1⟩))
  go_ret2
  exact ⟨rfl, hN m⟩

set_option maxHeartbeats 2000000 in
theorem obel_any (b s n : Nat) (w : World) (h : DrwAt w b s) (hn : 0 < n) (hn2 : n ≤ 65536) :
    Calls Tryz.prog 149 #[.pointer (some ⟨b, 0, none⟩), .int .i64 n] w fun e w' => e = .returned (.int .i64 ((nxY s % n : Nat) : Int)) ∧ DrwAt w' b (nxS s) ∧ w.grownBy w' (some b) := by
  have c := dBelow_any b s n w h hn hn2
  generalize nxY s % n = r at *
  go_enter Tryz.func149, Tryz.ntmps149
  go_wp2_with (go_at_call 165; refine c.mono ?_; rintro e w1 ⟨rfl, h1⟩)
  go_ret
  exact ⟨rfl, h1⟩
/-- Whether something of this part happens. -/
def chB (s : Nat) (p : Int) : Bool := decide (((nxY s % 256 : Nat) : Int) < p)
set_option maxHeartbeats 2000000 in
theorem chance_any (b s : Nat) (p : Int) (w : World) (h : DrwAt w b s) :
    Calls Tryz.prog 142 #[.pointer (some ⟨b, 0, none⟩), .int .i64 p] w fun e w' => e = .returned (.bool (chB s p)) ∧ DrwAt w' b (nxS s) ∧ w.grownBy w' (some b) := by
  have c := obel_any b s 256 w h (by decide) (by decide)
  unfold chB
  generalize nxY s % 256 = r at *
  go_enter Tryz.func142, Tryz.ntmps142
  go_wp2_with (go_at_call 149; refine c.mono ?_; rintro e w1 ⟨rfl, h1⟩)
  go_ret
  exact ⟨rfl, h1⟩

/-- Where a drawn number lies among weights. -/
def wgh : List Int → Int → Nat
  | [], _ => 0
  | [_], _ => 0
  | n :: m :: l, k => if k < n then 0 else wgh (m :: l) (k - n) + 1
theorem wgh_lt : ∀ (l : List Int) (k : Int), l ≠ [] → wgh l k < l.length
  | [], _, h => (h rfl).elim
  | [_], _, _ => by simp [wgh]
  | n :: m :: l, k, _ => by
    have := wgh_lt (m :: l) (k - n) (by simp)
    unfold wgh
    split <;> simp at this ⊢ <;> omega

theorem wgh_cons {n : Int} {l : List Int} {k : Int} (h : k < n) : wgh (n :: l) k = 0 := by
  cases l with
  | nil => rfl
  | cons m l => unfold wgh; rw [if_pos h]
theorem drop_at {l : List Int} {i : Nat} {n : Int} (h : l[i]? = some n) : l.drop i = n :: l.drop (i + 1) := by
  obtain ⟨hi, rfl⟩ := List.getElem?_eq_some_iff.1 h
  exact List.drop_eq_getElem_cons hi
theorem wgh_here {l : List Int} {i : Nat} {n k K : Int} (h : l[i]? = some n) (inv : wgh l K = i + wgh (l.drop i) k) (hk : k < n) : wgh l K = i := by
  rw [inv, drop_at h, wgh_cons hk]; rfl
theorem wgh_next {l : List Int} {i : Nat} {n k K : Int} (h : l[i]? = some n) (inv : wgh l K = i + wgh (l.drop i) k) (hk : ¬ k < n) (hl : i + 1 < l.length) : wgh l K = (i + 1 : Nat) + wgh (l.drop (i + 1)) (k - n) := by
  rw [inv, drop_at h]
  obtain ⟨m, hm⟩ : ∃ m, l[i + 1]? = some m := ⟨_, List.getElem?_eq_getElem hl⟩
  rw [drop_at hm]
  rw [wgh, if_neg hk]
  omega
theorem wgh_last {l : List Int} {i : Nat} {n k K : Int} (h : l[i]? = some n) (inv : wgh l K = i + wgh (l.drop i) k) (hl : i + 1 = l.length) : wgh l K = i := by
  rw [inv, drop_at h, List.drop_of_length_le (by omega)]; rfl

set_option maxRecDepth 100000 in
set_option maxHeartbeats 4000000 in
theorem weighed_any (b s : Nat) (A : Option Addr) (c : Nat) (l : List Int) (w : World) (h : DrwAt w b s) (hA : Arr 1 encI w w.heap.size A l) (hb : ∀ a, A = some a → a.block ≠ b) (hl : l ≠ []) (hl2 : l.length ≤ 10) (h0 : ∀ x ∈ l, 0 ≤ x ∧ x ≤ 256) :
    Calls Tryz.prog 164 #[.pointer (some ⟨b, 0, none⟩), .slice A l.length c] w fun e w' => e = .returned (.int .i64 ((wgh l ((nxY s % 256 : Nat) : Int) : Nat) : Int)) ∧ DrwAt w' b (nxS s) ∧ w.grownBy w' (some b) := by
  have cB := obel_any b s 256 w h (by decide) (by decide)
  have hr := Nat.mod_lt (nxY s) (show 0 < 256 by decide)
  have hpos : 0 < l.length := List.length_pos_iff.2 hl
  generalize nxY s % 256 = K at *
  generalize nxS s = S at *
  obtain ⟨ab, ao, rfl, hab, _⟩ := hA hl
  have hne := hb _ rfl
  clear h
  go_enter Tryz.func164, Tryz.ntmps164
  go_wp2_with fail
  refine cB.mono ?_
  rintro e w1 ⟨rfl, D1, hg1⟩
  have ar1 : Arr 1 encI w1 w1.heap.size (some ⟨ab, ao, none⟩) l := arr_kept1 hA hg1 (fun a ha => by cases ha; simpa using hne)
  have fin := Lib.hid (And.intro D1 hg1)
  clear hA cB D1 hg1 hb
  go_wp2_with fail
  go_loop [5, 12] (fun kv i => ∃ (j : Nat) (k : Int), j ≤ l.length ∧ i = .int .i64 j ∧ kv = .int .i64 k ∧ 0 ≤ k ∧ k ≤ 256 ∧ Hid ((j < l.length → wgh l K = j + wgh (l.drop j) k) ∧ (j = l.length → wgh l K = l.length - 1))) (fun _ i => l.length + 1 - (intOf i).toNat)
  case atStart => exact ⟨0, K, Nat.zero_le _, rfl, rfl, by omega, by omega, Lib.hid ⟨fun _ => by simp, fun h => by omega⟩⟩
  case round =>
    obtain ⟨j, k, hj, rfl, rfl, hk0, hk1, inv⟩ := hrel
    rcases Nat.lt_or_ge j l.length with hlt | hge
    · obtain ⟨b2, o2, x, hA2, _, hx, cx⟩ := ar1.int hlt (Below.refl _ _)
      cases hA2
      obtain ⟨hx0, hx1⟩ := h0 x (List.mem_of_getElem? hx.out)
      by_cases hc : k < x
      · have d1 : decide (k < x) = true := by simpa using hc
        have hw := Lib.hid (wgh_here hx.out (inv.out.1 hlt) hc)
        go_wp2
        go_ret
        exact ⟨ret_int (by rw [hw.out]), fin.out⟩
      · have d1 : decide (k < x) = false := by simpa using hc
        have hnx : Hid ((j + 1 < l.length → wgh l K = (j + 1 : Nat) + wgh (l.drop (j + 1)) (k - x)) ∧ (j + 1 = l.length → wgh l K = l.length - 1)) := Lib.hid ⟨fun h => wgh_next hx.out (inv.out.1 hlt) hc h, fun h => by rw [wgh_last hx.out (inv.out.1 hlt) h]; omega⟩
        go_wp2
        exact ⟨⟨j + 1, k - x, by omega, by go_num, by go_num, by omega, by omega, hnx⟩, by simp [intOf]; omega⟩
    · have hjl : j = l.length := by omega
      subst hjl
      have hw := Lib.hid (inv.out.2 rfl)
      go_wp2
      go_ret
      exact ⟨ret_int (by rw [hw.out]; omega), fin.out⟩

end Go.Proofs.YteoaaphjbggobaaGreat

namespace Go.Proofs.YteoaaphjbggobaaGreat
open Go.RowKit
set_option linter.unusedVariables false
set_option linter.unusedSimpArgs false

/-- Whether any of n draws happens, and the state behind them. -/
def seenF (eta : Int) (s : Nat) : Nat → Bool × Nat
  | 0 => (false, s)
  | n + 1 => ((seenF eta s n).1 || chB (seenF eta s n).2 eta, nxS (seenF eta s n).2)
def clsF (o : Opt) (s : Nat) : Nat × Nat := if o.k = 1 then (wgh [o.c0, o.c1, o.c2] ((nxY s % 256 : Nat) : Int), nxS s) else (2, s)
def phoF (o : Opt) (c s : Nat) : Nat × Nat := (wgh (rowO o c) ((nxY s % 256 : Nat) : Int), nxS s)
/-- A pulse, and the state behind it. -/
def plsF (o : Opt) (s : Nat) : Pls × Nat :=
  let c := clsF o (nxS (nxS s))
  let p := phoF o c.1 c.2
  let z := if o.k = 2 then seenF o.eta p.2 p.1 else (true, p.2)
  (⟨((nxY s % 2 : Nat) : Int), decide (nxY (nxS s) % 2 = 1), (c.1 : Int), (p.1 : Int), z.1⟩, z.2)

/-- The boxes of a pulse while it is drawn: the arrangement X, the result R, the pulse P. -/
structure PJ (w wi : World) (b s X R P : Nat) (o : Opt) (c0 c1 c2 c3 c4 : Value) : Prop where
  d : DrwAt wi b s
  o_ : OptAt wi X o
  r : wi.heap[R]? = some (.cells #[.int .i64 0, .bool false, .int .i64 0, .int .i64 0, .bool false] 148 (0, 0))
  p : wi.heap[P]? = some (.cells #[c0, c1, c2, c3, c4] 148 (0, 0))
  g : w.grownBy wi (some b)
  lb : b < w.heap.size ∧ w.heap.size ≤ X ∧ X < R ∧ R < P
section
variable {w wi w' : World} {b s s' X R P : Nat} {o : Opt} {c0 c1 c2 c3 c4 : Value}
theorem PJ.lt (h : PJ w wi b s X R P o c0 c1 c2 c3 c4) : P < wi.heap.size := (Array.getElem?_eq_some_iff.1 h.p).1
theorem PJ.step (h : PJ w wi b s X R P o c0 c1 c2 c3 c4) (D : DrwAt w' b s') (hg : wi.grownBy w' (some b)) : PJ w w' b s' X R P o c0 c1 c2 c3 c4 := by
  have h1 := h.lt; have h2 := h.lb
  exact ⟨D, (hg.block _ (by omega) (by simp; omega)).trans h.o_, (hg.block _ (by omega) (by simp; omega)).trans h.r, (hg.block _ (by omega) (by simp; omega)).trans h.p, grown_trans h.g hg, h2⟩
theorem PJ.gset (h : PJ w wi b s X R P o c0 c1 c2 c3 c4) {Y : Nat} (hY : Y = R ∨ Y = P) (j : Nat) (v : Value) (hg0 : w.grownBy w' (some b)) : w.grownBy (w'.setCell ⟨Y, j, none⟩ v) (some b) := by
  have h1 := h.lt; have h2 := h.lb
  have hg := grown_setCell w' Y j v
  exact ⟨hg.os.trans hg0.os, hg.tape.trans hg0.tape, hg.output.trans hg0.output, Nat.le_trans hg0.size hg.size, fun k hk hn => (hg.block k (Nat.lt_of_lt_of_le hk hg0.size) (by simp; rcases hY with rfl | rfl <;> omega)).trans (hg0.block k hk hn)⟩
theorem PJ.set (h : PJ w wi b s X R P o c0 c1 c2 c3 c4) (j : Nat) (v : Value) {d0 d1 d2 d3 d4 : Value} (he : (#[c0, c1, c2, c3, c4] : Array Value).setIfInBounds j v = #[d0, d1, d2, d3, d4]) : PJ w (wi.setCell ⟨P, j, none⟩ v) b s X R P o d0 d1 d2 d3 d4 := by
  have h1 := h.lt; have h2 := h.lb
  have hg := grown_setCell wi P j v
  exact ⟨h.d.keep hg (by simp; omega), (hg.block _ (by omega) (by simp; omega)).trans h.o_, (hg.block _ (by omega) (by simp; omega)).trans h.r, by rw [← he]; exact heap_setCell_same wi _ j _ _ _ h.p, h.gset (.inr rfl) j v h.g, h2⟩
theorem PJ.cell (h : PJ w wi b s X R P o c0 c1 c2 c3 c4) (j : Nat) : wi.cell? ⟨P, j, none⟩ = (#[c0, c1, c2, c3, c4] : Array Value)[j]? := cell_of_row _ _ _ _ _ _ h.p
theorem PJ.fr (h : PJ w wi b s X R P o c0 c1 c2 c3 c4) (j : Nat) : wi.frozen? ⟨P, j, none⟩ = false := frozen_of_row _ _ _ _ _ h.p
theorem PJ.rcell (h : PJ w wi b s X R P o c0 c1 c2 c3 c4) (j : Nat) : wi.cell? ⟨R, j, none⟩ = (#[.int .i64 0, .bool false, .int .i64 0, .int .i64 0, .bool false] : Array Value)[j]? := cell_of_row _ _ _ _ _ _ h.r
theorem PJ.rfr (h : PJ w wi b s X R P o c0 c1 c2 c3 c4) (j : Nat) : wi.frozen? ⟨R, j, none⟩ = false := frozen_of_row _ _ _ _ _ h.r
theorem PJ.fin (h : PJ w wi b s X R P o c0 c1 c2 c3 c4) (v0 v1 v2 v3 v4 : Value) : DrwAt (((((wi.setCell ⟨R, 0, none⟩ v0).setCell ⟨R, 1, none⟩ v1).setCell ⟨R, 2, none⟩ v2).setCell ⟨R, 3, none⟩ v3).setCell ⟨R, 4, none⟩ v4) b s ∧ w.grownBy (((((wi.setCell ⟨R, 0, none⟩ v0).setCell ⟨R, 1, none⟩ v1).setCell ⟨R, 2, none⟩ v2).setCell ⟨R, 3, none⟩ v3).setCell ⟨R, 4, none⟩ v4) (some b) := by
  have h2 := h.lb
  have ne : some R ≠ some b := by simp; omega
  refine ⟨((((h.d.keep (grown_setCell _ R 0 v0) ne).keep (grown_setCell _ R 1 v1) ne).keep (grown_setCell _ R 2 v2) ne).keep (grown_setCell _ R 3 v3) ne).keep (grown_setCell _ R 4 v4) ne, ?_⟩
  exact h.gset (.inl rfl) 4 v4 (h.gset (.inl rfl) 3 v3 (h.gset (.inl rfl) 2 v2 (h.gset (.inl rfl) 1 v1 (h.gset (.inl rfl) 0 v0 h.g))))
theorem PJ.drew (h : PJ w wi b s X R P o c0 c1 c2 c3 c4) : PJ w wi.drew b s X R P o c0 c1 c2 c3 c4 := ⟨h.d, h.o_, h.r, h.p, ⟨h.g.os, h.g.tape, h.g.output, h.g.size, h.g.block⟩, h.lb⟩
theorem PJ.new (w : World) (b s : Nat) (o : Opt) (h : DrwAt w b s) (v0 v1 v2 v3 v4 : Value) : PJ w (((w.alloc (.cells o.cs 68)).alloc (.cells #[.int .i64 0, .bool false, .int .i64 0, .int .i64 0, .bool false] 148)).alloc (.cells #[v0, v1, v2, v3, v4] 148)) b s w.heap.size (w.heap.size + 1) (w.heap.size + 1 + 1) o v0 v1 v2 v3 v4 := by
  have B1 := below_alloc (Below.refl w.heap.size w) (.cells o.cs 68)
  have B2 := below_alloc B1 (.cells #[.int .i64 0, .bool false, .int .i64 0, .int .i64 0, .bool false] 148)
  have B3 := below_alloc B2 (.cells #[v0, v1, v2, v3, v4] 148)
  refine ⟨h.on B3, ?_, ?_, ?_, (grown_of_below B3).but _, ⟨h.lt, Nat.le_refl _, by omega, by omega⟩⟩
  · exact (heap_alloc_old _ _ (by simp; omega)).trans (heap_alloc2_old w _ _)
  · exact (heap_alloc_old _ _ (by simp)).trans (heap_alloc2_new w _ _)
  · have e : ((w.alloc (.cells o.cs 68)).alloc (.cells #[.int .i64 0, .bool false, .int .i64 0, .int .i64 0, .bool false] 148)).heap.size = w.heap.size + 1 + 1 := by simp
    rw [← e]
    exact heap_alloc_new _ _
end

theorem row_arr {w : World} {b : Nat} {o : Opt} (h : OptAt w b o) (c : Nat) (hc : c < 3) : Arr 1 encI w w.heap.size (some ⟨b, 4 + 4 * c, none⟩) (rowO o c) := by
  rcases (show c = 0 ∨ c = 1 ∨ c = 2 by omega) with rfl | rfl | rfl
  · exact box4 h.x4 h.x5 h.x6 h.x7
  · exact box4 h.x8 h.x9 h.x10 h.x11
  · exact box4 h.x12 h.x13 h.x14 h.x15
theorem row_len (o : Opt) (c : Nat) : (rowO o c).length = 4 := by unfold rowO; split <;> rfl
theorem wt_ok {l : List Int} (h : wtB l = true) : ∀ x ∈ l, 0 ≤ x ∧ x ≤ 256 := fun x hx => by
  unfold wtB at h
  rw [Bool.and_eq_true] at h
  have := List.all_eq_true.1 h.1 x hx
  unfold partB at this
  simpa using this
theorem opl_parts {o : Opt} (h : optB o = true) : (0 ≤ o.k ∧ o.k ≤ 2) ∧ wtB [o.c0, o.c1, o.c2] = true ∧ ∀ c, wtB (rowO o c) = true := by
  unfold optB okTo okTo okTo okTo headB at h
  simp only [Bool.and_eq_true, decide_eq_true_eq] at h
  refine ⟨h.1.1.1.1.1, h.1.1.1.1.2.1, fun c => ?_⟩
  match c with
  | 0 => exact h.1.1.1.2
  | 1 => exact h.1.1.2
  | c + 2 => exact h.1.2
theorem row_ok {o : Opt} (h : optB o = true) (c : Nat) : ∀ x ∈ rowO o c, 0 ≤ x ∧ x ≤ 256 := wt_ok ((opl_parts h).2.2 c)
theorem cls_ok {o : Opt} (h : optB o = true) : ∀ x ∈ [o.c0, o.c1, o.c2], 0 ≤ x ∧ x ≤ 256 := wt_ok (opl_parts h).2.1

end Go.Proofs.YteoaaphjbggobaaGreat

namespace Go.Proofs.YteoaaphjbggobaaGreat
open Go.RowKit
set_option linter.unusedVariables false
set_option linter.unusedSimpArgs false

theorem PJ.frow {w wi : World} {b s X R P : Nat} {o : Opt} {c0 c1 c2 c3 c4 : Value} (h : PJ w wi b s X R P o c0 c1 c2 c3 c4) (v0 v1 v2 v3 v4 : Value) : (((((wi.setCell ⟨R, 0, none⟩ v0).setCell ⟨R, 1, none⟩ v1).setCell ⟨R, 2, none⟩ v2).setCell ⟨R, 3, none⟩ v3).setCell ⟨R, 4, none⟩ v4).heap[R]? = some (.cells #[v0, v1, v2, v3, v4] 148 (0, 0)) := by
  have h0 := heap_setCell_same wi R 0 _ _ v0 h.r
  have h1 := heap_setCell_same _ R 1 _ _ v1 h0
  have h2 := heap_setCell_same _ R 2 _ _ v2 h1
  have h3 := heap_setCell_same _ R 3 _ _ v3 h2
  exact heap_setCell_same _ R 4 _ _ _ h3
theorem plsF_of {o : Opt} {s r1 s1 r2 s2 c s4 ph s7 s9 : Nat} {bt z : Bool} (h1 : nxY s % 2 = r1) (h2 : nxS s = s1) (h3 : nxY s1 % 2 = r2) (h4 : nxS s1 = s2) (h5 : ((r2 : Int) == 1) = bt) (h6 : clsF o s2 = (c, s4)) (h7 : wgh (rowO o c) ((nxY s4 % 256 : Nat) : Int) = ph) (h8 : nxS s4 = s7)
    (h9 : (if o.k = 2 then seenF o.eta s7 ph else (true, s7)) = (z, s9)) : plsF o s = (⟨(r1 : Int), bt, (c : Int), (ph : Int), z⟩, s9) := by
  subst h1 h2 h3 h4 h7 h8
  have e5 : decide (nxY (nxS s) % 2 = 1) = bt := by
    rw [← h5, Bool.eq_iff_iff]
    simp
    omega
  unfold plsF phoF
  simp only [h6]
  rw [h9, e5]
theorem pls_size : (Tryz.prog.info? 148).map (·.size) = some 5 := by kernel_rfl

set_option maxRecDepth 100000 in
set_option maxHeartbeats 16000000 in
theorem opulse_any (b s : Nat) (o : Opt) (w : World) (h : DrwAt w b s) (ho : optB o = true) : Calls Tryz.prog 138 #[o.val, .pointer (some ⟨b, 0, none⟩)] w fun e w' =>
    e = .returned (.agg #[.int .i64 (plsF o s).1.basis, .bool (plsF o s).1.bit, .int .i64 (plsF o s).1.cls, .int .i64 (plsF o s).1.ph, .bool (plsF o s).1.seen]) ∧ DrwAt w' b (plsF o s).2 ∧ w.grownBy w' (some b) := by
  obtain ⟨V, hV⟩ : ∃ V, plsF o s = V := ⟨_, rfl⟩
  rw [hV]
  have HV := Lib.hid hV
  clear hV
  unfold Opt.val Opt.cs
  have J0 := PJ.new w b s o h (.int .i64 0) (.bool false) (.int .i64 2) (.int .i64 0) (.bool true)
  unfold Opt.cs at J0
  go_enter Tryz.func138, Tryz.ntmps138
  go_wp2_with fail
  obtain ⟨y0, hy0⟩ : ∃ y, ((w.alloc (.cells #[.int .i64 o.k, .int .i64 o.c0, .int .i64 o.c1, .int .i64 o.c2, .int .i64 o.v0, .int .i64 o.v1, .int .i64 o.v2, .int .i64 o.v3, .int .i64 o.w0, .int .i64 o.w1, .int .i64 o.w2, .int .i64 o.w3, .int .i64 o.s0, .int .i64 o.s1, .int .i64 o.s2, .int .i64 o.s3, .int .i64 o.eta, .int .i64 o.dark] 68)).alloc (.cells #[.int .i64 0, .bool false, .int .i64 0, .int .i64 0, .bool false] 148)).alloc (.cells #[.int .i64 0, .bool false, .int .i64 2, .int .i64 0, .bool true] 148) = y := ⟨_, rfl⟩
  rw [hy0] at J0 ⊢
  clear hy0
  obtain ⟨P, hP⟩ : ∃ P, w.heap.size + 1 + 1 = P := ⟨_, rfl⟩
  rw [hP] at J0 ⊢
  obtain ⟨R, hR⟩ : ∃ R, w.heap.size + 1 = R := ⟨_, rfl⟩
  rw [hR] at J0 ⊢
  obtain ⟨X, hX⟩ : ∃ X, w.heap.size = X := ⟨_, rfl⟩
  rw [hX] at J0 ⊢
  clear hP hR hX
  refine (obel_any b s 2 _ J0.d (by decide) (by decide)).mono ?_
  rintro e w1 ⟨rfl, D1, g1⟩
  have J1 := J0.step D1 g1
  have k1 : w1.cell? ⟨P, 0, none⟩ = some (.int .i64 0) := J1.cell 0
  have f1 := J1.fr 0
  clear J0 D1 g1
  obtain ⟨r1, hr1⟩ : ∃ r, nxY s % 2 = r := ⟨_, rfl⟩
  obtain ⟨s1, hs1⟩ : ∃ r, nxS s = r := ⟨_, rfl⟩
  rw [hr1]
  rw [hs1] at J1
  have HR1 := Lib.hid hr1; have HS1 := Lib.hid hs1
  clear hr1 hs1
  go_wp2_with fail
  have J2 := J1.set 0 (.int .i64 r1) rfl
  obtain ⟨y2, hy2⟩ : ∃ y, w1.setCell ⟨P, 0, none⟩ (.int .i64 r1) = y := ⟨_, rfl⟩
  rw [hy2] at J2 ⊢
  clear hy2 J1 k1 f1
  refine (obel_any b s1 2 _ J2.d (by decide) (by decide)).mono ?_
  rintro e w3 ⟨rfl, D3, g3⟩
  have J3 := J2.step D3 g3
  have k3 : w3.cell? ⟨P, 1, none⟩ = some (.bool false) := J3.cell 1
  have f3 := J3.fr 1
  have o3 := J3.o_.x0
  clear J2 D3 g3
  obtain ⟨r2, hr2⟩ : ∃ r, nxY s1 % 2 = r := ⟨_, rfl⟩
  obtain ⟨s2, hs2⟩ : ∃ r, nxS s1 = r := ⟨_, rfl⟩
  rw [hr2]
  rw [hs2] at J3
  have HR2 := Lib.hid hr2; have HS2 := Lib.hid hs2
  clear hr2 hs2
  obtain ⟨bt, hbt⟩ : ∃ bt, ((r2 : Int) == 1) = bt := ⟨_, rfl⟩
  have HB := Lib.hid hbt
  clear hbt
  have hbt2 : ((r2 : Int) == 1) = bt := HB.out
  go_upto_region 4 with fail
  clear hbt2
  have J4 := J3.set 1 (.bool bt) rfl
  obtain ⟨y4, hy4⟩ : ∃ y, w3.setCell ⟨P, 1, none⟩ (.bool bt) = y := ⟨_, rfl⟩
  rw [hy4] at J4 ⊢
  clear hy4 J3 k3 f3 o3
  have o4 := J4.o_.x0
  have k4 : y4.cell? ⟨P, 2, none⟩ = some (.int .i64 2) := J4.cell 2
  have f4 := J4.fr 2
  obtain ⟨⟨hk0, hk2⟩, _, _⟩ := opl_parts ho
  go_upto_if 17 with fail
  go_cut [] (fun wx => ∃ c s4 : Nat, Hid (clsF o s2 = (c, s4)) ∧ c < 3 ∧ PJ w wx b s4 X R P o (.int .i64 r1) (.bool bt) (.int .i64 c) (.int .i64 0) (.bool true))
  case first =>
    cases hk : (o.k == 1)
    · have hcl : Hid (clsF o s2 = (2, s2)) := Lib.hid (by unfold clsF; rw [if_neg (by simpa using hk)])
      go_wp2_with fail
      go_meet
      case rel => exact ⟨2, s2, hcl, by decide, J4⟩
    · have aC := box3 J4.o_.x1 J4.o_.x2 J4.o_.x3
      have cW := weighed_any b s2 (some ⟨X, 1, none⟩) 3 _ y4 J4.d aC (fun a ha => by cases ha; have := J4.lb; simp; omega) (by simp) (by simp) (cls_ok ho)
      have hcl : Hid (clsF o s2 = (wgh [o.c0, o.c1, o.c2] ((nxY s2 % 256 : Nat) : Int), nxS s2)) := Lib.hid (by unfold clsF; rw [if_pos (by simpa using hk)])
      have hlt : wgh [o.c0, o.c1, o.c2] ((nxY s2 % 256 : Nat) : Int) < 3 := wgh_lt _ _ (by simp)
      generalize wgh [o.c0, o.c1, o.c2] ((nxY s2 % 256 : Nat) : Int) = c at *
      clear o4 k4 f4
      go_wp2_with fail
      refine cW.mono ?_
      rintro e w5 ⟨rfl, D5, g5⟩
      have J5 := J4.step D5 g5
      have k5 : w5.cell? ⟨P, 2, none⟩ = some (.int .i64 2) := J5.cell 2
      have f5 := J5.fr 2
      have J6 := J5.set 2 (.int .i64 c) rfl
      clear J4 J5 cW D5 g5
      go_wp2_with fail
      go_meet
      case rel => exact ⟨c, nxS s2, hcl, hlt, J6⟩
  case rest =>
    clear o4 k4 f4 J4 y4
    obtain ⟨c, s4, hcl, hc3, J4⟩ := hcut
    have hcc : (0 : Int) ≤ (c : Int) ∧ (c : Int) < 3 := by omega
    have hci : (c : Int).toNat = c := by simp
    have k4 : wc.cell? ⟨P, 2, none⟩ = some (.int .i64 c) := J4.cell 2
    have cW := weighed_any b s4 (some ⟨X, 4 + 4 * c, none⟩) 4 (rowO o c) wc J4.d (row_arr J4.o_ c hc3) (fun a ha => by cases ha; have := J4.lb; simp; omega) (by intro h; have := row_len o c; rw [h] at this; cases this) (by rw [row_len]; decide) (row_ok ho c)
    rw [row_len, Nat.mul_comm 4 c] at cW
    have hlt : wgh (rowO o c) ((nxY s4 % 256 : Nat) : Int) < 4 := by rw [← row_len o c]; exact wgh_lt _ _ (by intro h; have := row_len o c; rw [h] at this; cases this)
    obtain ⟨ph, hph⟩ : ∃ r, wgh (rowO o c) ((nxY s4 % 256 : Nat) : Int) = r := ⟨_, rfl⟩
    obtain ⟨s7, hs7⟩ : ∃ r, nxS s4 = r := ⟨_, rfl⟩
    rw [hph, hs7] at cW
    rw [hph] at hlt
    have HPH := Lib.hid hph; have HS7 := Lib.hid hs7
    clear hph hs7
    go_wp2_with fail
    refine cW.mono ?_
    rintro e w7 ⟨rfl, D7, g7⟩
    have J7 := J4.step D7 g7
    have k7 : w7.cell? ⟨P, 3, none⟩ = some (.int .i64 0) := J7.cell 3
    have f7 := J7.fr 3
    have o7 := J7.o_.x0
    clear J4 cW D7 g7 k4
    go_upto_region 7 with fail
    have J8 := J7.set 3 (.int .i64 ph) rfl
    obtain ⟨y8, hy8⟩ : ∃ y, w7.setCell ⟨P, 3, none⟩ (.int .i64 ph) = y := ⟨_, rfl⟩
    rw [hy8] at J8 ⊢
    clear hy8 J7 k7 f7 o7
    have o8 := J8.o_.x0
    have k8 : y8.cell? ⟨P, 4, none⟩ = some (.bool true) := J8.cell 4
    have f8 := J8.fr 4
    have l8 : y8.cell? ⟨P, 3, none⟩ = some (.int .i64 ph) := J8.cell 3
    go_upto_if 33 with fail
    go_cut [] (fun wx => ∃ (z : Bool) (s9 : Nat), Hid ((if o.k = 2 then seenF o.eta s7 ph else (true, s7)) = (z, s9)) ∧ PJ w wx b s9 X R P o (.int .i64 r1) (.bool bt) (.int .i64 c) (.int .i64 ph) (.bool z))
    case first =>
      cases hk : (o.k == 2)
      · have hsn : Hid ((if o.k = 2 then seenF o.eta s7 ph else (true, s7)) = (true, s7)) := Lib.hid (if_neg (by simpa using hk))
        go_wp2_with fail
        go_meet
        case rel => exact ⟨true, s7, hsn, J8⟩
      · have hsn : Hid ((if o.k = 2 then seenF o.eta s7 ph else (true, s7)) = seenF o.eta s7 ph) := Lib.hid (if_pos (by simpa using hk))
        go_upto_region 9 with fail
        have J9 := J8.set 4 (.bool false) rfl
        obtain ⟨y9, hy9⟩ : ∃ y, y8.setCell ⟨P, 4, none⟩ (.bool false) = y := ⟨_, rfl⟩
        rw [hy9] at J9 ⊢
        clear hy9 J8 k8 f8 l8 o8
        have l9 : y9.cell? ⟨P, 3, none⟩ = some (.int .i64 ph) := J9.cell 3
        go_wp2_with fail
        go_loopw [6, 37] (fun t i wr => ∃ (j : Nat) (u : Value) (z : Bool) (s9 : Nat), t = u ∧ i = .int .i64 j ∧ j ≤ ph ∧ Hid (seenF o.eta s7 j = (z, s9)) ∧ PJ w wr b s9 X R P o (.int .i64 r1) (.bool bt) (.int .i64 c) (.int .i64 ph) (.bool z)) (fun _ i _ => ph - (intOf i).toNat)
        case atStart => exact ⟨0, _, false, s7, rfl, rfl, Nat.zero_le _, Lib.hid rfl, J9⟩
        case round =>
          clear J9 l9
          obtain ⟨j, u, z, s9, rfl, rfl, hj, hz, J⟩ := hrel
          rcases Nat.lt_or_ge j ph with hjl | hge
          · have cC := chance_any b s9 o.eta wr J.d
            have cx := J.o_.x16
            have hz2 : Hid (seenF o.eta s7 (j + 1) = (z || chB s9 o.eta, nxS s9)) := Lib.hid (by rw [seenF, hz.out])
            obtain ⟨q, hq⟩ : ∃ q, chB s9 o.eta = q := ⟨_, rfl⟩
            rw [hq] at cC hz2
            clear hq
            go_wp2_with fail
            refine cC.mono ?_
            rintro e w10 ⟨rfl, D10, g10⟩
            have J10 := J.step D10 g10
            have k10 : w10.cell? ⟨P, 4, none⟩ = some (.bool z) := J10.cell 4
            have f10 := J10.fr 4
            have J11 := J10.set 4 (.bool (z || q)) rfl
            have l10 : w10.cell? ⟨P, 3, none⟩ = some (.int .i64 ph) := J10.cell 3
            clear J J10 cC cx D10 g10
            cases z <;> cases q
            all_goals (
              go_wp2_with fail
              exact ⟨⟨j + 1, _, _, nxS s9, rfl, by go_num, by omega, hz2, J11⟩, by simp [intOf]; omega⟩)
          · obtain rfl : j = ph := by omega
            go_wp2_with fail
            go_meet
            case rel => exact ⟨z, s9, Lib.hid (hsn.out.trans hz.out), J⟩
    case rest =>
      clear k8 f8 l8 o8 J8 y8
      obtain ⟨z, s9, hz, J⟩ := hcut
      have z0 : wc.cell? ⟨P, 0, none⟩ = some (.int .i64 r1) := J.cell 0
      have z1 : wc.cell? ⟨P, 1, none⟩ = some (.bool bt) := J.cell 1
      have z2 : wc.cell? ⟨P, 2, none⟩ = some (.int .i64 c) := J.cell 2
      have z3 : wc.cell? ⟨P, 3, none⟩ = some (.int .i64 ph) := J.cell 3
      have z4 : wc.cell? ⟨P, 4, none⟩ = some (.bool z) := J.cell 4
      have q0 : wc.cell? ⟨R, 0, none⟩ = some (.int .i64 0) := J.rcell 0
      have q1 : wc.cell? ⟨R, 1, none⟩ = some (.bool false) := J.rcell 1
      have q2 : wc.cell? ⟨R, 2, none⟩ = some (.int .i64 0) := J.rcell 2
      have q3 : wc.cell? ⟨R, 3, none⟩ = some (.int .i64 0) := J.rcell 3
      have q4 : wc.cell? ⟨R, 4, none⟩ = some (.bool false) := J.rcell 4
      have f0 := J.rfr 0; have f1 := J.rfr 1; have f2 := J.rfr 2; have f3 := J.rfr 3; have f4 := J.rfr 4
      have JR := J.frow (.int .i64 r1) (.bool bt) (.int .i64 c) (.int .i64 ph) (.bool z)
      have JF := J.fin (.int .i64 r1) (.bool bt) (.int .i64 c) (.int .i64 ph) (.bool z)
      clear J
      go_wp2_with fail
      have hv : Hid (plsF o s = (⟨(r1 : Int), bt, (c : Int), (ph : Int), z⟩, s9)) := Lib.hid (plsF_of HR1.out HS1.out HR2.out HS2.out HB.out hcl.out HPH.out HS7.out hz.out)
      (try simp only [Exit.inBlock, Exit.then])
      have hW := HV.out.symm.trans hv.out
      subst hW
      refine bodyPost_ret (v := .agg #[.int .i64 r1, .bool bt, .int .i64 c, .int .i64 ph, .bool z]) ?_ rfl ⟨rfl, JF.1, JF.2⟩
      exact results_cell_row rfl _ _ R _ _ _ _ rfl JR Tryz.underlying148 rfl pls_size

end Go.Proofs.YteoaaphjbggobaaGreat

namespace Go.Proofs.YteoaaphjbggobaaGreat
open Go.RowKit
set_option linter.unusedVariables false
set_option linter.unusedSimpArgs false

/-- Light: photons, basis, bit, whether it is bright. -/
structure Lgt where
  ph : Nat
  basis : Int
  bit : Bool
  br : Bool
def Lgt.enc (x : Lgt) : List Value := [.int .i64 x.ph, .int .i64 x.basis, .bool x.bit, .bool x.br]
theorem Lgt.enc_len (x : Lgt) : x.enc.length = 4 := rfl
def Lgt.ok (x : Lgt) : Bool := betwB x.basis 0 1 && decide (x.ph ≤ 3)
def lgt0 : Lgt := ⟨0, 0, false, false⟩

/-- How many of n draws happen, and the state behind them. -/
def lossN (a : Int) (s : Nat) : Nat → Nat × Nat
  | 0 => (0, s)
  | n + 1 => ((lossN a s n).1 + (if chB (lossN a s n).2 a = true then 1 else 0), nxS (lossN a s n).2)
theorem lossN_le (a : Int) (s : Nat) : ∀ n, (lossN a s n).1 ≤ n
  | 0 => Nat.le_refl _
  | n + 1 => by have := lossN_le a s n; rw [lossN]; simp only; split <;> omega
/-- What measuring and sending again makes of light with photons, behind the draw that says that it happens. -/
def rsnX (i : Nat) (x : Lgt) (s : Nat) : Lgt × Nat × List Nte :=
  let b : Int := ((nxY s % 2 : Nat) : Int)
  let t : Bool × Nat := if b = x.basis then (x.bit, nxS s) else (decide (nxY (nxS s) % 2 = 1), nxS (nxS s))
  (⟨1, b, t.1, false⟩, t.2, [⟨i, 1, b, t.1⟩])
/-- What a rule does with the light of slot i. -/
def actX (r : Rul) (i : Nat) (x : Lgt) (s : Nat) : Lgt × Nat × List Nte :=
  if r.k = 7 then (⟨0, r.a, decide (r.b = 1), true⟩, s, [⟨i, 3, r.a, decide (r.b = 1)⟩])
  else if x.br = true then (x, s, [])
  else if r.k = 1 then (⟨x.ph - (lossN r.a s x.ph).1, x.basis, x.bit, false⟩, (lossN r.a s x.ph).2, [])
  else if r.k = 2 then (if 0 < x.ph then (⟨x.ph, x.basis, x.bit != chB s r.a, false⟩, nxS s, []) else (x, s, []))
  else if r.k = 6 then (if x.ph = 1 then (⟨if chB s r.a = true then 0 else 1, x.basis, x.bit, false⟩, nxS s, []) else (x, s, []))
  else if r.k = 5 then (if 2 ≤ x.ph then (⟨x.ph - 1, x.basis, x.bit, false⟩, s, [⟨i, 2, x.basis, x.bit⟩]) else (x, s, []))
  else if r.k = 4 then (if x.ph = 0 then (x, s, []) else if chB s r.a = true then rsnX i x (nxS s) else (x, nxS s, []))
  else (x, s, [])
def onB (r : Rul) (i : Nat) : Bool := decide (r.k < 4) || (decide (r.f ≤ (i : Int)) && decide ((i : Int) ≤ r.t))
def stpX (r : Rul) (i : Nat) (z : Lgt × Nat × List Nte) : Lgt × Nat × List Nte :=
  if onB r i = true then ((actX r i z.1 z.2.1).1, (actX r i z.1 z.2.1).2.1, z.2.2 ++ (actX r i z.1 z.2.1).2.2) else z
def rulX (l : List Rul) (i : Nat) (z : Lgt × Nat × List Nte) (k : Nat) : Lgt × Nat × List Nte := (l.take k).foldl (fun z r => stpX r i z) z
def outX (x : Lgt) : Lgt := if 0 < x.ph ∨ x.br = true then x else lgt0
def plsX (p : Pls) : Lgt := ⟨p.ph.toNat, p.basis, p.bit, false⟩
/-- What arrives of the first k pulses, the state, the notes. -/
def carX (l : List Rul) (p : List Pls) (s : Nat) : Nat → List Lgt × Nat × List Nte
  | 0 => ([], s, [])
  | k + 1 => match p[k]? with
    | none => carX l p s k
    | some x =>
      let z := rulX l k (plsX x, (carX l p s k).2.1, (carX l p s k).2.2) l.length
      ((carX l p s k).1 ++ [outX z.1], z.2.1, z.2.2)

/-- Which detectors fire for n photons: both, and the state. -/
def firX (eta : Int) (same bit : Bool) (s : Nat) : Nat → Bool × Bool × Nat
  | 0 => (false, false, s)
  | n + 1 =>
    let z := firX eta same bit s n
    if chB z.2.2 eta = true then
      if same = true then (z.1 || !bit, z.2.1 || bit, nxS z.2.2)
      else (z.1 || decide (nxY (nxS z.2.2) % 2 = 0), z.2.1 || decide (nxY (nxS z.2.2) % 2 = 1), nxS (nxS z.2.2))
    else (z.1, z.2.1, nxS z.2.2)
def kindX (a b : Bool) : Int := (if a = true then 1 else 0) + (if b = true then 2 else 0)
/-- The click of a slot, and the state behind it. -/
def clkX (eta dark : Int) (x : Lgt) (s : Nat) : Clk × Nat :=
  let b : Int := ((nxY s % 2 : Nat) : Int)
  if x.br = true then (⟨b, if b = x.basis then (if x.bit = true then 2 else 1) else 0⟩, nxS s)
  else
    let z := firX eta (decide (b = x.basis)) x.bit (nxS s) x.ph
    (⟨b, kindX (z.1 || chB z.2.2 dark) (z.2.1 || chB (nxS z.2.2) dark)⟩, nxS (nxS z.2.2))
/-- The light that arrives in the receiver's slot j. -/
def lgtAt (l : List Lgt) (sh : Int) (j : Nat) : Lgt := if 0 ≤ (j : Int) - sh then (l[((j : Int) - sh).toNat]?).getD lgt0 else lgt0
def detX (eta dark : Int) (l : List Lgt) (sh : Int) (s : Nat) : Nat → List Clk × Nat
  | 0 => ([], s)
  | k + 1 => let z := clkX eta dark (lgtAt l sh k) (detX eta dark l sh s k).2
    ((detX eta dark l sh s k).1 ++ [z.1], z.2)
/-- The first n pulses of a seed, and the state behind them. -/
def emX (o : Opt) (s : Nat) : Nat → List Pls × Nat
  | 0 => ([], s)
  | k + 1 => ((emX o s k).1 ++ [(plsF o (emX o s k).2).1], (plsF o (emX o s k).2).2)
def shfX : List Rul → Int
  | [] => 0
  | r :: l => if r.k = 3 then r.a * (1 - 2 * r.b) else shfX l

theorem emX_len (o : Opt) (s : Nat) : ∀ n, (emX o s n).1.length = n
  | 0 => rfl
  | n + 1 => by rw [emX]; simp [emX_len o s n]
theorem detX_len (eta dark : Int) (l : List Lgt) (sh : Int) (s : Nat) : ∀ n, (detX eta dark l sh s n).1.length = n
  | 0 => rfl
  | n + 1 => by rw [detX]; simp [detX_len eta dark l sh s n]
theorem carX_len (l : List Rul) (p : List Pls) (s : Nat) : ∀ n, n ≤ p.length → (carX l p s n).1.length = n
  | 0, _ => rfl
  | n + 1, h => by
    rw [carX, List.getElem?_eq_getElem (by omega)]
    simp [carX_len l p s n (by omega)]

theorem plsF_ok (o : Opt) (s : Nat) : (plsF o s).1.ok = true := by
  have h2 := Nat.mod_lt (nxY s) (show 0 < 2 by decide)
  have hc : (clsF o (nxS (nxS s))).1 < 3 := by
    unfold clsF
    split
    · exact wgh_lt _ _ (by simp)
    · exact (by decide : (2 : Nat) < 3)
  have hp : (phoF o (clsF o (nxS (nxS s))).1 (clsF o (nxS (nxS s))).2).1 < 4 := by
    unfold phoF
    rw [← row_len o (clsF o (nxS (nxS s))).1]
    exact wgh_lt _ _ (by intro h; have := row_len o (clsF o (nxS (nxS s))).1; rw [h] at this; cases this)
  unfold Pls.ok plsF
  simp only [betwB, Bool.and_eq_true, decide_eq_true_eq]
  omega
theorem emX_ok (o : Opt) (s : Nat) : ∀ n, (emX o s n).1.all Pls.ok = true
  | 0 => rfl
  | n + 1 => by rw [emX, List.all_append, emX_ok o s n]; simp [plsF_ok]
theorem kindX_ok (a b : Bool) : 0 ≤ kindX a b ∧ kindX a b ≤ 3 := by cases a <;> cases b <;> decide
theorem clkX_ok (eta dark : Int) (x : Lgt) (s : Nat) : (clkX eta dark x s).1.ok = true := by
  have h2 := Nat.mod_lt (nxY s) (show 0 < 2 by decide)
  unfold clkX
  simp only
  split
  · unfold Clk.ok betwB
    simp only [Bool.and_eq_true, decide_eq_true_eq]
    refine ⟨by omega, ?_⟩
    split
    · split <;> omega
    · omega
  · unfold Clk.ok betwB
    simp only [Bool.and_eq_true, decide_eq_true_eq]
    exact ⟨by omega, kindX_ok _ _⟩
theorem detX_ok (eta dark : Int) (l : List Lgt) (sh : Int) (s : Nat) : ∀ n, (detX eta dark l sh s n).1.all Clk.ok = true
  | 0 => rfl
  | n + 1 => by rw [detX, List.all_append, detX_ok eta dark l sh s n]; simp [clkX_ok]
theorem lossX_ok (x : Lgt) (a : Int) (s : Nat) (h : x.ph ≤ 3) : x.ph - (lossN a s x.ph).1 ≤ 3 := by omega

theorem bit_bw (n : Nat) : betwB ((n % 2 : Nat) : Int) 0 1 = true := by
  have := Nat.mod_lt n (show 0 < 2 by decide)
  simp [betwB]; omega
theorem actX_ok (r : Rul) (i : Nat) (x : Lgt) (s : Nat) (hr : ruleB r = true) (hx : x.ok = true) : (actX r i x s).1.ok = true := by
  have hx2 : betwB x.basis 0 1 = true ∧ x.ph ≤ 3 := by
    unfold Lgt.ok at hx
    rw [Bool.and_eq_true] at hx
    exact ⟨hx.1, by simpa using hx.2⟩
  have mk : ∀ (ph : Nat) (b : Int) (t u : Bool), betwB b 0 1 = true → ph ≤ 3 → Lgt.ok ⟨ph, b, t, u⟩ = true := fun ph b t u h1 h2 => by
    unfold Lgt.ok; rw [Bool.and_eq_true]; exact ⟨h1, by simpa using h2⟩
  unfold actX
  by_cases h7 : r.k = 7
  · rw [if_pos h7]
    refine mk _ _ _ _ ?_ (by omega)
    unfold ruleB at hr
    rw [if_neg (by omega), if_neg (by omega), if_neg (by omega), if_neg (by omega), if_pos h7] at hr
    simp only [Bool.and_eq_true, bitB, Bool.or_eq_true, beq_iff_eq] at hr
    have := hr.1.2
    simp [betwB]; omega
  rw [if_neg h7]
  by_cases hb : x.br = true
  · rw [if_pos hb]; exact hx
  rw [if_neg hb]
  by_cases h1 : r.k = 1
  · rw [if_pos h1]; exact mk _ _ _ _ hx2.1 (by omega)
  rw [if_neg h1]
  by_cases h2 : r.k = 2
  · rw [if_pos h2]; split
    · exact mk _ _ _ _ hx2.1 hx2.2
    · exact hx
  rw [if_neg h2]
  by_cases h6 : r.k = 6
  · rw [if_pos h6]; split
    · refine mk _ _ _ _ hx2.1 ?_; split <;> omega
    · exact hx
  rw [if_neg h6]
  by_cases h5 : r.k = 5
  · rw [if_pos h5]; split
    · exact mk _ _ _ _ hx2.1 (by omega)
    · exact hx
  rw [if_neg h5]
  by_cases h4 : r.k = 4
  · rw [if_pos h4]; split
    · exact hx
    · split
      · unfold rsnX; exact mk _ _ _ _ (bit_bw _) (by omega)
      · exact hx
  rw [if_neg h4]; exact hx
theorem rulX_ok (l : List Rul) (hl : l.all ruleB = true) (i : Nat) (z : Lgt × Nat × List Nte) (hz : z.1.ok = true) : ∀ k, (rulX l i z k).1.ok = true
  | 0 => by simpa [rulX] using hz
  | k + 1 => by
    have ih := rulX_ok l hl i z hz k
    unfold rulX at ih ⊢
    rw [List.take_add_one, List.foldl_append]
    cases h : l[k]? with
    | none => simpa using ih
    | some r =>
      simp only [Option.toList, List.foldl_cons, List.foldl_nil]
      unfold stpX
      split
      · exact actX_ok r i _ _ (List.all_eq_true.1 hl r (List.mem_of_getElem? h)) ih
      · exact ih
theorem rulX_snoc {l : List Rul} {k : Nat} {r : Rul} (i : Nat) (z : Lgt × Nat × List Nte) (h : l[k]? = some r) : rulX l i z (k + 1) = stpX r i (rulX l i z k) := by
  unfold rulX
  rw [List.take_add_one, List.foldl_append, h]; rfl
theorem plsX_ok {p : Pls} (h : p.ok = true) : (plsX p).ok = true := by
  unfold Pls.ok at h
  unfold Lgt.ok plsX
  simp only [betwB, Bool.and_eq_true, decide_eq_true_eq] at h ⊢
  omega
theorem outX_ok {x : Lgt} (h : x.ok = true) : (outX x).ok = true := by
  unfold outX; split
  · exact h
  · rfl
theorem carX_ok (l : List Rul) (hl : l.all ruleB = true) (p : List Pls) (hp : p.all Pls.ok = true) (s : Nat) : ∀ n, (carX l p s n).1.all Lgt.ok = true
  | 0 => rfl
  | n + 1 => by
    rw [carX]
    cases h : p[n]? with
    | none => exact carX_ok l hl p hp s n
    | some x =>
      simp only
      rw [List.all_append, carX_ok l hl p hp s n]
      simp only [List.all_cons, List.all_nil, Bool.and_true, Bool.true_and]
      exact outX_ok (rulX_ok l hl n _ (plsX_ok (List.all_eq_true.1 hp x (List.mem_of_getElem? h))) _)
theorem carX_snoc {l : List Rul} {p : List Pls} {s k : Nat} {x : Pls} (h : p[k]? = some x) : carX l p s (k + 1) =
    ((carX l p s k).1 ++ [outX (rulX l k (plsX x, (carX l p s k).2.1, (carX l p s k).2.2) l.length).1], (rulX l k (plsX x, (carX l p s k).2.1, (carX l p s k).2.2) l.length).2.1, (rulX l k (plsX x, (carX l p s k).2.1, (carX l p s k).2.2) l.length).2.2) := by
  rw [carX, h]
theorem shfX_ok : ∀ {l : List Rul}, l.all ruleB = true → betwB (shfX l) (-16) 16 = true
  | [], _ => by decide
  | r :: l, h => by
    simp only [List.all_cons, Bool.and_eq_true] at h
    unfold shfX
    split
    · rename_i h3
      have hr := h.1
      unfold ruleB at hr
      rw [if_neg (by omega), if_pos h3] at hr
      simp only [Bool.and_eq_true, bitB, Bool.or_eq_true, beq_iff_eq, decide_eq_true_eq] at hr
      have h4 := hr.1.1.2
      have h5 := hr.1.2
      have h6 := hr.2
      rcases h4 with h4 | h4 <;> rw [h4] at h5 ⊢ <;> simp [betwB] <;> omega
    · exact shfX_ok h.2

end Go.Proofs.YteoaaphjbggobaaGreat
