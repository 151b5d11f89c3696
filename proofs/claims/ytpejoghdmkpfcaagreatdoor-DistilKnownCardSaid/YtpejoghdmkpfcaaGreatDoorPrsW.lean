/- Contract of distil's Parse. For texts of at most 65536 bytes, in a world in which the library's tables, errors and its longest search are laid. -/
import Derived.Test.YtpejoghdmkpfcaaGreatDoorPrsP
import Derived.Test.YtpejoghdmkpfcaaGreatDoorLedAll
import Derived.Test.YtpejoghdmkpfcaaGreatDoorShelf
import Derived.Lib.AtoiErrMem
namespace Go.Proofs.YtpejoghdmkpfcaaGreatDoor
open Go.RowKit
set_option linter.unusedVariables false
set_option linter.unusedSimpArgs false

/-- The library's variables that the reading of a text meets. -/
structure Env (w : World) : Prop where
  tab : Tab w
  ml : ∃ m, w.cell? ⟨0, 0, none⟩ = some (.int .i64 m)
  es : ∃ t p, w.cell? ⟨1, 0, none⟩ = some (.iface t p)
  er : ∃ t p, w.cell? ⟨2, 0, none⟩ = some (.iface t p)
theorem Env.on {w w' : World} (h : Env w) (hb : Below w.heap.size w w') : Env w' := by
  obtain ⟨h1, ⟨m, h2⟩, ⟨t, p, h3⟩, ⟨t', p', h4⟩⟩ := h
  exact ⟨h1.on hb h1.lt, ⟨m, bel_cell hb h2⟩, ⟨t, p, bel_cell hb h3⟩, ⟨t', p', bel_cell hb h4⟩⟩
theorem below_drw (w : World) (n : Nat) : Below w.heap.size w (w.drewN n) := ⟨rfl, rfl, rfl, Nat.le_refl _, fun _ _ => rfl⟩
theorem Cut_any (r : List UInt8) (c : UInt8) (w : World) (h : Env w) (hr : r.length ≤ 65536) :
    Calls Tryz.prog 63 #[.string ⟨r.toArray⟩, .string ⟨#[c]⟩] w fun e w' => e = .returned (.tuple #[.string ⟨(Lib.cut r [c]).1.toArray⟩, .string ⟨(Lib.cut r [c]).2.1.toArray⟩, .bool (Lib.cut r [c]).2.2]) ∧ Below w.heap.size w w' := by
  obtain ⟨m, hm⟩ := h.ml
  refine (Tryz.strings_Cut ⟨r.toArray⟩ ⟨#[c]⟩ m w (by show r.toArray.size < _; simp; omega) hm).mono ?_
  rintro e w' ⟨rfl, n, rfl⟩
  exact ⟨rfl, below_drw _ _⟩
/-- What Atoi hands back: a number, or an error. -/
def AtoiR (s : List UInt8) (n : Int) (e : Value) : Prop := (e = .nilIface ∧ Lib.atoiAll s = .ok n) ∨ ((∃ p, e = .iface 143 p) ∧ ∀ v, Lib.atoiAll s ≠ .ok v)
theorem Atoi_any (s : List UInt8) (w : World) (h : Env w) (hs : s.length ≤ 65536) :
    Calls Tryz.prog 64 #[.string ⟨s.toArray⟩] w fun e w' => ∃ n x, e = .returned (.tuple #[.int .i64 n, x]) ∧ AtoiR s n x ∧ Below w.heap.size w w' := by
  have hz : (⟨s.toArray⟩ : ByteArray).size ≤ 65536 := by show s.toArray.size ≤ _; simpa using hs
  cases hc : Lib.atoiAll s with
  | ok v =>
    refine (Tryz.strconv_Atoi_ok ⟨s.toArray⟩ (by omega) v hc w).mono ?_
    rintro e w' ⟨rfl, hw⟩
    refine ⟨v, _, rfl, .inl ⟨rfl, hc⟩, ?_⟩
    rcases hw with rfl | ⟨t, rfl⟩
    · exact Below.refl _ _
    · exact Lib.bytesWorld_below _ _ _
  | range =>
    obtain ⟨t, p, he⟩ := h.er
    refine (Tryz.strconv_Atoi_range ⟨s.toArray⟩ (by omega) hc _ w he (.inr ⟨t, p, rfl⟩)).mono ?_
    rintro e w' ⟨N, rfl, _, _, hb⟩
    exact ⟨_, _, rfl, .inr ⟨⟨_, rfl⟩, fun v hv => by rw [hc] at hv; cases hv⟩, hb⟩
  | _ =>
    obtain ⟨t, p, he⟩ := h.es
    refine (Tryz.strconv_Atoi_syntax ⟨s.toArray⟩ (by omega) hc _ w he (.inr ⟨t, p, rfl⟩)).mono ?_
    rintro e w' ⟨N, rfl, _, _, hb⟩
    exact ⟨_, _, rfl, .inr ⟨⟨_, rfl⟩, fun v hv => by rw [hc] at hv; cases hv⟩, hb⟩
/-- A box of two cells that is the call's own. -/
def Box2 (x : Nat) (a b : Value) (w : World) : Prop := w.cell? ⟨x, 0, none⟩ = some a ∧ w.cell? ⟨x, 1, none⟩ = some b ∧ w.frozen? ⟨x, 0, none⟩ = false ∧ w.frozen? ⟨x, 1, none⟩ = false
theorem Box2.new (w : World) (a b : Value) (T : TypeId) : Box2 w.heap.size a b (w.alloc (.cells #[a, b] T)) := ⟨new_cell rfl, new_cell rfl, by simp, by simp⟩
theorem Box2.on {x : Nat} {a b : Value} {w w' : World} (h : Box2 x a b w) (hb : Below w.heap.size w w') : Box2 x a b w' := by
  have hlt := World.block_lt_of_cell? w _ h.1
  exact ⟨bel_cell hb h.1, bel_cell hb h.2.1, (hb.frozen (p := ⟨x, 0, none⟩) hlt).trans h.2.2.1, (hb.frozen (p := ⟨x, 1, none⟩) hlt).trans h.2.2.2⟩
theorem Box2.set0 {x : Nat} {a b c : Value} {w : World} (h : Box2 x a b w) : Box2 x c b (w.setCell ⟨x, 0, none⟩ c) :=
  ⟨World.cell?_setCell_same _ _ _ h.1, (World.cell?_setCell_other _ _ _ _ (by simp)).trans h.2.1, (World.frozen?_setCell _ _ _ _).trans h.2.2.1, (World.frozen?_setCell _ _ _ _).trans h.2.2.2⟩
theorem Box2.set1 {x : Nat} {a b c : Value} {w : World} (h : Box2 x a b w) : Box2 x a c (w.setCell ⟨x, 1, none⟩ c) :=
  ⟨(World.cell?_setCell_other _ _ _ _ (by simp)).trans h.1, World.cell?_setCell_same _ _ _ h.2.1, (World.frozen?_setCell _ _ _ _).trans h.2.2.1, (World.frozen?_setCell _ _ _ _).trans h.2.2.2⟩

/-- The kind so far. -/
def kindU (n : List UInt8) : Nat → Int
  | 0 => 0
  | 1 => 0
  | k + 2 => if n = wordL ((k + 1 : Nat) : Int) then ((k + 1 : Nat) : Int) else kindU n (k + 1)
theorem kindU_all (n : List UInt8) : kindU n 5 = kindP n := rfl
theorem kindU_step {n : List UInt8} {k : Nat} (hk : 1 ≤ k) : kindU n (k + 1) = if n = wordL (k : Int) then (k : Int) else kindU n k := by
  obtain ⟨j, rfl⟩ : ∃ j, k = j + 1 := ⟨k - 1, by omega⟩
  rfl
def strLen : Value → Nat
  | .string b => b.size
  | _ => 0
theorem cut_le1 (c : UInt8) (r : List UInt8) : (Lib.cut r [c]).1.length ≤ r.length := by
  unfold Lib.cut; split <;> simp <;> omega
theorem cut_le2 (c : UInt8) (r : List UInt8) : (Lib.cut r [c]).2.1.length ≤ r.length := by
  unfold Lib.cut; split <;> simp <;> omega

set_option maxRecDepth 100000 in
set_option maxHeartbeats 4000000 in
theorem Parse_any (S : List UInt8) (w : World) (hS : S.length ≤ 65536) (hE : Env w) :
    Calls Tryz.prog 28 #[.string ⟨S.toArray⟩] w fun e w' => ∃ v E L, e = .returned (.tuple #[v, .int .i64 E]) ∧ Own w' w.heap.size 65 2 Itm.enc v L ∧ ReadR S E L ∧ L.length ≤ 65536 ∧ Below w.heap.size w w' := by
  obtain ⟨i0, hi, hz0, hz1, hz2⟩ := iparts item_info
  have Hi := Lib.hid hi; have Hz0 := Lib.hid hz0; have Hz1 := Lib.hid hz1; have Hz2 := Lib.hid hz2
  clear hi hz0 hz1 hz2
  have hsz : (⟨S.toArray⟩ : ByteArray).size = S.length := by show S.toArray.size = _; simp
  have d1 : decide (65536 < (S.length : Int)) = false := by simp; omega
  go_enter Tryz.func28, Tryz.ntmps28
  go_wp2_with fail
  go_loopw [4, 5] (fun lv rv wr => ∃ (r : List UInt8) (L : List Itm), rv = .string ⟨r.toArray⟩ ∧ L.length + r.length ≤ S.length ∧ Hid (prs r L = prs S []) ∧ Own wr w.heap.size 65 2 Itm.enc lv L ∧ Below w.heap.size w wr) (fun _ rv _ => strLen rv)
  case atStart => exact ⟨S, [], rfl, by simp, Lib.hid rfl, Own.nil, Below.refl _ _⟩
  case round =>
    obtain ⟨r, L, rfl, hl, hinv, ow, hb⟩ := hrel
    obtain ⟨w6, rfl⟩ : ∃ w6, w6 = wr := ⟨_, rfl⟩
    by_cases hr : r = []
    · subst hr
      have hL : prs S [] = some L := hinv.out.symm
      obtain ⟨A, c, rfl, lc, mc, nc, ar⟩ := ow.form Itm.enc_len
      have cT := Text_any A c L w6 ar (by omega) (hE.on hb).tab
      have hl3 : L.length ≤ 65536 := by omega
      rcases read_prs hL with ⟨h1, h2, h3⟩ | ⟨h1, h3⟩
      · rw [if_pos h1, h1, h2] at cT
        go_wp2_with (go_at_call 27; refine cT.mono ?_; rintro e w7 ⟨rfl, hb7⟩)
        go_ret2
        exact ⟨_, 0, L, rfl, ow.below hb7, h3, hl3, below_trans hb hb7⟩
      · by_cases h0 : ledE L = 0
        · rw [if_pos h0, h0] at cT
          have h2 : (textL L == S) = false := by simpa using fun h => h1 ⟨h0, h⟩
          clear h1 h0
          generalize textL L = T at *
          go_wp2_with (go_at_call 27; refine cT.mono ?_; rintro e w7 ⟨rfl, hb7⟩)
          go_ret2
          exact ⟨_, 6, [], rfl, Own.nil, h3, by decide, below_trans hb hb7⟩
        · rw [if_neg h0] at cT
          have h0' : (ledE L != 0) = true := by simpa using h0
          generalize ledE L = E at *
          clear h1 h0
          go_wp2_with (go_at_call 27; refine cT.mono ?_; rintro e w7 ⟨rfl, hb7⟩)
          go_ret2
          exact ⟨_, 6, [], rfl, Own.nil, h3, by decide, below_trans hb hb7⟩
    · have hr3 : r.length ≤ 65536 := by omega
      have hE6 := hE.on hb
      have c1 := Cut_any r 10 w6 hE6 hr3
      have l1 := cut_le1 10 r
      have l2 := cut_len (c := 10) hr
      have l3 := cut_le1 32 (Lib.cut r [10]).1
      have l4 := cut_le2 32 (Lib.cut r [10]).1
      have c2 := fun w' (hb' : Below w6.heap.size w6 w') => Cut_any (Lib.cut r [10]).1 32 w' (hE6.on hb') (by omega)
      have c4 := fun w' (hb' : Below w6.heap.size w6 w') => Atoi_any (Lib.cut (Lib.cut r [10]).1 [32]).2.1 w' (hE6.on hb') (by omega)
      have ok : ∀ v, Lib.atoiAll (Lib.cut (Lib.cut r [10]).1 [32]).2.1 = .ok v → kindP (Lib.cut (Lib.cut r [10]).1 [32]).1 ≠ 0 → prs (Lib.cut r [10]).2.1 (L ++ [⟨kindP (Lib.cut (Lib.cut r [10]).1 [32]).1, v⟩]) = prs S [] := fun v h1 h2 => (prs_ok hr h1 h2).symm.trans hinv.out
      have bad1 : ∀ v, Lib.atoiAll (Lib.cut (Lib.cut r [10]).1 [32]).2.1 = .ok v → kindP (Lib.cut (Lib.cut r [10]).1 [32]).1 = 0 → ReadR S 6 [] := fun v h1 h2 => read_none (hinv.out.symm.trans (prs_kind hr h1 h2))
      have bad2 : (∀ v, Lib.atoiAll (Lib.cut (Lib.cut r [10]).1 [32]).2.1 ≠ .ok v) → ReadR S 6 [] := fun h1 => read_none (hinv.out.symm.trans (prs_no hr h1))
      have e1 : r.isEmpty = false := by simpa using hr
      generalize (Lib.cut (Lib.cut r [10]).1 [32]).2.2 = f2 at *
      generalize (Lib.cut r [10]).2.2 = f1 at *
      generalize (Lib.cut (Lib.cut r [10]).1 [32]).1 = nm at *
      generalize (Lib.cut (Lib.cut r [10]).1 [32]).2.1 = nb at *
      generalize (Lib.cut r [10]).1 = ln at *
      generalize (Lib.cut r [10]).2.1 = mo at *
      go_wp2_with (first
        | (go_at_call 63; refine Calls.on (args' := #[.string ⟨r.toArray⟩, .string ⟨#[10]⟩]) rfl ?_; refine c1.mono ?_; rintro e w7 ⟨rfl, hb7⟩)
        | (go_at_call 63; refine Calls.on (args' := #[.string ⟨ln.toArray⟩, .string ⟨#[32]⟩]) rfl ?_; refine (c2 _ hb7).mono ?_; rintro e w8 ⟨rfl, hb8⟩; have b8 := below_trans hb7 hb8))
      have l5 : w.heap.size ≤ w8.heap.size := (below_trans hb b8).size
      have c3 := fun (k : Nat) w' (h1 : 1 ≤ k) (h2 : k < 5) => word_any (k : Int) w' (by simp [kindB, betwB]; omega)
      go_loopw [13] (fun i wr => ∃ k : Nat, 1 ≤ k ∧ k ≤ 5 ∧ i = .int .i64 k ∧ Box2 w8.heap.size (.int .i64 (kindU nm k)) (.int .i64 0) wr ∧ Below w8.heap.size w8 wr) (fun i _ => 5 - (intOf i).toNat)
      case atStart => exact ⟨1, by decide, by decide, rfl, Box2.new _ _ _ _, below_alloc (Below.refl _ _) _⟩
      case round =>
        obtain ⟨k, hk1, hk5, rfl, hbx, hb9⟩ := hrel
        obtain ⟨w9, rfl⟩ : ∃ w9, w9 = wr := ⟨_, rfl⟩
        by_cases hk : k < 5
        · have d2 : decide ((k : Int) ≤ 4) = true := by simp; omega
          have c5 := c3 k w9 hk1 hk
          have st := kindU_step (n := nm) hk1
          obtain ⟨W, hW⟩ : ∃ W, wordL (k : Int) = W := ⟨_, rfl⟩
          rw [hW] at c5 st
          by_cases he : nm = W
          · subst he
            rw [if_pos rfl] at st
            obtain ⟨b0, b1, f0, f1'⟩ := hbx
            clear hW
            go_wp2_with (go_at_call 60; refine c5.mono ?_; rintro e w10 ⟨rfl, hb10⟩; have hby := Box2.on ⟨b0, b1, f0, f1'⟩ hb10; have g0 := hby.1; have g1 := hby.2.1; have g2 := hby.2.2.1; have g3 := hby.2.2.2)
            refine ⟨⟨k + 1, by omega, by omega, by go_num, by rw [st]; exact hby.set0, (below_trans hb9 hb10).setCell (Nat.le_refl _) _⟩, by simp [intOf]; omega⟩
          · rw [if_neg he] at st
            have e3 : (W == nm) = false := by simpa using Ne.symm he
            clear he hW
            go_wp2_with (go_at_call 60; refine c5.mono ?_; rintro e w10 ⟨rfl, hb10⟩; have hby := Box2.on hbx hb10)
            refine ⟨⟨k + 1, by omega, by omega, by go_num, by rw [st]; exact hby, below_trans hb9 hb10⟩, by simp [intOf]; omega⟩
        · obtain rfl : k = 5 := by omega
          have hb89 := below_trans b8 hb9
          have c5 := c4 w9 hb89
          rw [kindU_all] at hbx
          have q9 : Below w.heap.size w w9 := hb.trans (hb89.mono hb.size)
          have l9 : L.length + 1 ≤ 65536 := by omega
          have hm3 : mo.length + (L.length + 1) ≤ S.length := by omega
          go_wp2_with fail
          refine c5.mono ?_
          rintro e w10 ⟨n, x, rfl, hx, hb10⟩
          have hby := hbx.on hb10
          have g0 := hby.1; have g1 := hby.2.1; have g2 := hby.2.2.1; have g3 := hby.2.2.2
          have b10 := below_trans hb89 hb10
          have ow10 := ow.below b10
          have q10 := below_trans q9 hb10
          clear c5 c4 c3 c2 c1
          rcases hx with ⟨rfl, hv⟩ | ⟨⟨p, rfl⟩, hv⟩
          · by_cases h0 : kindP nm = 0
            · have hR := bad1 n hv h0
              rw [h0] at g0
              clear ok bad1 bad2 h0
              go_wp2_with fail
              go_ret2
              exact ⟨_, 6, [], rfl, Own.nil, hR, by decide, q10⟩
            · have hR := Lib.hid (ok n hv h0)
              have e5 : (kindP nm == 0) = false := by simpa using h0
              have hz := hby.set1 (c := .int .i64 n)
              have z0 := hz.1; have z1 := hz.2.1
              have oz : Own (w10.setCell ⟨w8.heap.size, 1, none⟩ (.int .i64 n)) w.heap.size 65 2 Itm.enc u4 L := by
                refine ow10.keep (grown_set0 _ _ _ _) ?_
                cases hu : u4.ownBlock with
                | none => exact .inl rfl
                | some g =>
                  have h1 := (World.ownsRow.lt ow g hu).2
                  have h2 := b8.size
                  exact .inr (by simp; omega)
              have oby : (L.length + 1) * 16 ≤ 140737488355328 := by omega
              have Hg : Hid (w10.heap.size = (w10.setCell ⟨w8.heap.size, 1, none⟩ (.int .i64 n)).heap.size) := Lib.hid (by simp)
              have o16 : 0 < 16 := by decide
              have qz : Below w.heap.size w (w10.setCell ⟨w8.heap.size, 1, none⟩ (.int .i64 n)) := q10.setCell (by show w.heap.size ≤ w8.heap.size; exact l5) _
              have sz := qz.size
              generalize kindP nm = K at *
              clear ok bad1 bad2 h0 hby hz
              go_wp2_with (at_builtin; refine wpList_snoc (g := w10.heap.size) rfl _ _ 54 rfl w.heap.size 65 i0 _ 2 16 Tryz.underlying54 Hi.out Hz0.out Hz1.out Hz2.out rfl (by decide) _ L ⟨K, n⟩ #[.int .i64 K, .int .i64 n] 65 rfl oz rfl rfl rfl (Itm.one _) oby o16 sz Hg.out ?_; intro v5 w11 own11 hb11)
              have hlt : (⟨mo.toArray⟩ : ByteArray).size < (⟨r.toArray⟩ : ByteArray).size := by show mo.toArray.size < r.toArray.size; simpa using l2
              exact ⟨⟨mo, L ++ [⟨K, n⟩], rfl, by simp; omega, hR, own11, qz.trans hb11⟩, hlt⟩
          · have hR := bad2 hv
            clear ok bad1 bad2
            go_wp2_with fail
            go_ret2
            exact ⟨_, 6, [], rfl, Own.nil, hR, by decide, q10⟩

end Go.Proofs.YtpejoghdmkpfcaaGreatDoor
