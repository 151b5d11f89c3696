/- The walk of the statement DistilMixes. For any two small numbers and any list of small numbers. -/
import Derived.Test.YtiphhkfmemkldaaDoorMixB
import Derived.Test.YtiphhkfmemkldaaDoorMixC
import Derived.Test.YtiphhkfmemkldaaDoorRws
import Derived.Test.YtiphhkfmemkldaaDoorKnownD
namespace Go.Proofs.YtiphhkfmemkldaaDoor
open Go.RowKit
set_option linter.unusedVariables false
set_option linter.unusedSimpArgs false

def enc8 (x : Nat) : List Value := [.int .u8 x]
theorem enc8_len (x : Nat) : (enc8 x).length = 1 := rfl
theorem Arr.u8 {w w' : World} {B : Nat} {A : Option Addr} {k : Nat} {l : List Nat} (h : Arr 1 enc8 w B A l) (hk : k < l.length) (hb : Below B w w') :
    ∃ b off x, A = some ⟨b, off, none⟩ ∧ b < B ∧ Hid (l[k]? = some x) ∧ w'.cell? ⟨b, off + k, none⟩ = some (.int .u8 x) := by
  obtain ⟨b, off, rfl, hbb, hc⟩ := h.get hk hb
  exact ⟨b, off, _, rfl, hbb, List.getElem?_eq_getElem hk, by have := hc 0 _ rfl; simpa using this⟩
theorem bools_info : (Tryd.prog.info? 24).map (fun i => (i.zero, i.size, i.bytes)) = some (some (.slice none 0 0), 1, 24) := by kernel_rfl
theorem pow_tiny {T : Nat} (h : T ≤ 8) : ∃ P : Nat, 2 ^ T = P ∧ 0 < P ∧ P ≤ 256 ∧ wrap64 ((2 : Int) ^ T) = (P : Int) := by
  refine ⟨2 ^ T, rfl, Nat.pow_pos (by decide), ?_, ?_⟩
  · exact Nat.pow_le_pow_right (by decide : 0 < 2) h
  · have h2 : 2 ^ T ≤ 256 := Nat.pow_le_pow_right (by decide : 0 < 2) h
    have e : (2 : Int) ^ T = ((2 ^ T : Nat) : Int) := by simp
    rw [e]
    generalize 2 ^ T = P at *
    exact IntWalk.wrap64_in _ (by omega)
/-- The list of numbers so far: the blocks, and which numbers were seen. -/
structure MixI (B : Nat) (xs : List Nat) (sn : List Bool) : Prop where
  lt : ∀ x ∈ xs, x < 2 ^ B
  nd : xs.Nodup
  len : sn.length = 2 ^ B
  at_ : ∀ x, x < 2 ^ B → sn[x]? = some (decide (x ∈ xs))
theorem own_apart {α β : Type} {w0 w1 : World} {b0 b1 e0 e1 z0 z1 : Nat} {f0 : α → List Value} {f1 : β → List Value} {u v : Value} {l0 : List α} {l1 : List β} (h0 : Own w0 b0 e0 z0 f0 v l0) (h1 : Own w1 b1 e1 z1 f1 u l1) (hle : w0.heap.size ≤ b1) : u.ownBlock = none ∨ u.ownBlock ≠ v.ownBlock := by
  cases hu : u.ownBlock with
  | none => exact .inl rfl
  | some g =>
    refine .inr fun hv => ?_
    have l1 := (World.ownsRow.lt h1 g hu).1
    have l0 := (World.ownsRow.lt h0 g hv.symm).2
    omega
theorem SRows.own {α : Type} {tS tE : TypeId} {enc : α → List Value} {w : World} {base : Nat} {v : Value} {L : List (List α)} (h : SRows tS tE enc w base v L) : ∃ items : List It, Own w base tS 1 (fun x => [It.enc x]) v items := by
  obtain ⟨items, _, ho, _⟩ := h
  exact ⟨items, ho⟩
theorem SRows.setB {α : Type} {tS tE : TypeId} {enc : α → List Value} {w : World} {base : Nat} {v : Value} {L : List (List α)} (h : SRows tS tE enc w base v L) {a : Addr} (ha : a.block < base) {u : Value} : SRows tS tE enc (w.setCell a u) base v L := by
  obtain ⟨items, hl, ho, hi⟩ := h
  exact ⟨items, hl, ownsRow_setCell_below ho ha u, fun k it l h1 h2 => ⟨ownsRow_setCell_below (hi k it l h1 h2).1 ha u, (hi k it l h1 h2).2⟩⟩
theorem below_dn {B : Nat} {a w : World} (h : Below B a w) (n : Nat) : Below B a (w.drewN n) := h.trans ⟨rfl, rfl, rfl, Nat.le_refl _, fun _ _ => rfl⟩
theorem below_allocB {B : Nat} {a w : World} (h : Below B a w) (hB : B ≤ w.heap.size) (o : Obj) : Below B a (w.alloc o) := h.alloc hB o
theorem Own.lt_below {α : Type} {w w' : World} {B base e sz : Nat} {enc : α → List Value} {v : Value} {l : List α} (h : Own w base e sz enc v l) (hb : Below B w w') (hlt : ∀ g, v.ownBlock = some g → g < B) : Own w' base e sz enc v l := by
  refine ⟨h.1, ?_⟩
  rcases h.2 with hn | ⟨g, cap, cur, hv, hg, r⟩
  · exact .inl hn
  · exact .inr ⟨g, cap, cur, hv, hg, (hb.block g (hlt g (by rw [hv]; rfl))).trans r.1, r.2⟩

theorem MixI.new {B : Nat} {xs : List Nat} {sn : List Bool} {x : Nat} (h : MixI B xs sn) (hx : x < 2 ^ B) (hn : ¬ x ∈ xs) : MixI B (xs ++ [x]) (sn.set x true) := by
  refine ⟨fun y hy => ?_, ?_, by rw [List.length_set, h.len], fun y hy => ?_⟩
  · rcases List.mem_append.1 hy with hy | hy
    · exact h.lt y hy
    · have : y = x := by simpa using hy
      subst this; exact hx
  · rw [List.nodup_append]
    refine ⟨h.nd, by simp, fun a ha b hb => ?_⟩
    have : b = x := by simpa using hb
    subst this
    rintro rfl
    exact hn ha
  · by_cases hyx : y = x
    · subst hyx
      rw [List.getElem?_set_self (by rw [h.len]; exact hx)]; simp
    · rw [List.getElem?_set_ne (by omega), h.at_ y hy]; simp [hyx]
theorem MixI.old {B : Nat} {xs : List Nat} {sn : List Bool} {x : Nat} (h : MixI B xs sn) (hx : x < 2 ^ B) (hn : x ∈ xs) : MixI B xs (sn.set x true) := by
  refine ⟨h.lt, h.nd, by rw [List.length_set, h.len], fun y hy => ?_⟩
  by_cases hyx : y = x
  · subst hyx
    rw [List.getElem?_set_self (by rw [h.len]; exact hx)]; simp [hn]
  · rw [List.getElem?_set_ne (by omega), h.at_ y hy]

theorem hashes_num {B T s : Nat} (I : Nat) (x y : Nat) (As Ba Bb : Option Addr) (cs da db : Nat) (w : World) (hs : s = B + T - 1) (hB : B ≤ 5) (hT : T < 4) (h1 : Arr 1 encB w w.heap.size As (numL I s)) (h2 : Arr 1 encB w w.heap.size Ba (numL x B)) (h3 : Arr 1 encB w w.heap.size Bb (numL y B)) (lc : s ≤ cs) (mc : cs ≤ maxLen) :
    Calls Tryd.prog 9 #[.slice As s cs, .slice Ba B da, .slice Bb B db, .int .i64 T] w fun e w' => e = .returned (.tuple #[.bool (mixB (numL I s) (numL x B) (numL y B) T), .bool true]) ∧ Below w.heap.size w w' := by
  have h := hashes_any As Ba Bb cs da db (numL I s) (numL x B) (numL y B) T w h1 h2 h3 (by rw [numL_len]; omega) (by rw [numL_len, numL_len]) (by omega) (by rw [numL_len, numL_len]; omega) (by rw [numL_len]; exact lc) mc
  rw [numL_len, numL_len, numL_len] at h
  exact h

theorem fin_eq {m s S2 : Nat} (hm : m ≤ 6) (hS : 2 ^ s = S2) (h2 : S2 ≤ 256) {E : Nat} (hE : E = m * S2) : ((E : Int) == wrap64 ((m : Int) * (2 : Int) ^ s)) = true := by
  have e : (2 : Int) ^ s = ((2 ^ s : Nat) : Int) := by simp
  have hb : m * S2 ≤ 6 * 256 := Nat.mul_le_mul hm h2
  rw [e, hS, hE]
  have : wrap64 ((m : Int) * (S2 : Int)) = ((m * S2 : Nat) : Int) := by
    rw [show (m : Int) * (S2 : Int) = ((m * S2 : Nat) : Int) from by simp]
    exact IntWalk.wrap64_in _ (by omega)
  rw [this]; simp
theorem fin_df {m q D : Nat} (hm : m ≤ 6) (hq : q < 5) (hD : D = m * (m - 1) * 2 ^ q) : ((D : Int) == wrap64 (wrap64 ((m : Int) * ((m : Int) - 1)) * (2 : Int) ^ q)) = true := by
  subst hD
  have h : ∀ m, m ≤ 6 → ∀ q, q < 5 → (((m * (m - 1) * 2 ^ q : Nat) : Int) == wrap64 (wrap64 ((m : Int) * ((m : Int) - 1)) * (2 : Int) ^ q)) = true := by decide +kernel
  exact h m hm q hq
theorem mixB_same (s a : List Bool) (out : Nat) : mixB s a a out = true := by simp [mixB]

theorem bval_numL : ∀ (k x : Nat), x < 2 ^ k → bval (numL x k) = x
  | 0, x, h => by
    have : x = 0 := by simpa using h
    subst this; rfl
  | k + 1, x, h => by
    rw [numL, bval_snoc, bval_numL k (x / 2) (by rw [Nat.pow_succ] at h; omega)]
    rcases Nat.mod_two_eq_zero_or_one x with h0 | h0
    · rw [h0]; simp; omega
    · rw [h0]; simp; omega
theorem mix_fin {B T s q m : Nat} {xs : List Nat} {sn : List Bool} (hm : xs.length = m) (h : MixI B xs sn) (hs : s = B + T - 1) (hB : (q : Int) + 1 = (B : Int)) (hq : q < 5) (hT : T < 4) :
    difT (fun i => numL i s) (fun k => numL (xs.getD k 0) B) T m (2 ^ s) = m * (m - 1) * 2 ^ q := by
  obtain rfl : B = q + 1 := by omega
  obtain rfl : s = q + T := by omega
  refine mix_total hq hT _ (fun k _ => numL_len _ _) (fun a b ha hb hab he => ?_)
  have ea : xs.getD a 0 = xs[a] := by simp [List.getD, List.getElem?_eq_getElem (show a < xs.length by omega)]
  have eb : xs.getD b 0 = xs[b] := by simp [List.getD, List.getElem?_eq_getElem (show b < xs.length by omega)]
  have := congrArg bval he
  rw [ea, eb, bval_numL _ _ (h.lt _ (List.getElem_mem _)), bval_numL _ _ (h.lt _ (List.getElem_mem _))] at this
  exact hab ((List.getElem_inj h.nd).1 this)

set_option maxRecDepth 100000 in
set_option maxHeartbeats 8000000 in
theorem mixes_walk (n o : Nat) (A : Option Addr) (cA : Nat) (l : List Nat) (v : World) (ht : Tab v) (hA : Arr 1 enc8 v v.heap.size A l) (hn : n < 256) (ho : o < 256) (hl : l.length ≤ maxLen) (h8 : ∀ x ∈ l, x < 256) :
    Calls Tryd.prog 3 #[.int .u8 n, .int .u8 o, .slice A l.length cA] v fun e w' => e = .returned (.bool true) ∧ Below v.heap.size v w' := by
  have htl := ht.lt
  replace hl : l.length ≤ 9223372036854775807 := Nat.le_trans hl (by decide)
  obtain ⟨i0, hi, hz0, hz1, hz2⟩ := info_parts bool_info3
  have Hi := Lib.hid hi; have Hz0 := Lib.hid hz0; have Hz1 := Lib.hid hz1; have Hz2 := Lib.hid hz2
  clear hi hz0 hz1 hz2
  obtain ⟨j0, bi, bz0, bz1, bz2⟩ := info_parts bools_info
  have Bi := Lib.hid bi; have Bz0 := Lib.hid bz0; have Bz1 := Lib.hid bz1; have Bz2 := Lib.hid bz2
  clear bi bz0 bz1 bz2
  obtain ⟨q, hq, hq5⟩ : ∃ q : Nat, (n : Int) % 5 = (q : Int) ∧ q < 5 := ⟨n % 5, by omega, by omega⟩
  obtain ⟨B, hB⟩ : ∃ B : Nat, (q : Int) + 1 = (B : Int) := ⟨q + 1, by omega⟩
  obtain ⟨T, hT, hT4⟩ : ∃ T : Nat, (o : Int) % 4 = (T : Int) ∧ T < 4 := ⟨o % 4, by omega, by omega⟩
  obtain ⟨P, hP, hP1, hP2, wP⟩ := pow_tiny (T := B) (by omega)
  have HP := Lib.hid hP
  have HwP := Lib.hid wP
  clear hP wP
  have P0 : (P : Int) ≠ 0 := by omega
  have cK := fun w' (hb : Below v.heap.size v w') => known_any w' (ht.on hb htl)
  go_enter Tryd.func3, Tryd.ntmps3
  go_wp2_with (at_make; refine wpList_mk rfl _ _ 24 rfl 4 i0 _ 1 Tryd.underlying24 Hi.out Hz0.out Hz1.out Hz2.out rfl (fun b : Bool => Value.bool b) false rfl _ _ _ _ P rfl rfl HwP.out HwP.out (by omega) (by unfold maxLen; omega) ?_; intro w1 own1 hb1)
  go_loopw [9, 11] (fun b i wr => ∃ (k : Nat) (xs : List Nat) (sn : List Bool), k ≤ l.length ∧ xs.length ≤ 6 ∧ i = .int .i64 k ∧ Hid (MixI B xs sn) ∧ Own wr v.heap.size 4 1 (fun x => [Value.bool x]) (.slice (some ⟨v.heap.size, 0, none⟩) P P) sn ∧ SRows 24 4 encB wr (v.heap.size + 1) b (xs.map fun x => numL x B) ∧ Below v.heap.size v wr) (fun _ i _ => l.length - (intOf i).toNat)
  case atStart =>
    refine ⟨0, [], List.replicate P false, Nat.zero_le _, by decide, rfl, Lib.hid ⟨by simp, by simp, by rw [HP.out]; simp, fun x hx => ?_⟩, own1, SRows.nil _ _, hb1⟩
    rw [List.getElem?_replicate, if_pos (by rw [← HP.out]; exact hx)]; simp
  case round =>
    obtain ⟨k, xs, sn, hk, hx6, rfl, inv, ow, rows, hb⟩ := hrel
    obtain ⟨A1, c1, rfl, rget⟩ := rows.get encB_len
    rw [List.length_map] at rows ⊢
    by_cases hgo : k < l.length ∧ xs.length < 6
    · obtain ⟨hlt, hx5⟩ := hgo
      obtain ⟨b, off, y, rfl, hbb, hy, cy⟩ := hA.u8 (k := k) hlt hb
      obtain ⟨x, hx, hxP⟩ : ∃ x : Nat, (y : Int) % (P : Int) = (x : Int) ∧ x < P := ⟨y % P, by simp, Nat.mod_lt _ hP1⟩
      have hyw : wrap64 (y : Int) = (y : Int) := IntWalk.wrap64_in _ (by have := h8 y (List.mem_of_getElem? hy.out); omega)
      have Hx : Hid ((wrap64 (y : Int)).tmod (wrap64 ((2 : Int) ^ B)) = (x : Int)) := Lib.hid (by rw [HwP.out, hyw, ← hx]; exact Int.tmod_eq_emod_of_nonneg (by omega))
      clear hyw hx
      have cN := fun w' => Number_any x B w' (by omega) (Nat.lt_trans hxP (by omega))
      have hseen := (inv.out).at_ x (by rw [HP.out]; exact hxP)
      have hlen : sn.length = P := by rw [← HP.out]; exact (inv.out).len
      have cs := ow.at1 hlen hseen
      have fs := ow.fr1 hlen x
      have sn2 := ow.set1 hlen x true
      have hlt1 : v.heap.size + 1 ≤ wr.heap.size := by have := ow.g_lt; omega
      have hx' := Hx.out
      have wn : wrap64 ((2 : Int) ^ B) ≠ 0 := by rw [HwP.out]; exact P0
      have hsb : ∀ g, (Value.slice (some ⟨v.heap.size, 0, none⟩) P P).ownBlock = some g → g < v.heap.size + 1 := fun g hg => by cases hg; exact Nat.lt_succ_self _
      have hk1 : ((k + 1 : Nat) : Int) = (k : Int) + 1 := by omega
      cases hin : decide (x ∈ xs)
      · rw [hin] at cs
        have inv2 : Hid (MixI B (xs ++ [x]) (sn.set x true)) := Lib.hid (inv.out.new (by rw [HP.out]; exact hxP) (by simpa using hin))
        go_wp2_with fail
        go_quiet (fail)
        clear hx' wn
        have bq : Below wr.heap.size wr (wr.drewN nq) := below_dn (Below.refl _ _) _
        have oby : (xs.map fun x => numL x B).length ≤ 1000000 := by rw [List.length_map]; omega
        go_wp2_with (first
          | (go_at_call 8; refine (cN _).mono ?_; rintro e w2 ⟨v2, rfl, own2, hb2⟩; have bq2 := below_trans bq hb2; have r2 := rows.on bq2; have ow2 := own2.down (base' := v.heap.size + 1) hlt1; obtain ⟨its, oits⟩ := rows.own; have apt := own_apart oits own2 (Nat.le_refl _); obtain ⟨A2, c2, hv2, ar2⟩ := toep_form own2; rw [numL_len] at hv2; subst hv2; have size2 := bq2.size)
          | (at_builtin; go_loud (refine wpList_srow (enc := encB) Tryd.underlying23 Bi.out Bz0.out Bz1.out Bz2.out encB_len rfl _ _ rfl (v.heap.size + 1) (r2.on (below_alloc (Below.refl _ _) _)) rfl oby rfl (new_cell rfl) (ow2.alloc _) apt (Nat.le_trans hlt1 (by simp; omega)) ?_; intro v3 w3 r3 hb3; have hbz : Below (v.heap.size + 1) wr w3 := ((bq2.mono hlt1).trans (below_allocB (Below.refl _ _) (Nat.le_trans hlt1 size2) _)).trans hb3; have ow3 := ow.lt_below hbz hsb; have cs3 := ow3.at1 hlen hseen; rw [hin] at cs3; have fs3 := ow3.fr1 hlen x; have sn3 := ow3.set1 hlen x true)))
        refine ⟨⟨k + 1, xs ++ [x], sn.set x true, by omega, by rw [List.length_append]; simp; omega, by go_num, inv2, sn3, by rw [List.map_append]; exact r3.setB (show v.heap.size < v.heap.size + 1 from Nat.lt_succ_self _), ?_⟩, by simp [intOf]; omega⟩
        exact ((hb.trans (hbz.mono (by omega)))).setCell (Nat.le_refl _) _
      · rw [hin] at cs
        have inv2 : Hid (MixI B xs (sn.set x true)) := Lib.hid (inv.out.old (by rw [HP.out]; exact hxP) (by simpa using hin))
        go_wp2_with fail
        go_quiet (fail)
        clear hx' wn
        go_wp2_with fail
        refine ⟨⟨k + 1, xs, sn.set x true, by omega, hx6, by go_num, inv2, sn2, rows.setB (show v.heap.size < v.heap.size + 1 from Nat.lt_succ_self _), (below_dn hb _).setCell (Nat.le_refl _) _⟩, by simp [intOf]; omega⟩
    · have hgo' : (decide (k < l.length) = false) ∨ (decide (k < l.length) = true ∧ decide ((xs.length : Int) < 6) = false) := by simp; omega
      obtain ⟨m, hm, hm6⟩ : ∃ m : Nat, xs.length = m ∧ m ≤ 6 := ⟨_, rfl, hx6⟩
      obtain ⟨s, hs, hs7⟩ : ∃ s : Nat, (B : Int) + (T : Int) - 1 = (s : Int) ∧ s ≤ 7 := ⟨B + T - 1, by omega, by omega⟩
      obtain ⟨S2, hS, hS1, hS2, wS⟩ := pow_tiny (T := s) (by omega)
      have HS := Lib.hid hS
      have HwS := Lib.hid wS
      clear hS wS
      have hlt1 : v.heap.size + 1 ≤ wr.heap.size := by have := ow.g_lt; omega
      rw [hm] at hgo' ⊢
      have cN2 := fun (I : Nat) (hI : I ≤ S2) w' => Number_any I s w' (by omega) (by omega)
      have eT : Hid (s = B + T - 1) := Lib.hid (by omega)
      have eQ : (s : Int) - (T : Int) = (q : Int) := by omega
      have HQ := Lib.hid eQ
      have B5 : B ≤ 5 := by omega
      clear eQ
      rcases hgo' with hc | ⟨hc1, hc⟩
      all_goals (
        go_wp2_with fail
        go_loopw [15, 16, 17] (fun e d i wr => ∃ (I E D : Nat), I ≤ S2 ∧ i = .int .i64 I ∧ e = .int .i64 E ∧ d = .int .i64 D ∧ E ≤ 36 * I ∧ D ≤ 36 * I ∧ Hid (E = m * I ∧ D = difT (fun i => numL i s) (fun k => numL (xs.getD k 0) B) T m I) ∧ SRows 24 4 encB wr (v.heap.size + 1) (.slice A1 m c1) (xs.map fun x => numL x B) ∧ Below v.heap.size v wr) (fun _ _ i _ => S2 - (intOf i).toNat)
        case atStart => exact ⟨0, 0, 0, Nat.zero_le _, rfl, rfl, rfl, Nat.zero_le _, Nat.zero_le _, Lib.hid ⟨rfl, rfl⟩, by rw [← hm]; exact rows, hb⟩
        case round =>
          obtain ⟨I, E, D, hI, rfl, rfl, rfl, hE, hD, hinv, rows2, hb2⟩ := hrel
          obtain ⟨w6, rfl⟩ : ∃ w6, w6 = wr := ⟨_, rfl⟩
          by_cases hIS : I < S2
          · have d1 : decide ((I : Int) < wrap64 ((2 : Int) ^ s)) = true := by rw [HwS.out]; simp; omega
            have c1 := cN2 I hI w6
            go_wp2_with fail
            refine c1.mono ?_
            rintro e w7 ⟨v7, rfl, own7, hb7⟩
            clear d1 c1
            obtain ⟨A7, c7, hv7, lc7, mc7, _, ar7⟩ := own7.form encB_len
            rw [numL_len] at hv7 lc7
            subst hv7
            go_wp2_with fail
            go_loopw [15, 16, 19] (fun e d i wr => ∃ (a E2 D2 : Nat), a ≤ m ∧ i = .int .i64 a ∧ e = .int .i64 E2 ∧ d = .int .i64 D2 ∧ E2 ≤ 36 * I + 6 * a ∧ D2 ≤ 36 * I + 6 * a ∧ Hid (E2 = E + a ∧ D2 = D + sumTo (fun a => cntTo (difB (numL I s) (fun k => numL (xs.getD k 0) B) T a) m) a) ∧ Below w7.heap.size w7 wr) (fun _ _ i _ => m - (intOf i).toNat)
            case atStart => exact ⟨0, E, D, Nat.zero_le _, rfl, rfl, rfl, by omega, by omega, Lib.hid ⟨rfl, rfl⟩, Below.refl _ _⟩
            case round =>
              obtain ⟨a, E2, D2, ha, rfl, rfl, rfl, hE2, hD2, hinv2, hb8⟩ := hrel
              obtain ⟨w8, rfl⟩ : ∃ w8, w8 = wr := ⟨_, rfl⟩
              by_cases ham : a < m
              · have d2 : decide (a < m) = true := by simp; omega
                go_wp2_with fail
                clear d2
                go_loopw [15, 16, 20] (fun e d i wr => ∃ (b E3 D3 : Nat), b ≤ m ∧ i = .int .i64 b ∧ e = .int .i64 E3 ∧ d = .int .i64 D3 ∧ E3 ≤ 36 * I + 6 * a + b ∧ D3 ≤ 36 * I + 6 * a + b ∧ Hid (E3 = E2 + (if a < b then 1 else 0) ∧ D3 = D2 + cntTo (difB (numL I s) (fun k => numL (xs.getD k 0) B) T a) b) ∧ Below w8.heap.size w8 wr) (fun _ _ i _ => m - (intOf i).toNat)
                case atStart => exact ⟨0, E2, D2, Nat.zero_le _, rfl, rfl, rfl, by omega, by omega, Lib.hid ⟨rfl, rfl⟩, Below.refl _ _⟩
                case round =>
                  obtain ⟨b, E3, D3, hbm, rfl, rfl, rfl, hE3, hD3, hinv3, hb9⟩ := hrel
                  by_cases hbm2 : b < m
                  · have d3 : decide (b < m) = true := by simp; omega
                    obtain ⟨A9, c9, hv9, rget9⟩ := (rows2.on (below_trans (below_trans hb7 hb8) hb9)).get encB_len
                    obtain ⟨rfl, rfl⟩ : A1 = A9 ∧ c1 = c9 := by simp at hv9; exact ⟨hv9.1, hv9.2.2⟩
                    clear hv9
                    have hga : (xs.map fun x => numL x B)[a]? = some (numL (xs.getD a 0) B) := by rw [List.getElem?_map, List.getElem?_eq_getElem (by omega)]; simp [List.getD, List.getElem?_eq_getElem (show a < xs.length by omega)]
                    have hgb : (xs.map fun x => numL x B)[b]? = some (numL (xs.getD b 0) B) := by rw [List.getElem?_map, List.getElem?_eq_getElem (by omega)]; simp [List.getD, List.getElem?_eq_getElem (show b < xs.length by omega)]
                    obtain ⟨g, rfl, hgl, Ba, da, ca, aa⟩ := rget9 a _ hga
                    obtain ⟨g', hg', _, Bb, db, cb, ab⟩ := rget9 b _ hgb
                    cases hg'
                    rw [numL_len] at ca cb
                    have la := later_cell ca
                    have lb := later_cell cb
                    have q9 := below_trans hb8 hb9
                    have cH := fun (x : Later wr) => calls_later (hashes_num (T := T) I (xs.getD a 0) (xs.getD b 0) A7 Ba Bb c7 da db x.w eT.out B5 hT4 ((ar7.on q9).on x.2) (aa.on x.2) (ab.on x.2) lc7 mc7)
                    have hdif : Hid (difB (numL I s) (fun k => numL (xs.getD k 0) B) T a b = (mixB (numL I s) (numL (xs.getD a 0) B) (numL (xs.getD b 0) B) T && decide (a ≠ b))) := Lib.hid rfl
                    have hsame : a = b → mixB (numL I s) (numL (xs.getD a 0) B) (numL (xs.getD b 0) B) T = true := by rintro rfl; exact mixB_same _ _ _
                    generalize mixB (numL I s) (numL (xs.getD a 0) B) (numL (xs.getD b 0) B) T = bm at *
                    clear rget9 hga hgb ca cb
                    go_wp2_with fail
                    refine wp_region_later (by kernel_rfl) (by kernel_rfl) ?_
                    repeat (go_big_quiet_step ((go_at_call 9; exact cH _)))
                    refine wpQuiet_nil ?_
                    rintro w10 ⟨⟨_, hb10⟩, rfl⟩
                    clear la lb cH
                    by_cases hab : a = b
                    · obtain rfl := hsame hab
                      have e1 : ((a : Int) == (b : Int)) = true := by simp [hab]
                      have e2 : (a == b) = true := by simp [hab]
                      have e3 : (a != b) = false := by simp [hab]
                      have hfin : Hid (E3 + 1 = E2 + (if a < b + 1 then 1 else 0) ∧ D3 = D2 + cntTo (difB (numL I s) (fun k => numL (xs.getD k 0) B) T a) (b + 1)) := Lib.hid ⟨by rw [hinv3.out.1, if_neg (by omega), if_pos (by omega)], by rw [cntTo, hdif.out, hinv3.out.2]; simp [hab]⟩
                      clear hab hsame
                      go_wp2_with fail
                      refine ⟨⟨b + 1, E3 + 1, D3, by omega, by go_num, by go_num, rfl, by omega, by omega, hfin, below_trans hb9 hb10⟩, by simp [intOf]; omega⟩
                    · have e1 : ((a : Int) == (b : Int)) = false := by simp; omega
                      have e2 : (a == b) = false := by simp; omega
                      have e3 : (a != b) = true := by simp; omega
                      have hE' : E3 = E2 + (if a < b + 1 then 1 else 0) := by rw [hinv3.out.1]; congr 1; split <;> split <;> omega
                      have hfin : Hid (E3 = E2 + (if a < b + 1 then 1 else 0) ∧ D3 + (if bm = true then 1 else 0) = D2 + cntTo (difB (numL I s) (fun k => numL (xs.getD k 0) B) T a) (b + 1)) := Lib.hid ⟨hE', by rw [cntTo, hdif.out, hinv3.out.2]; simp [hab, Nat.add_assoc]⟩
                      clear hab hsame hE'
                      cases bm
                      · go_wp2_with fail
                        refine ⟨⟨b + 1, E3, D3, by omega, by go_num, rfl, rfl, by omega, by omega, hfin, below_trans hb9 hb10⟩, by simp [intOf]; omega⟩
                      · go_wp2_with fail
                        refine ⟨⟨b + 1, E3, D3 + 1, by omega, by go_num, rfl, by go_num, by omega, by omega, hfin, below_trans hb9 hb10⟩, by simp [intOf]; omega⟩
                  · have d3 : decide (b < m) = false := by simp; omega
                    obtain rfl : b = m := by omega
                    have hfin : Hid (E3 = E + (a + 1) ∧ D3 = D + sumTo (fun a => cntTo (difB (numL I s) (fun k => numL (xs.getD k 0) B) T a) b) (a + 1)) := Lib.hid ⟨by rw [hinv3.out.1, hinv2.out.1, if_pos ham]; omega, by rw [hinv3.out.2, hinv2.out.2, sumTo]; omega⟩
                    go_wp2_with fail
                    refine ⟨⟨a + 1, E3, D3, by omega, by go_num, rfl, rfl, by omega, by omega, hfin, below_trans hb8 hb9⟩, by simp [intOf]; omega⟩
              · have d2 : decide (a < m) = false := by simp; omega
                obtain rfl : a = m := by omega
                have hfin : Hid (E2 = a * (I + 1) ∧ D2 = difT (fun i => numL i s) (fun k => numL (xs.getD k 0) B) T a (I + 1)) := Lib.hid ⟨by rw [hinv2.out.1, hinv.out.1, Nat.mul_succ], by rw [hinv2.out.2, hinv.out.2]; rfl⟩
                go_wp2_with fail
                have q8 := below_trans hb7 hb8
                refine ⟨⟨I + 1, E2, D2, by omega, by go_num, rfl, rfl, by omega, by omega, hfin, rows2.on q8, below_trans hb2 q8⟩, by simp [intOf]; omega⟩
          · obtain rfl : I = S2 := by omega
            have d1 : decide ((I : Int) < wrap64 ((2 : Int) ^ s)) = false := by rw [HwS.out]; simp
            have eQ := HQ.out
            have g1 := fin_eq hm6 HS.out hS2 hinv.out.1
            have g2 := fin_df (D := D) hm6 hq5 (by rw [hinv.out.2, ← HS.out]; exact mix_fin hm inv.out eT.out hB hq5 hT4)
            clear hE hD
            go_wp2_with (go_at_call 10; refine (cK _ hb2).mono ?_; rintro e w9 ⟨rfl, hb9⟩)
            go_ret
            exact ⟨rfl, below_trans hb2 hb9⟩)

end Go.Proofs.YtiphhkfmemkldaaDoor
