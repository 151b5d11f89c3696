/- Contract of the reference's Blocks. For at most 4096 numbers, or refused. -/
import Derived.Test.YtmlppnapodamaaaBlkA
namespace Go.Proofs.Ytmlppnapodamaaa
open Go.RowKit
set_option linter.unusedVariables false
set_option linter.unusedSimpArgs false

theorem wpList_appN {P : Program} {w : World} {ops : Array Oper} {rest : List Oper} {o : Oper} {a : Act} {Q : Exit → Act → World → Prop} (hgd : o.guard = none) (s x : Operand) (t : TypeId)
    (ho : o.op = .call { callee := .builtin .append, args := #[s, x], argTypes := #[t, t] })
    (base : Nat) (e : TypeId) (i : TypeInfo) (z : Value) (size bytes : Nat) (ht : P.underlying t = some (.slice e)) (hi : P.info? e = some i) (hz : i.zero = some z)
    (hsize : i.size = size) (hby : i.bytes = bytes) (hzs : z.cells.size = size) (hsz : 0 < size)
    {α : Type} {enc : α → List Value} (hs' : ∀ x, (enc x).length = size) (h1 : ∀ x, ∀ u ∈ enc x, u.oneCell' = true) (v : Value) (l : List α) (l2 : List α) (A : Option Addr) (n c B : Nat) (hn : l2.length = n) (hs : a.eval s = v) (hown : Own w base e size enc v l)
    (hx : a.eval x = .slice A n c) (hA : Arr size enc w B A l2) (hnil : A = none → c = 0)
    (hbytes : (l.length + l2.length) * bytes ≤ 140737488355328) (hbp : 0 < bytes) (hbase : base ≤ w.heap.size)
    (h : ∀ v' w', Own w' base e size enc v' (l ++ l2) → Below base w w' → wpList P ops Q rest (a.put o.dst v') w') : wpList P ops Q (o :: rest) a w := by
  subst hn
  exact wpList_app hgd s x t ho base e i z size bytes ht hi hz hsize hby hzs hsz hs' h1 v l l2 A c B hs hown hx hA hnil hbytes hbp hbase h

set_option maxRecDepth 100000 in
set_option maxHeartbeats 4000000 in
theorem rBlocks_any (A : Option Addr) (n c : Nat) (l : List Int) (z : Int) (w : World) (hn : l.length = n) (hA : Arr 1 encI w w.heap.size A l) (hc : n ≤ c) (hm : c ≤ maxLen) (hnil : A = none → c = 0) : Calls Try.prog 10 #[.slice A n c, .int .i64 z] w fun e w' => BkR w w' l z e := by
  unfold maxLen at hm
  by_cases h : bkE n z = 0
  · obtain ⟨z1, z2, n1⟩ := bk_ok h
    obtain ⟨z, rfl⟩ := Int.eq_ofNat_of_zero_le (show 0 ≤ z by omega)
    have d0 : decide ((z : Int) < 1) = false := by simp; omega
    have d0' : decide ((512 : Int) < (z : Int)) = false := by simp; omega
    have d1 : decide (4096 < (n : Int)) = false := by simp; omega
    have H := Lib.hid h; have Hn := Lib.hid hn
    obtain ⟨i0, hi, hz0, hz1, hz2⟩ := info_parts int_info5
    have Hi := Lib.hid hi; have Hz0 := Lib.hid hz0; have Hz1 := Lib.hid hz1; have Hz2 := Lib.hid hz2
    obtain ⟨j0, ji, jz0, jz1, jz2⟩ := info_parts ints_info
    have Ji := Lib.hid ji; have Jz0 := Lib.hid jz0; have Jz1 := Lib.hid jz1; have Jz2 := Lib.hid jz2
    clear hi hz0 hz1 hz2 ji jz0 jz1 jz2 h hn
    go_enter Try.func10, Try.ntmps10
    go_wp2_with fail
    go_loopw [6, 7] (fun lv iv wr => ∃ (k i : Nat) (items : List It), iv = .int .i64 i ∧ Hid (k * z = i) ∧ i ≤ n ∧ k ≤ 4096 ∧ Blk wr w.heap.size lv items (blk l z k) ∧ Below w.heap.size w wr) (fun _ iv _ => n - (intOf iv).toNat)
    case atStart => exact ⟨0, 0, [], rfl, Lib.hid (by omega), Nat.zero_le _, by omega, Blk.nil, Below.refl _ _⟩
    case round =>
      obtain ⟨k, i, items, rfl, hki, hi, hk, bk, hb⟩ := hrel
      obtain ⟨w6, rfl⟩ : ∃ w6, w6 = wr := ⟨_, rfl⟩
      rcases Nat.lt_or_ge n (i + z) with hlt | hge
      · have g1 : decide ((i : Int) + (z : Int) ≤ (n : Int)) = false := by simp; omega
        have g1' : ¬ (i : Int) + (z : Int) ≤ (n : Int) := by omega
        have hq : n / z = k := by
          have h2 := hki.out
          have : n = (n - i) + k * z := by omega
          rw [this, Nat.add_mul_div_right _ _ (by omega), Nat.div_eq_of_lt (by omega), Nat.zero_add]
        have hfin : bkL l (z : Int) = blk l z k := by unfold bkL; rw [Hn.out, if_pos H.out, Int.toNat_natCast, hq]
        have Hf := Lib.hid hfin
        clear hfin hq
        go_wp2_with fail
        go_ret2
        exact ⟨u6, items, by rw [Hn.out, H.out]; rfl, by rw [Hf.out]; exact bk, hb⟩
      · have g1 : decide ((i : Int) + (z : Int) ≤ (n : Int)) = true := by simp; omega
        have zn : (i : Int) + (z : Int) ≤ (n : Int) := by omega
        have zc : (i : Int) + (z : Int) ≤ (c : Int) := by omega
        have z0 : (0 : Int) ≤ (z : Int) := by omega
        have i0' : (0 : Int) ≤ (i : Int) := by omega
        have hk1 : k + 1 ≤ 4096 := by
          have h2 := hki.out
          have h3 : (k + 1) * 1 ≤ (k + 1) * z := Nat.mul_le_mul_left _ (by omega)
          rw [Nat.add_mul, Nat.one_mul] at h3
          rw [Nat.add_mul k 1 z, Nat.one_mul] at h3
          omega
        obtain ⟨ab, ao, rfl, hab, _⟩ := hA (by rintro rfl; have := Hn.out; simp at this; omega)
        have arT := arr_tk (arr_dp hA i) z
        have htl : ((l.drop i).take z).length = z := by rw [List.length_take, List.length_drop, Hn.out]; omega
        have hsn : blk l z (k + 1) = blk l z k ++ [(l.drop i).take z] := by rw [blk_snoc, hki.out]
        have Hsn := Lib.hid hsn
        have Hk := Lib.hid (show (k + 1) * z = i + z by rw [Nat.add_mul, Nat.one_mul, hki.out])
        have sz := hb.size
        have bl := bk.len
        rw [blk_len] at bl
        have Bl := Lib.hid bl
        have htI : (i : Int) + (z : Int) - (i : Int) = (z : Int) := by omega
        clear hsn bl
        have oe := own_empty (α := Int) (sz := 1) (enc := encI) w6 w6.heap.size 3 (Nat.le_refl _)
        have arT2 := arT.keep (below_alloc hb (.cells #[] 3))
        have oby : (([] : List Int).length + ((l.drop i).take z).length) * 8 ≤ 140737488355328 := by rw [htl]; simp; omega
        have osz : w6.heap.size ≤ (w6.alloc (.cells #[] 3)).heap.size := by simp
        have apv0 := fun (v8 : Value) (w8 : World) (o8 : Own w8 w6.heap.size 3 1 encI v8 ((l.drop i).take z)) => (ap_low bk.own o8 : Ap v8 u6)
        have apr0 := fun (v8 : Value) (w8 : World) (o8 : Own w8 w6.heap.size 3 1 encI v8 ((l.drop i).take z)) (q : Nat) (a : It) (ha : items[q]? = some a) => (by
          obtain ⟨lq, hlq⟩ : ∃ lq, (blk l z k)[q]? = some lq := ⟨_, List.getElem?_eq_getElem (by rw [← bk.len]; exact (List.getElem?_eq_some_iff.1 ha).1)⟩
          exact (ap_low (bk.row q a lq ha hlq).1 o8).symm : Ap a.enc v8)
        have nilT : some (⟨ab, ao + i, none⟩ : Addr) = none → c - i = 0 := fun h => by cases h
        have NilT := Lib.hid nilT
        have Htl2 := Lib.hid (show ((l.drop i).take z).length = i + z - i by rw [htl]; omega)
        clear nilT
        have Apv := Lib.hid apv0; have Apr := Lib.hid apr0
        have by1 : (items.length + 1) * 24 ≤ 140737488355328 := by rw [Bl.out]; omega
        clear apv0 apr0
        go_wp2_with (first
          | (at_builtin; refine wpList_appN rfl (.tmp 27) (.tmp 33) 22 rfl w6.heap.size 3 i0 _ 1 8 Try.underlying22 Hi.out Hz0.out Hz1.out Hz2.out rfl (by decide) encI_len encI_one _ ([] : List Int) ((l.drop i).take z) (some ⟨ab, ao + i, none⟩) (i + z - i) (c - i) w.heap.size Htl2.out rfl oe rfl arT2 NilT.out oby (by decide) osz ?_; intro v8 w8 own8 hb8; rw [List.nil_append] at own8; have q8 : Below w6.heap.size w6 w8 := (below_alloc (Below.refl _ _) _).trans hb8; obtain ⟨A8, c8, hv8, l8, m8, _, _⟩ := own8.form encI_len; rw [htl] at hv8 l8; subst hv8; have bk8 := bk.below q8; have sz8 := Nat.le_trans sz q8.size; have oit : Own w8 w.heap.size 22 1 (fun x => [It.enc x]) u6 items := bk8.own)
          | (at_builtin; refine wpList_snocS (g := w8.heap.size) rfl (.tmp 26) (.tmp 35) 27 rfl w.heap.size 22 j0 _ 1 24 Try.underlying27 Ji.out Jz0.out Jz1.out Jz2.out rfl (by decide) (enc := fun x => [It.enc x]) _ items ⟨A8, z, c8⟩ #[.slice A8 z c8] 22 rfl oit rfl rfl rfl (It.one _) by1 (by decide) sz8 rfl ?_; intro v10 w10 own10 hg10 hat10))
        have bk10 := bk8.push hg10 hat10 own10 (own_base own8 sz) (Apv.out _ _ own8) (Apr.out _ _ own8)
        rw [← Hsn.out] at bk10
        have b10 : Below w.heap.size w w10 := (hb.trans (q8.mono sz)).grown hg10 sz8 (fun x hx => (World.ownsRow.lt bk8.own x hx).1)
        exact ⟨⟨k + 1, i + z, items ++ [⟨A8, z, c8⟩], by go_num, Hk, by omega, hk1, bk10, b10⟩, by simp [intOf]; omega⟩
  · have ways : decide (z < 1) = true ∧ bkE l.length z = 3 ∨ (decide (z < 1) = false ∧ decide (512 < z) = true ∧ bkE l.length z = 3) ∨ (decide (z < 1) = false ∧ decide (512 < z) = false ∧ decide (4096 < (n : Int)) = true ∧ bkE l.length z = 5) := by
      rw [hn]
      unfold bkE at *
      by_cases h1 : z < 1
      · left; exact ⟨by simpa using h1, by rw [if_pos (by simp [betwB]; omega)]⟩
      · by_cases h2 : 512 < z
        · right; left; exact ⟨by simpa using h1, by simpa using h2, by rw [if_pos (by simp [betwB]; omega)]⟩
        · right; right
          have hb : ¬ betwB z 1 512 = false := by simp [betwB]; omega
          rw [if_neg hb] at h ⊢
          by_cases h4 : 4096 < n
          · exact ⟨by simpa using h1, by simpa using h2, by simp; omega, by rw [if_pos h4]⟩
          · rw [if_neg h4] at h; exact (h rfl).elim
    clear h
    rcases ways with ⟨g1, e1⟩ | ⟨g1, g2, e1⟩ | ⟨g1, g2, g3, e1⟩
    all_goals (
      have E1 := Lib.hid e1
      clear e1
      go_enter Try.func10, Try.ntmps10
      go_wp2_with fail
      go_ret2
      exact bkR_bad E1.out (by decide) (Below.refl _ _))

end Go.Proofs.Ytmlppnapodamaaa
