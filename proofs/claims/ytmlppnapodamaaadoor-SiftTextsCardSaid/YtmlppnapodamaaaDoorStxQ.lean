/- Contract of the reference's Parse of announcements. For texts of at most 65536 bytes. -/
import Derived.Test.YtmlppnapodamaaaDoorStxR
import Derived.Test.YtmlppnapodamaaaDoorApt
import Derived.Test.YtmlppnapodamaaaDoorAnn
import Derived.RegionTactic
import Derived.ChangeAlike
import Derived.Deep.RegionHeld3
namespace Go.Proofs.YtmlppnapodamaaaDoor
open Go.RowKit
set_option linter.unusedVariables false
set_option linter.unusedSimpArgs false

theorem byte_at (S : List UInt8) (i : Nat) (h : i < S.length) (hp : i < (⟨S.toArray⟩ : ByteArray).size) : (⟨S.toArray⟩ : ByteArray)[i] = S[i] := by
  show S.toArray[i] = S[i]
  simp
theorem int_info4 : (Tryd.prog.info? 3).map (fun i => (i.zero, i.size, i.bytes)) = some (some (.int .i64 0), 1, 8) := by kernel_rfl
/-- The announcements and the numbers, side by side. -/
structure Two (w : World) (B : Nat) (vo vn : Value) (L : List Hrd) (M : List Int) : Prop where
  o : Own w B 41 2 Hrd.enc vo L
  n : Own w B 3 1 encI vn M
  ap : Ap vn vo
section
variable {w w' : World} {B : Nat} {vo vn vo' vn' : Value} {L L' : List Hrd} {M M' : List Int}
theorem Two.below (h : Two w B vo vn L M) (hb : Below w.heap.size w w') : Two w' B vo vn L M := ⟨h.o.below hb, h.n.below hb, h.ap⟩
theorem Two.push (h : Two w B vo vn L M) (hg : w.grownBy w' vn.ownBlock) (hat : At w vn vn') (ho : Own w' B 3 1 encI vn' M') : Two w' B vo vn' L M' :=
  ⟨own_new h.o h.ap.symm hg, ho, (ap_new h.o h.ap.symm hat).symm⟩
theorem own_ptr' {α : Type} {e z : Nat} {enc : α → List Value} {v : Value} {l : List α} (h : Own w B e z enc v l) (hl : 0 < l.length) : ∃ g c, v = .slice (some ⟨g, 0, none⟩) l.length c ∧ B ≤ g ∧ g < w.heap.size := by
  rcases h.2 with ⟨_, h0⟩ | ⟨g, cap, cur, rfl, hb, hg, _⟩
  · omega
  · exact ⟨g, cap, rfl, hb, (Array.getElem?_eq_some_iff.1 hg).1⟩
end
theorem grown_setW (x : World) (b o : Nat) (v : Value) : x.grownBy (x.setCell ⟨b, o, none⟩ v) (some b) :=
  ⟨(Below.refl 0 x |>.setCell (Nat.zero_le _) v).os, (Below.refl 0 x |>.setCell (Nat.zero_le _) v).tape, (Below.refl 0 x |>.setCell (Nat.zero_le _) v).output, (Below.refl 0 x |>.setCell (Nat.zero_le _) v).size, fun j _ hn => Below.heap_setCell x _ _ j (by simpa using hn)⟩
theorem refS_line {I : List Int} {x : Int} {out : List Hrd} {c : UInt8} {r : List UInt8} (h : c.toNat = 10) {y : Int} (hI : I = [y]) : refS I x out (c :: r) = refS [] 0 (out ++ [⟨y, x⟩]) r := by
  subst hI; rw [refS, if_pos ⟨h, rfl⟩]; rfl
theorem refS_space {I : List Int} {x : Int} {out : List Hrd} {c : UInt8} {r : List UInt8} (h : c.toNat = 32) : refS I x out (c :: r) = refS (I ++ [x]) 0 out r := by
  rw [refS, if_neg (by omega), if_pos h]
theorem refS_digit {I : List Int} {x : Int} {out : List Hrd} {c : UInt8} {r : List UInt8} (h1 : 48 ≤ c.toNat) (h2 : c.toNat ≤ 57) (hx : x < 4096) : refS I x out (c :: r) = refS I (10 * x + ((c.toNat : Int) - 48)) out r := by
  rw [refS, if_neg (by omega), if_neg (by omega), if_pos ⟨h1, h2, hx⟩]
theorem refS_bad {I : List Int} {x : Int} {out : List Hrd} {c : UInt8} {r : List UInt8} (h10 : ¬ (c.toNat = 10 ∧ I.length = 1)) (h32 : c.toNat ≠ 32) (h : ¬ (48 ≤ c.toNat ∧ c.toNat ≤ 57 ∧ x < 4096)) : refS I x out (c :: r) = none := by
  rw [refS, if_neg h10, if_neg h32, if_neg h]
theorem set_last (I : List Int) (x y : Int) : (I ++ [x]).set I.length y = I ++ [y] := by simp

set_option maxRecDepth 100000 in
set_option maxHeartbeats 4000000 in
theorem rParseH_any (S : List UInt8) (w : World) (hS : S.length ≤ 65536) :
    Calls Tryd.prog 8 #[.string ⟨S.toArray⟩] w fun e w' => ∃ v E L, e = .returned (.tuple #[v, .int .i64 E]) ∧ Own w' w.heap.size 41 2 Hrd.enc v L ∧ ReadH S E L ∧ L.length ≤ 65536 ∧ Below w.heap.size w w' := by
  obtain ⟨i0, hi, hz0, hz1, hz2⟩ := info_parts heard_info
  have Hi := Lib.hid hi; have Hz0 := Lib.hid hz0; have Hz1 := Lib.hid hz1; have Hz2 := Lib.hid hz2
  clear hi hz0 hz1 hz2
  obtain ⟨n0, ni, nz0, nz1, nz2⟩ := info_parts int_info4
  have Ni := Lib.hid ni; have Nz0 := Lib.hid nz0; have Nz1 := Lib.hid nz1; have Nz2 := Lib.hid nz2
  clear ni nz0 nz1 nz2
  have hsz : (⟨S.toArray⟩ : ByteArray).size = S.length := by show S.toArray.size = _; simp
  have d1 : decide (65536 < (S.length : Int)) = false := by simp; omega
  go_enter Tryd.func8, Tryd.ntmps8
  go_wp2_with fail
  go_loopw [4, 5, 6] (fun vo vn iv wr => ∃ (k : Nat) (I : List Int) (x : Int) (L : List Hrd), k ≤ S.length ∧ iv = .int .i64 k ∧ I.length ≤ k ∧ L.length ≤ k ∧ 0 ≤ x ∧ x ≤ 40959 ∧ Hid (refS I x L (S.drop k) = refS [] 0 [] S) ∧ Two wr w.heap.size vo vn L (I ++ [x]) ∧ Below w.heap.size w wr) (fun _ _ i _ => S.length - (intOf i).toNat)
  case atStart =>
    refine ⟨0, [], 0, [], Nat.zero_le _, rfl, by simp, by simp, by decide, by decide, Lib.hid rfl, ⟨Own.nil, ?_, .inr (by simp [Value.ownBlock])⟩, below_alloc (Below.refl _ _) _⟩
    exact own_lit (enc := encI) (sz := 1) w w.heap.size 3 [0] #[.int .i64 0] 1 (Nat.le_refl _) rfl (by unfold maxLen; omega) rfl rfl
  case round =>
    obtain ⟨k, I, x, L, hk, rfl, hI, hL, x0, x1, hinv, two, hb⟩ := hrel
    obtain ⟨w6, rfl⟩ : ∃ w6, w6 = wr := ⟨_, rfl⟩
    obtain ⟨N, hN⟩ : ∃ N, (I ++ [x]).length = N := ⟨_, rfl⟩
    have hN1 : N = I.length + 1 := by rw [← hN]; simp
    obtain ⟨m, hm⟩ : ∃ m, I.length = m := ⟨_, rfl⟩
    have hNm : (N : Int) - 1 = (m : Int) := by omega
    obtain ⟨gn, cn, hvn, hn1, hn2⟩ := own_ptr' two.n (by rw [hN]; omega)
    rw [hN] at hvn
    subst hvn
    by_cases hlt : k < S.length
    · have d2 : decide (k < S.length) = true := by simp; omega
      have hp : k < (⟨S.toArray⟩ : ByteArray).size := by rw [hsz]; exact hlt
      obtain ⟨c, hc⟩ : ∃ c, S[k] = c := ⟨_, rfl⟩
      have hdr : S.drop k = c :: S.drop (k + 1) := by rw [← hc]; exact List.drop_eq_getElem_cons hlt
      obtain ⟨n, hn⟩ : ∃ n, c.toNat = n := ⟨_, rfl⟩
      have n256 : n < 256 := by rw [← hn]; exact c.toNat_lt
      have hbt : ((⟨S.toArray⟩ : ByteArray)[k]'hp).toNat = n := by rw [byte_at S k hlt hp, hc, hn]
      have hinv2 := hinv.out
      rw [hdr] at hinv2
      have cx : w6.cell? ⟨gn, m, none⟩ = some (.int .i64 x) := Own.at1 (f := Value.int .i64) two.n hN (by rw [← hm]; simp)
      have fx : w6.frozen? ⟨gn, m, none⟩ = false := Own.fr1 (f := Value.int .i64) two.n hN m
      have mN : (m : Int) < (N : Int) := by omega
      have mb : m ≤ 65536 := by omega
      have nvo : some gn ≠ u4.ownBlock := by
        rcases two.ap with h | h
        · cases h
        · exact h
      have sz := hb.size
      clear hsz hdr hc
      by_cases h10 : n = 10 ∧ m = 1
      · obtain ⟨hn10, hm1⟩ := h10
        obtain ⟨y, rfl⟩ : ∃ y, I = [y] := List.length_eq_one_iff.1 (by omega)
        rw [refS_line (by omega) rfl] at hinv2
        have Hinv2 := Lib.hid hinv2
        obtain rfl : m = 1 := hm1
        obtain rfl : N = 2 := by omega
        obtain rfl : n = 10 := hn10
        have cy : w6.cell? ⟨gn, 0, none⟩ = some (.int .i64 y) := Own.at1 (f := Value.int .i64) two.n hN (by simp)
        have Hbt := hbt
        have oo := two.o
        clear hinv2 hn hNm hm hN hN1 two fx
        go_wp2_with fail
        have nb1 : w6.heap.size ≠ gn := by omega
        go_region_held3 (fun w' => w'.cell? ⟨gn, 0, none⟩ = some (.int .i64 y) ∧ w'.cell? ⟨gn, 1, none⟩ = some (.int .i64 x))
          (first | go_keep | (go_split_ands; exact ⟨hg5.cell (by assumption) nvo, hg5.cell (by assumption) nvo⟩))
          ((refine step_snocG (by rfl) _ _ 22 (by rfl) w.heap.size 41 i0 _ 2 16 Tryd.underlying22 Hi.out Hz0.out Hz1.out Hz2.out rfl (by decide) _ L ⟨y, x⟩ (by rfl) ((oo.alloc _).drew) (by rfl) (news_new rfl) rfl (Hrd.one _) (by omega) (by decide) (by simp; omega) ?_; intro v5 w5 own5 hb5 hg5))
        go_wp2_with fail
        have s5 := hb5.size
        have q5 : Below w.heap.size w w5 := ((below_alloc hb _).drew).trans hb5
        exact ⟨⟨k + 1, [], 0, L ++ [⟨y, x⟩], by omega, by go_num, by simp, by simp; omega, by decide, by decide, Hinv2, ⟨own5.alloc _, own_lit (enc := encI) (sz := 1) w5 w.heap.size 3 [0] #[.int .i64 0] 1 q5.size rfl (by unfold maxLen; omega) rfl rfl, ap_low own5 (own_lit (enc := encI) (sz := 1) w5 w5.heap.size 3 [0] #[.int .i64 0] 1 (Nat.le_refl _) rfl (by unfold maxLen; omega) rfl rfl)⟩, below_alloc q5 _⟩, by simp [intOf]; omega⟩
      by_cases h32 : n = 32
      · obtain rfl : n = 32 := h32
        rw [refS_space (by omega)] at hinv2
        have Hinv2 := Lib.hid hinv2
        have Hm := Lib.hid hm; have HN := Lib.hid hN
        have oby : ((I ++ [x]).length + 1) * 8 ≤ 140737488355328 := by simp; omega
        have nn := two.n
        clear hinv2 hn hm hN hN1 h10 x0 x1 cx fx
        go_wp2_with (at_builtin; refine wpList_snocS (g := w6.heap.size) rfl _ _ 55 rfl w.heap.size 3 n0 _ 1 8 Tryd.underlying55 Ni.out Nz0.out Nz1.out Nz2.out rfl (by decide) _ (I ++ [x]) 0 #[.int .i64 0] 3 rfl nn rfl rfl rfl (encI_one _) oby (by decide) sz rfl ?_; intro v5 w5 own5 hg5 hat5)
        exact ⟨⟨k + 1, I ++ [x], 0, L, by omega, by go_num, by simp; omega, by omega, by decide, by decide, Hinv2, two.push hg5 hat5 own5, hb.grown hg5 sz (fun g hg => (World.ownsRow.lt nn g hg).1)⟩, by simp [intOf]; omega⟩
      have e10 : (((n : Int) == 10) = true ∧ ((N : Int) == 2) = false) ∨ ((n : Int) == 10) = false := by
        by_cases h : n = 10
        · exact .inl ⟨by simp; omega, by simp; omega⟩
        · exact .inr (by simp; omega)
      have e32 : ((n : Int) == 32) = false := by simp; omega
      by_cases hd : 48 ≤ n ∧ n ≤ 57 ∧ x < 4096
      · obtain ⟨g1, g2, g3⟩ := hd
        rw [refS_digit (by omega) (by omega) g3] at hinv2
        have e10' : ((n : Int) == 10) = false := by simp; omega
        have d3 : decide ((48 : Int) ≤ (n : Int)) = true := by simp; omega
        have d4 : decide ((n : Int) ≤ 57) = true := by simp; omega
        have d5 : decide (x < 4096) = true := by simpa using g3
        obtain ⟨d, hd⟩ : ∃ d, n - 48 = d := ⟨_, rfl⟩
        have hd9 : d ≤ 9 := by omega
        have hnd : (n : Int) - 48 = (d : Int) := by omega
        have hinv3 : refS I (10 * x + (d : Int)) L (S.drop (k + 1)) = refS [] 0 [] S := by rw [← hinv2, hn, hnd]
        have Hinv2 := Lib.hid hinv3
        have Hm := Lib.hid hm
        have HN := Lib.hid hN
        clear hinv2 hinv3 hn hm hN hN1 h10 h32 hd e10
        have hset := Own.set1 (f := Value.int .i64) two.n HN.out m (10 * x + (d : Int))
        have hval : (I ++ [x]).set m (10 * x + (d : Int)) = I ++ [10 * x + (d : Int)] := by rw [← Hm.out]; exact set_last _ _ _
        rw [hval] at hset
        have two5 : Two (w6.setCell ⟨gn, m, none⟩ (.int .i64 (10 * x + (d : Int)))) w.heap.size u4 (.slice (some ⟨gn, 0, none⟩) N cn) L (I ++ [10 * x + (d : Int)]) := ⟨own_new two.o two.ap.symm (grown_setW _ _ _ _), hset, two.ap⟩
        have hb5 : Below w.heap.size w (w6.setCell ⟨gn, m, none⟩ (.int .i64 (10 * x + (d : Int)))) := hb.setCell hn1 _
        clear hset hval
        go_wp2_with fail
        go_region
        all_goals (
          go_wp2_with fail
          exact ⟨⟨k + 1, I, 10 * x + (d : Int), L, by omega, by go_num, by omega, by omega, by omega, by omega, Hinv2, ⟨two5.o, two5.n, two5.ap⟩, hb5.drew⟩, by simp [intOf]; omega⟩)
      have hbad : refS [] 0 [] S = none := by rw [← hinv2]; exact refS_bad (by omega) (by omega) (by omega)
      have hR := ref_none hbad
      have ways : decide ((48 : Int) ≤ (n : Int)) = false ∨ (decide ((48 : Int) ≤ (n : Int)) = true ∧ decide ((n : Int) ≤ 57) = false) ∨ (decide ((48 : Int) ≤ (n : Int)) = true ∧ decide ((n : Int) ≤ 57) = true ∧ decide (x < 4096) = false) := by simp; omega
      clear hbad hinv2 hd h10 h32 hn hm hN hN1
      rcases e10 with ⟨e10, e2⟩ | e10 <;> rcases ways with d3 | ⟨d3, d4⟩ | ⟨d3, d4, d5⟩
      all_goals (
        go_wp2_with fail
        go_ret2
        exact ⟨_, 6, [], rfl, Own.nil, hR, by decide, hb⟩)
    · obtain rfl : k = S.length := by omega
      have hd0 : S.drop S.length = [] := List.drop_length
      have hinv2 := hinv.out
      rw [hd0, refS] at hinv2
      have hR := read_ref hinv2.symm
      obtain ⟨A, c, rfl, lc, mc, nc, ar⟩ := two.o.form Hrd.enc_len
      have cT := rTextH_any A c L w6 ar (by omega)
      have d2 : decide (S.length < S.length) = false := by simp
      have d2' : decide ((S.length : Int) < (S.length : Int)) = false := by simp
      have oo := two.o
      clear hlt hinv2 hd0 hN1 hm hNm hN
      rcases hR with ⟨h1, h2, h3⟩ | ⟨h1, h3⟩
      · rw [if_pos h1, h1, h2] at cT
        clear h1 h2
        go_wp2_with (go_at_call 6; refine cT.mono ?_; rintro e w7 ⟨rfl, hb7⟩)
        go_ret2
        exact ⟨_, 0, L, rfl, oo.below hb7, h3, by omega, below_trans hb hb7⟩
      · by_cases h0 : hdE L = 0
        · rw [if_pos h0, h0] at cT
          have h2 : (textH L == S) = false := by simpa using fun h => h1 ⟨h0, h⟩
          have h2' : (textH L != S) = true := by simpa using fun h => h1 ⟨h0, h⟩
          clear h1 h0
          generalize textH L = T at *
          go_wp2_with (go_at_call 6; refine cT.mono ?_; rintro e w7 ⟨rfl, hb7⟩)
          go_ret2
          exact ⟨_, 6, [], rfl, Own.nil, h3, by decide, below_trans hb hb7⟩
        · rw [if_neg h0] at cT
          have h0' : (hdE L != 0) = true := by simpa using h0
          generalize hdE L = E at *
          clear h1 h0
          go_wp2_with (go_at_call 6; refine cT.mono ?_; rintro e w7 ⟨rfl, hb7⟩)
          go_ret2
          exact ⟨_, 6, [], rfl, Own.nil, h3, by decide, below_trans hb hb7⟩

end Go.Proofs.YtmlppnapodamaaaDoor
