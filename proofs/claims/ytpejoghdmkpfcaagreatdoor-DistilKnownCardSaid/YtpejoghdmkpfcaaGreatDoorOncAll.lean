/- Words for four slices of a call's own that grow side by side, one of them with rows. No condition. Pools that lie between two blocks; what the numbers of one side are; what a pool of the width 8 answers to messages of 8 bits. No condition. Two pools and four slices side by side, and what each step does to them. No condition. What opening a message does to two pools and four slices. No condition. -/
import Derived.Test.YtpejoghdmkpfcaaGreatDoorRws
import Derived.Test.YtpejoghdmkpfcaaGreatDoorMixA
import Derived.Maps.AppendAt
import Derived.Test.YtpejoghdmkpfcaaGreatDoorPolAll
namespace Go.Proofs.YtpejoghdmkpfcaaGreatDoor
open Go.RowKit
set_option linter.unusedVariables false
set_option linter.unusedSimpArgs false

/-- Two values whose blocks are not the same. -/
def Ap (u v : Value) : Prop := u.ownBlock = none ∨ u.ownBlock ≠ v.ownBlock
theorem Ap.symm {u v : Value} (h : Ap u v) : Ap v u := by
  unfold Ap at *
  rcases h with h | h
  · cases hv : v.ownBlock with
    | none => exact .inl rfl
    | some x => exact .inr (by rw [h]; simp)
  · exact .inr fun e => h e.symm
/-- The value x' lies where x lay, or in a block that is new. -/
def At (w : World) (x x' : Value) : Prop := x'.ownBlock = x.ownBlock ∨ ∃ H, x'.ownBlock = some H ∧ w.heap.size ≤ H
section
variable {α β : Type} {w w' : World} {b e z : Nat} {enc : α → List Value} {u x x' : Value} {l : List α}
theorem ap_new (h : Own w b e z enc u l) (ha : Ap u x) (hat : At w x x') : Ap u x' := by
  rcases hat with hat | ⟨H, hat, hH⟩
  · unfold Ap; rw [hat]; exact ha
  · unfold Ap
    cases hu : u.ownBlock with
    | none => exact .inl rfl
    | some g =>
      have := (World.ownsRow.lt h g hu).2
      exact .inr (by rw [hat]; simp; omega)
theorem own_new (h : Own w b e z enc u l) (ha : Ap u x) (hg : w.grownBy w' x.ownBlock) : Own w' b e z enc u l := h.keep hg ha
theorem ap_low {v : Value} {f : β → List Value} {l2 : List β} {e2 z2 : Nat} (h : Own w b e z enc u l) (h2 : Own w' w.heap.size e2 z2 f v l2) : Ap v u := by
  unfold Ap
  cases hv : v.ownBlock with
  | none => exact .inl rfl
  | some g =>
    refine .inr fun hu => ?_
    have h3 := (World.ownsRow.lt h2 g hv).1
    have h4 := (World.ownsRow.lt h g hu.symm).2
    omega
end

def encU (n : Nat) : List Value := [.int .u64 n]
def encN (n : Nat) : List Value := [.int .i64 n]
theorem encU_len (n : Nat) : (encU n).length = 1 := rfl
theorem encN_len (n : Nat) : (encN n).length = 1 := rfl
theorem encU_one (n : Nat) : ∀ u ∈ encU n, u.oneCell' = true := by simp [encU, Value.oneCell']
theorem encN_one (n : Nat) : ∀ u ∈ encN n, u.oneCell' = true := by simp [encN, Value.oneCell']
theorem onc_u64 : (Tryz.prog.info? 27).map (fun i => (i.zero, i.size, i.bytes)) = some (some (.int .u64 0), 1, 8) := by kernel_rfl
theorem onc_int : (Tryz.prog.info? 3).map (fun i => (i.zero, i.size, i.bytes)) = some (some (.int .i64 0), 1, 8) := by kernel_rfl

/-- The four slices. -/
structure Four (w : World) (B : Nat) (vs vt vn vo : Value) (its : List It) (ys tg ns : List Nat) (op : List Bool) : Prop where
  len : its.length = ys.length
  os : Own w B 22 1 (fun x => [It.enc x]) vs its
  ot : Own w B 27 1 encU vt tg
  on_ : Own w B 3 1 encN vn ns
  oo : Own w B 4 1 (fun x => [Value.bool x]) vo op
  rows : ∀ (k : Nat) (it : It) (y : Nat), its[k]? = some it → ys[k]? = some y → Own w B 4 1 encB it.enc (numL y 8) ∧ Ap it.enc vs ∧ Ap it.enc vt ∧ Ap it.enc vn ∧ Ap it.enc vo
  aST : Ap vs vt
  aSN : Ap vs vn
  aSO : Ap vs vo
  aTN : Ap vt vn
  aTO : Ap vt vo
  aNO : Ap vn vo
section
variable {w w' : World} {B : Nat} {vs vt vn vo : Value} {its : List It} {ys tg ns : List Nat} {op : List Bool}
theorem Four.nil {w : World} {vo : Value} {op : List Bool} (h : Own w B 4 1 (fun x => [Value.bool x]) vo op) : Four w B (.slice none 0 0) (.slice none 0 0) (.slice none 0 0) vo [] [] [] [] op :=
  ⟨rfl, Own.nil, Own.nil, Own.nil, h, fun k it y hk => by simp at hk, .inl rfl, .inl rfl, .inl rfl, .inl rfl, .inl rfl, .inl rfl⟩
/-- A block that is none of theirs was written. -/
theorem Four.keep (h : Four w B vs vt vn vo its ys tg ns op) {row : Option Nat} (hg : w.grownBy w' row) (hr : ∀ g, row = some g → g < B) : Four w' B vs vt vn vo its ys tg ns op := by
  have ne : ∀ {α : Type} {e z : Nat} {enc : α → List Value} {v : Value} {l : List α}, Own w B e z enc v l → (v.ownBlock = none ∨ v.ownBlock ≠ row) := by
    intro α e z enc v l ho
    cases hv : v.ownBlock with
    | none => exact .inl rfl
    | some g =>
      refine .inr fun hrow => ?_
      have h1 := (World.ownsRow.lt ho g hv).1
      have h2 := hr g hrow.symm
      omega
  exact ⟨h.len, h.os.keep hg (ne h.os), h.ot.keep hg (ne h.ot), h.on_.keep hg (ne h.on_), h.oo.keep hg (ne h.oo), fun k it y h1 h2 => by
    obtain ⟨r1, r2⟩ := h.rows k it y h1 h2
    exact ⟨r1.keep hg (ne r1), r2⟩, h.aST, h.aSN, h.aSO, h.aTN, h.aTO, h.aNO⟩
theorem Four.below (h : Four w B vs vt vn vo its ys tg ns op) (hb : Below w.heap.size w w') : Four w' B vs vt vn vo its ys tg ns op := h.keep (grown_of_below hb) (fun g hg => by cases hg)
theorem Four.setT (h : Four w B vs vt vn vo its ys tg ns op) {vt' : Value} {tg' : List Nat} (hg : w.grownBy w' vt.ownBlock) (hat : At w vt vt') (ho : Own w' B 27 1 encU vt' tg') : Four w' B vs vt' vn vo its ys tg' ns op :=
  ⟨h.len, own_new h.os h.aST hg, ho, own_new h.on_ h.aTN.symm hg, own_new h.oo h.aTO.symm hg, fun k it y h1 h2 => by
    obtain ⟨r1, r2, r3, r4, r5⟩ := h.rows k it y h1 h2
    exact ⟨own_new r1 r3 hg, r2, ap_new r1 r3 hat, r4, r5⟩, ap_new h.os h.aST hat, h.aSN, h.aSO, (ap_new h.on_ h.aTN.symm hat).symm, (ap_new h.oo h.aTO.symm hat).symm, h.aNO⟩
theorem Four.setN (h : Four w B vs vt vn vo its ys tg ns op) {vn' : Value} {ns' : List Nat} (hg : w.grownBy w' vn.ownBlock) (hat : At w vn vn') (ho : Own w' B 3 1 encN vn' ns') : Four w' B vs vt vn' vo its ys tg ns' op :=
  ⟨h.len, own_new h.os h.aSN hg, own_new h.ot h.aTN hg, ho, own_new h.oo h.aNO.symm hg, fun k it y h1 h2 => by
    obtain ⟨r1, r2, r3, r4, r5⟩ := h.rows k it y h1 h2
    exact ⟨own_new r1 r4 hg, r2, r3, ap_new r1 r4 hat, r5⟩, h.aST, ap_new h.os h.aSN hat, h.aSO, ap_new h.ot h.aTN hat, h.aTO, (ap_new h.oo h.aNO.symm hat).symm⟩
theorem Four.setO (h : Four w B vs vt vn vo its ys tg ns op) {op' : List Bool} (hg : w.grownBy w' vo.ownBlock) (ho : Own w' B 4 1 (fun x => [Value.bool x]) vo op') : Four w' B vs vt vn vo its ys tg ns op' :=
  ⟨h.len, own_new h.os h.aSO hg, own_new h.ot h.aTO hg, own_new h.on_ h.aNO hg, ho, fun k it y h1 h2 => by
    obtain ⟨r1, r2, r3, r4, r5⟩ := h.rows k it y h1 h2
    exact ⟨own_new r1 r5 hg, r2, r3, r4, r5⟩, h.aST, h.aSN, h.aSO, h.aTN, h.aTO, h.aNO⟩
theorem Four.setS (h : Four w B vs vt vn vo its ys tg ns op) {vs' : Value} {it : It} {y : Nat} (hg : w.grownBy w' vs.ownBlock) (hat : At w vs vs') (ho : Own w' B 22 1 (fun x => [It.enc x]) vs' (its ++ [it]))
    (hr : Own w B 4 1 encB it.enc (numL y 8)) (hs : Ap it.enc vs) (at_ : Ap it.enc vt) (an : Ap it.enc vn) (ao : Ap it.enc vo) : Four w' B vs' vt vn vo (its ++ [it]) (ys ++ [y]) tg ns op := by
  refine ⟨by simp [h.len], ho, own_new h.ot h.aST.symm hg, own_new h.on_ h.aSN.symm hg, own_new h.oo h.aSO.symm hg, fun k it' y' h1 h2 => ?_, (ap_new h.ot h.aST.symm hat).symm, (ap_new h.on_ h.aSN.symm hat).symm, (ap_new h.oo h.aSO.symm hat).symm, h.aTN, h.aTO, h.aNO⟩
  rcases Nat.lt_or_ge k its.length with hk | hk
  · rw [List.getElem?_append_left hk] at h1
    rw [List.getElem?_append_left (by rw [← h.len]; exact hk)] at h2
    obtain ⟨r1, r2, r3, r4, r5⟩ := h.rows k it' y' h1 h2
    exact ⟨own_new r1 r2 hg, ap_new r1 r2 hat, r3, r4, r5⟩
  · have hke : k = its.length := by
      have := (List.getElem?_eq_some_iff.1 h1).1
      simp at this; omega
    subst hke
    rw [List.getElem?_append_right (Nat.le_refl _), Nat.sub_self] at h1
    rw [List.getElem?_append_right (by rw [h.len]; exact Nat.le_refl _), h.len, Nat.sub_self] at h2
    obtain rfl : it = it' := by simpa using h1
    obtain rfl : y = y' := by simpa using h2
    exact ⟨own_new hr hs hg, ap_new hr hs hat, at_, an, ao⟩
end

/-- 'out = append(out, x)': out is the call's own: where the new slice lies is said, too. -/
theorem wpList_snocG {P : Program} {w0 : World} {ops : Array Oper} {rest : List Oper} {o : Oper} {a : Act} {Q : Exit → Act → World → Prop} (hgd : o.guard = none) (s x : Operand) (t : TypeId)
    (ho : o.op = .call { callee := .builtin .append, args := #[s, x], argTypes := #[t, t] })
    (base : Nat) (e : TypeId) (i : TypeInfo) (z : Value) (bytes : Nat) (ht : P.underlying t = some (.slice e)) (hi : P.info? e = some i) (hz : i.zero = some z)
    (hsize : i.size = 1) (hby : i.bytes = bytes) (hzs : z.cells.size = 1)
    {α : Type} {enc : α → List Value} (v : Value) (l : List α) (x0 : α) (hs : a.eval s = v) (hown : Own w0 base e 1 enc v l)
    {g : Nat} (hx : a.eval x = .slice (some ⟨g, 0, none⟩) 1 1) (hc : ∀ u, enc x0 = [u] → w0.cell? ⟨g, 0, none⟩ = some u) (hlen : (enc x0).length = 1) (h1 : ∀ u ∈ enc x0, u.oneCell' = true)
    (hbytes : (l.length + 1) * bytes ≤ 140737488355328) (hbp : 0 < bytes) (hbase : base ≤ w0.heap.size)
    (h : ∀ v' w', Own w' base e 1 enc v' (l ++ [x0]) → w0.grownBy w' v.ownBlock → At w0 v v' → wpList P ops Q rest (a.put o.dst v') w') : wpList P ops Q (o :: rest) a w0 := by
  have h63 : l.length + 1 ≤ maxLen := by
    have := Nat.le_mul_of_pos_right (l.length + 1) hbp
    unfold maxLen; omega
  obtain ⟨u, hu⟩ : ∃ u, enc x0 = [u] := List.length_eq_one_iff.1 hlen
  refine wpList_append_own_at _ hgd s x t ho base e i z 1 bytes ht hi hz hsize hby hzs (by decide) v l.length (l.flatMap enc) hs hown ⟨g, 0, none⟩ 1 1 (enc x0) hx (by rw [hlen]) (fun j u' hu' => ?_) h1 h63 hbytes hbase (fun v' w' h2 h3 _ h5 => h v' w' (Own.snoc h2) h3 ?_)
  · rw [hu] at hu'
    cases j with
    | zero => obtain rfl : u = u' := by simpa using hu'
              exact hc u hu
    | succ j => simp at hu'
  · rcases h5 with h5 | h5
    · exact .inl h5
    · exact .inr ⟨_, h5, Nat.le_refl _⟩

end Go.Proofs.YtpejoghdmkpfcaaGreatDoor

namespace Go.Proofs.YtpejoghdmkpfcaaGreatDoor
open Go.RowKit Go.Maps
set_option linter.unusedVariables false
set_option linter.unusedSimpArgs false

/-- A pool all of whose blocks are from lo on, below hi. -/
structure PoolIn (lo hi : Nat) (w : World) (b nb mb W : Nat) (bits : List Bool) (u : List Nat) : Prop where
  p : PoolAt w b nb mb W bits u
  b1 : lo ≤ b ∧ b < hi
  n1 : lo ≤ nb ∧ nb < hi
  m1 : lo ≤ mb ∧ mb < hi
  a1 : ∀ A c, w.cell? ⟨b, 2, none⟩ = some (.slice A bits.length c) → ∀ a, A = some a → lo ≤ a.block ∧ a.block < hi
section
variable {lo hi : Nat} {w w' : World} {b nb mb W : Nat} {bits : List Bool} {u u' : List Nat}
theorem PoolIn.keep (h : PoolIn lo hi w b nb mb W bits u) {row : Option Nat} (hg : w.grownBy w' row) (hr : ∀ g, row = some g → g < lo ∨ hi ≤ g) : PoolIn lo hi w' b nb mb W bits u := by
  obtain ⟨p, b1, n1, m1, a1⟩ := h
  have ne : ∀ x, lo ≤ x ∧ x < hi → some x ≠ row := fun x hx he => by
    have := hr x he.symm
    omega
  obtain ⟨A0, c0, hc0, _⟩ := p.c2
  refine ⟨p.kept hg (ne _ b1) (ne _ n1) (ne _ m1) (fun A c hc a ha => ne _ (a1 A c hc a ha)), b1, n1, m1, fun A c hc a ha => ?_⟩
  rw [hg.cell hc0 (ne _ b1)] at hc
  cases hc
  exact a1 _ _ hc0 a ha
theorem PoolIn.below (h : PoolIn lo hi w b nb mb W bits u) (hb : Below w.heap.size w w') : PoolIn lo hi w' b nb mb W bits u := h.keep (grown_of_below hb) (fun g hg => by cases hg)
theorem PoolIn.next (h : PoolIn lo hi w b nb mb W bits u) (hg : w.grownBy w' (some mb)) (p' : PoolAt w' b nb mb W bits u') : PoolIn lo hi w' b nb mb W bits u' := by
  obtain ⟨p, b1, n1, m1, a1⟩ := h
  obtain ⟨A0, c0, hc0, _⟩ := p.c2
  refine ⟨p', b1, n1, m1, fun A c hc a ha => ?_⟩
  rw [hg.cell hc0 (by simpa using p.bm)] at hc
  cases hc
  exact a1 _ _ hc0 a ha
end
theorem NewPool_in (W : Nat) (hW : W = 8 ∨ W = 16 ∨ W = 32) (A : Option Addr) (c : Nat) (l : List Bool) (w : World) (hA : Arr 1 encB w w.heap.size A l) (nA : A = none → c = 0) (hl : l.length ≤ c) (hc : c ≤ maxLen) (hl2 : l.length ≤ 65536) :
    Calls Tryz.prog 9 #[.int .i64 W, .slice A l.length c] w fun e w' => ∃ b nb mb, e = .returned (.tuple #[.pointer (some ⟨b, 0, none⟩), .int .i64 0]) ∧ PoolIn w.heap.size w'.heap.size w' b nb mb W l [] ∧ Below w.heap.size w w' := by
  refine (NewPool_any W hW A c l w hA nA hl hc hl2).mono ?_
  rintro e w' ⟨b, nb, mb, rfl, p, h1, h2, h3, h4, hb⟩
  refine ⟨b, nb, mb, rfl, ⟨p, ⟨h1, World.block_lt_of_cell? _ _ p.c0⟩, ⟨h2, World.block_lt_of_cell? _ _ p.d0⟩, ⟨h3, p.us.lt⟩, fun A' c' hc' a ha => ⟨h4 A' c' hc' a ha, ?_⟩⟩, hb⟩
  obtain ⟨A0, c0, hc0, _, _, _, _, h5⟩ := p.c2
  rw [hc0] at hc'
  cases hc'
  exact (h5 a ha).2

/-- The first numbers of side 0, the last one first. -/
def evL : Nat → List Nat
  | 0 => []
  | j + 1 => 2 * j :: evL j
theorem evL_mem : ∀ (j x : Nat), x ∈ evL j ↔ ∃ i, i < j ∧ x = 2 * i
  | 0, x => by simp [evL]
  | j + 1, x => by
    rw [evL, List.mem_cons, evL_mem j x]
    constructor
    · rintro (rfl | ⟨i, h1, h2⟩)
      · exact ⟨j, by omega, rfl⟩
      · exact ⟨i, by omega, h2⟩
    · rintro ⟨i, h1, h2⟩
      by_cases hi : i = j
      · exact .inl (by rw [h2, hi])
      · exact .inr ⟨i, by omega, h2⟩
theorem evL_next : ∀ j, nxtK (evL j) 0 = 2 * j
  | 0 => rfl
  | j + 1 => by
    have e : nxtK (evL (j + 1)) 0 = if (2 * j) % 2 = 0 then max (nxtK (evL j) 0) (2 * j + 2) else nxtK (evL j) 0 := rfl
    rw [e, evL_next j, if_pos (by omega)]
    omega
theorem tgE_ok {key pad : Nat} {m : List Bool} (hk : key < 256) (hp : pad < 256) (hm : m.length ≤ 65536) : tgE (8 : Nat) key pad m = 0 ∧ tgN (8 : Nat) key pad m = hashN 8 key m ^^^ pad :=
  tg_ok key hp (hsh_ok (n := 8) (by decide) hk (by omega)).1
theorem pKey_lt {bits : List Bool} {n : Nat} : pKey 8 bits n < 256 := by
  have := bval_lt ((bits.drop (2 * 8 * n)).take 8)
  have h8 : 2 ^ ((bits.drop (2 * 8 * n)).take 8).length ≤ 2 ^ 8 := Nat.pow_le_pow_right (by decide) (by rw [List.length_take]; omega)
  exact Nat.lt_of_lt_of_le this h8
theorem pPad_lt {bits : List Bool} {n : Nat} : pPad 8 bits n < 256 := by
  have := bval_lt (((bits.drop (2 * 8 * n)).drop 8).take 8)
  have h8 : 2 ^ (((bits.drop (2 * 8 * n)).drop 8).take 8).length ≤ 2 ^ 8 := Nat.pow_le_pow_right (by decide) (by rw [List.length_take]; omega)
  exact Nat.lt_of_lt_of_le this h8
/-- The tag of a message of 8 bits, by a pool of 400 bits. -/
theorem once_seal {B : List Bool} (hB : B.length = 400) {u : List Nat} {n : Nat} (hn : n < 25) {m : List Bool} (hm : m.length = 8) :
    (n ∈ u → plE 8 B u n m = 16) ∧ (¬ n ∈ u → plE 8 B u n m = 0) ∧ plT 8 B n m = hashN 8 (pKey 8 B n) m ^^^ pPad 8 B n := by
  have h1 : ¬ ((n : Int) < 0) := by omega
  have h2 : ¬ (((B.length / (2 * 8) : Nat) : Int) ≤ (n : Int)) := by rw [hB]; omega
  have ht := tgE_ok (m := m) (pKey_lt (bits := B) (n := n)) (pPad_lt (bits := B) (n := n)) (by omega)
  refine ⟨fun hu => ?_, fun hu => ?_, ht.2⟩
  · unfold plE; rw [if_neg h1, if_neg h2]; simp [hu]
  · unfold plE; rw [if_neg h1, if_neg h2]
    have : ¬ (n : Int).toNat ∈ u := by simpa using hu
    rw [if_neg this]; exact ht.1
theorem once_open {B : List Bool} (hB : B.length = 400) {u : List Nat} {n : Nat} (hn : n < 25) {m m' : List Bool} (hm : m.length = 8) (hm' : m'.length = 8) :
    opE 8 B u n m' (plT 8 B n m) = if n ∈ u then 16 else if hashN 8 (pKey 8 B n) m' = hashN 8 (pKey 8 B n) m then 0 else 15 := by
  obtain ⟨a1, a2, a3⟩ := once_seal hB (u := u) hn hm
  obtain ⟨b1, b2, b3⟩ := once_seal hB (u := u) hn hm'
  unfold opE
  by_cases hu : n ∈ u
  · rw [if_pos hu, b1 hu]; rfl
  · rw [if_neg hu, b2 hu, if_pos rfl, a3, b3]
    have hx : hashN 8 (pKey 8 B n) m ^^^ pPad 8 B n = hashN 8 (pKey 8 B n) m' ^^^ pPad 8 B n ↔ hashN 8 (pKey 8 B n) m' = hashN 8 (pKey 8 B n) m := by
      constructor
      · intro h
        have := congrArg (· ^^^ pPad 8 B n) h
        simp only [Nat.xor_assoc, Nat.xor_self, Nat.xor_zero] at this
        exact this.symm
      · intro h; rw [h]
    by_cases hh : hashN 8 (pKey 8 B n) m' = hashN 8 (pKey 8 B n) m
    · rw [if_pos hh, if_pos (hx.2 hh)]
    · rw [if_neg hh, if_neg (fun h => hh (hx.1 h))]

end Go.Proofs.YtpejoghdmkpfcaaGreatDoor

namespace Go.Proofs.YtpejoghdmkpfcaaGreatDoor
open Go.RowKit Go.Maps
set_option linter.unusedVariables false
set_option linter.unusedSimpArgs false

structure Bun (v w : World) (L H ba nba mba bb nbb mbb : Nat) (Bt : List Bool) (ua ub : List Nat) (vs vt vn vo : Value) (its : List It) (ys tg ns : List Nat) (op : List Bool) : Prop where
  f : Four w H vs vt vn vo its ys tg ns op
  pa : PoolIn v.heap.size L w ba nba mba 8 Bt ua
  pb : PoolIn L H w bb nbb mbb 8 Bt ub
  hb : Below v.heap.size v w
  hs : H ≤ w.heap.size
  vl : v.heap.size ≤ L
  lh : L ≤ H
section
variable {v w w' : World} {L H ba nba mba bb nbb mbb : Nat} {Bt : List Bool} {ua ub : List Nat} {vs vt vn vo : Value} {its : List It} {ys tg ns : List Nat} {op : List Bool}
theorem Bun.below (h : Bun v w L H ba nba mba bb nbb mbb Bt ua ub vs vt vn vo its ys tg ns op) (hb : Below w.heap.size w w') : Bun v w' L H ba nba mba bb nbb mbb Bt ua ub vs vt vn vo its ys tg ns op :=
  ⟨h.f.below hb, h.pa.below hb, h.pb.below hb, below_trans h.hb hb, Nat.le_trans h.hs hb.size, h.vl, h.lh⟩
theorem Bun.sealA (h : Bun v w L H ba nba mba bb nbb mbb Bt ua ub vs vt vn vo its ys tg ns op) {ua' : List Nat} (hg : w.grownBy w' (some mba)) (p : PoolAt w' ba nba mba 8 Bt ua') : Bun v w' L H ba nba mba bb nbb mbb Bt ua' ub vs vt vn vo its ys tg ns op := by
  obtain ⟨f, pa, pb, hb, hs, vl, lh⟩ := h
  have m1 := pa.m1
  exact ⟨f.keep hg (fun g e => by cases e; omega), pa.next hg p, pb.keep hg (fun g e => by cases e; omega), hb.grown hg (by omega) (fun g e => by cases e; omega), Nat.le_trans hs hg.size, vl, lh⟩
theorem Bun.openB (h : Bun v w L H ba nba mba bb nbb mbb Bt ua ub vs vt vn vo its ys tg ns op) {ub' : List Nat} (hg : w.grownBy w' (some mbb)) (p : PoolAt w' bb nbb mbb 8 Bt ub') : Bun v w' L H ba nba mba bb nbb mbb Bt ua ub' vs vt vn vo its ys tg ns op := by
  obtain ⟨f, pa, pb, hb, hs, vl, lh⟩ := h
  have m1 := pb.m1
  exact ⟨f.keep hg (fun g e => by cases e; omega), pa.keep hg (fun g e => by cases e; omega), pb.next hg p, hb.grown hg (by omega) (fun g e => by cases e; omega), Nat.le_trans hs hg.size, vl, lh⟩
theorem Bun.far (h : Bun v w L H ba nba mba bb nbb mbb Bt ua ub vs vt vn vo its ys tg ns op) {row : Option Nat} (hg : w.grownBy w' row) (hr : ∀ g, row = some g → H ≤ g) {vs' vt' vn' : Value} {its' : List It} {ys' tg' ns' : List Nat} {op' : List Bool} (f' : Four w' H vs' vt' vn' vo its' ys' tg' ns' op') : Bun v w' L H ba nba mba bb nbb mbb Bt ua ub vs' vt' vn' vo its' ys' tg' ns' op' := by
  obtain ⟨f, pa, pb, hb, hs, vl, lh⟩ := h
  exact ⟨f', pa.keep hg (fun g e => by have := hr g e; omega), pb.keep hg (fun g e => by have := hr g e; omega), hb.grown hg (by omega) (fun g e => by have := hr g e; omega), Nat.le_trans hs hg.size, vl, lh⟩
theorem Bun.pushT (h : Bun v w L H ba nba mba bb nbb mbb Bt ua ub vs vt vn vo its ys tg ns op) {vt' : Value} {tg' : List Nat} (hg : w.grownBy w' vt.ownBlock) (hat : At w vt vt') (ho : Own w' H 27 1 encU vt' tg') : Bun v w' L H ba nba mba bb nbb mbb Bt ua ub vs vt' vn vo its ys tg' ns op :=
  h.far hg (fun g e => (World.ownsRow.lt h.f.ot g e).1) (h.f.setT hg hat ho)
theorem Bun.pushN (h : Bun v w L H ba nba mba bb nbb mbb Bt ua ub vs vt vn vo its ys tg ns op) {vn' : Value} {ns' : List Nat} (hg : w.grownBy w' vn.ownBlock) (hat : At w vn vn') (ho : Own w' H 3 1 encN vn' ns') : Bun v w' L H ba nba mba bb nbb mbb Bt ua ub vs vt vn' vo its ys tg ns' op :=
  h.far hg (fun g e => (World.ownsRow.lt h.f.on_ g e).1) (h.f.setN hg hat ho)
theorem Bun.putO (h : Bun v w L H ba nba mba bb nbb mbb Bt ua ub vs vt vn vo its ys tg ns op) {op' : List Bool} (hg : w.grownBy w' vo.ownBlock) (ho : Own w' H 4 1 (fun x => [Value.bool x]) vo op') : Bun v w' L H ba nba mba bb nbb mbb Bt ua ub vs vt vn vo its ys tg ns op' :=
  h.far hg (fun g e => (World.ownsRow.lt h.f.oo g e).1) (h.f.setO hg ho)
/-- A row of the call's own, apart from the four slices. -/
structure Free (w : World) (H : Nat) (u vs vt vn vo : Value) (l : List Bool) : Prop where
  o : Own w H 4 1 encB u l
  s : Ap u vs
  t : Ap u vt
  n : Ap u vn
  p : Ap u vo
theorem Free.new {w0 : World} (h : Bun v w0 L H ba nba mba bb nbb mbb Bt ua ub vs vt vn vo its ys tg ns op) {u : Value} {l : List Bool} (o : Own w w0.heap.size 4 1 encB u l) : Free w H u vs vt vn vo l :=
  ⟨o.down h.hs, ap_low h.f.os o, ap_low h.f.ot o, ap_low h.f.on_ o, ap_low h.f.oo o⟩
theorem Free.keep {u : Value} {l : List Bool} (h : Free w H u vs vt vn vo l) {row : Option Nat} (hg : w.grownBy w' row) (hr : ∀ g, row = some g → g < H) : Free w' H u vs vt vn vo l := by
  refine ⟨h.o.keep hg ?_, h.s, h.t, h.n, h.p⟩
  cases hu : u.ownBlock with
  | none => exact .inl rfl
  | some g =>
    refine .inr fun e => ?_
    have h1 := (World.ownsRow.lt h.o g hu).1
    have h2 := hr g e.symm
    omega
theorem Free.below {u : Value} {l : List Bool} (h : Free w H u vs vt vn vo l) (hb : Below w.heap.size w w') : Free w' H u vs vt vn vo l := h.keep (grown_of_below hb) (fun g e => by cases e)
theorem Bun.pushS (h : Bun v w L H ba nba mba bb nbb mbb Bt ua ub vs vt vn vo its ys tg ns op) {vs' : Value} {it : It} {y : Nat} (hg : w.grownBy w' vs.ownBlock) (hat : At w vs vs') (ho : Own w' H 22 1 (fun x => [It.enc x]) vs' (its ++ [it])) (hr : Free w H it.enc vs vt vn vo (numL y 8)) :
    Bun v w' L H ba nba mba bb nbb mbb Bt ua ub vs' vt vn vo (its ++ [it]) (ys ++ [y]) tg ns op :=
  h.far hg (fun g e => (World.ownsRow.lt h.f.os g e).1) (h.f.setS hg hat ho hr.o hr.s hr.t hr.n hr.p)
end

/-- What holds of the numbers. -/
structure OncI (B : List Bool) (ys tg ns ub : List Nat) (op : List Bool) : Prop where
  len : ys.length ≤ 13
  lt : ∀ y ∈ ys, y < 256
  tl : tg.length = ys.length
  ta : ∀ (i y : Nat), ys[i]? = some y → tg[i]? = some (plT 8 B ((2 * i : Nat) : Int) (numL y 8))
  nl : ns.length = ys.length
  na : ∀ i, i < ys.length → ns[i]? = some (2 * i)
  ol : op.length = 25
  oa : ∀ n, n < 25 → op[n]? = some (decide (n ∈ ub))
theorem snoc_at {α : Type} {l : List α} {x a : α} {i : Nat} (h : (l ++ [x])[i]? = some a) : l[i]? = some a ∧ i < l.length ∨ i = l.length ∧ a = x := by
  rcases Nat.lt_or_ge i l.length with hi | hi
  · rw [List.getElem?_append_left hi] at h; exact .inl ⟨h, hi⟩
  · have := (List.getElem?_eq_some_iff.1 h).1
    simp at this
    have hie : i = l.length := by omega
    subst hie
    rw [List.getElem?_append_right (Nat.le_refl _), Nat.sub_self] at h
    exact .inr ⟨rfl, by simpa using h.symm⟩
theorem OncI.seal {B : List Bool} {ys tg ns ub : List Nat} {op : List Bool} (h : OncI B ys tg ns ub op) {y T N : Nat} (hy : y < 256) (hN : 2 * ys.length = N) (hT : plT 8 B ((2 * ys.length : Nat) : Int) (numL y 8) = T) (hj : N ≤ 24) : OncI B (ys ++ [y]) (tg ++ [T]) (ns ++ [N]) ub op := by
  obtain ⟨h1, h2, h3, h4, h5, h6, h7, h8⟩ := h
  refine ⟨by simp; omega, fun x hx => ?_, by simp [h3], fun i x hx => ?_, by simp [h5], fun i hi => ?_, h7, h8⟩
  · rcases List.mem_append.1 hx with hx | hx
    · exact h2 x hx
    · have : x = y := by simpa using hx
      omega
  · rcases snoc_at hx with ⟨hx, hi⟩ | ⟨rfl, rfl⟩
    · rw [List.getElem?_append_left (by omega)]; exact h4 i x hx
    · rw [← h3, List.getElem?_append_right (Nat.le_refl _), Nat.sub_self, h3, hT]; rfl
  · rw [List.length_append, List.length_singleton] at hi
    rcases Nat.lt_or_ge i ys.length with hlt | hge
    · rw [List.getElem?_append_left (by omega)]; exact h6 i hlt
    · have : i = ns.length := by omega
      rw [this, List.getElem?_append_right (Nat.le_refl _), Nat.sub_self, h5, ← hN]; rfl
theorem cellU (w : World) (T : Nat) (ty : TypeId) : ∀ u, encU T = [u] → (w.alloc (.cells #[.int .u64 T] ty)).cell? ⟨w.heap.size, 0, none⟩ = some u := fun u hu => by
  have : u = .int .u64 T := by simpa [encU] using hu.symm
  rw [this]; exact new_cell rfl
theorem cellN (w : World) (T : Nat) (ty : TypeId) : ∀ u, encN T = [u] → (w.alloc (.cells #[.int .i64 T] ty)).cell? ⟨w.heap.size, 0, none⟩ = some u := fun u hu => by
  have : u = .int .i64 T := by simpa [encN] using hu.symm
  rw [this]; exact new_cell rfl
theorem cellS (w : World) (A : Option Addr) (n c : Nat) (ty : TypeId) : ∀ u, (fun x => [It.enc x]) (⟨A, n, c⟩ : It) = [u] → (w.alloc (.cells #[.slice A n c] ty)).cell? ⟨w.heap.size, 0, none⟩ = some u := fun u hu => by
  have : u = .slice A n c := by simpa [It.enc] using hu.symm
  rw [this]; exact new_cell rfl
theorem own_arr {w : World} {b e n c : Nat} {A : Option Addr} {l : List Bool} (h : Own w b e 1 encB (.slice A n c) l) : Arr 1 encB w w.heap.size A l := by
  obtain ⟨A', c', hv, _, _, _, ar⟩ := h.form encB_len
  cases hv; exact ar

end Go.Proofs.YtpejoghdmkpfcaaGreatDoor

namespace Go.Proofs.YtpejoghdmkpfcaaGreatDoor
open Go.RowKit Go.Maps
set_option linter.unusedVariables false
set_option linter.unusedSimpArgs false

section
variable {v w w' : World} {L H ba nba mba bb nbb mbb : Nat} {Bt : List Bool} {ua ub : List Nat} {vs vt vn vo : Value} {its : List It} {ys tg ns : List Nat} {op : List Bool}
/-- What a call of Open leaves. -/
def Opd (w w' : World) (bb nbb mbb : Nat) (Bt : List Bool) (ub : List Nat) (N : Nat) (E : Int) : Prop :=
  (E ≠ 0 ∧ Below w.heap.size w w') ∨ (E = 0 ∧ PoolAt w' bb nbb mbb 8 Bt (((N : Nat) : Int).toNat :: ub) ∧ w.grownBy w' (some mbb))
theorem Opd.same {bb nbb mbb N : Nat} {E : Int} (h : Opd w w' bb nbb mbb Bt ub N E) (hE : E ≠ 0) : Below w.heap.size w w' := by
  rcases h with ⟨_, h⟩ | ⟨h, _⟩
  · exact h
  · exact (hE h).elim
theorem Opd.cell {bb nbb mbb N : Nat} {E : Int} (h : Opd w w' bb nbb mbb Bt ub N E) {a : Addr} {x : Value} (hc : w.cell? a = some x) (ha : a.block ≠ mbb) : w'.cell? a = some x := by
  rcases h with ⟨_, h⟩ | ⟨_, _, h⟩
  · exact bel_cell h hc
  · exact h.cell hc (by simpa using ha)
theorem Bun.opd0 (h : Bun v w L H ba nba mba bb nbb mbb Bt ua ub vs vt vn vo its ys tg ns op) {N : Nat} (ho : Opd w w' bb nbb mbb Bt ub N 0) : Bun v w' L H ba nba mba bb nbb mbb Bt ua (N :: ub) vs vt vn vo its ys tg ns op := by
  rcases ho with ⟨h0, _⟩ | ⟨_, p, hg⟩
  · exact (h0 rfl).elim
  · exact h.openB hg p
theorem Free.opd {mbb N : Nat} {E : Int} {u : Value} {l : List Bool} (h : Free w H u vs vt vn vo l) (ho : Opd w w' bb nbb mbb Bt ub N E) (hm : mbb < H) : Free w' H u vs vt vn vo l := by
  rcases ho with ⟨_, hb⟩ | ⟨_, _, hg⟩
  · exact h.below hb
  · exact h.keep hg (fun g e => by cases e; exact hm)
theorem Bun.store {n c : Nat} (h : Bun v w L H ba nba mba bb nbb mbb Bt ua ub vs vt vn (.slice (some ⟨H, 0, none⟩) n c) its ys tg ns op) (hl : op.length = n) (N : Nat) (b : Bool) : Bun v (w.setCell ⟨H, N, none⟩ (.bool b)) L H ba nba mba bb nbb mbb Bt ua ub vs vt vn (.slice (some ⟨H, 0, none⟩) n c) its ys tg ns (op.set N b) :=
  h.putO (grown_setCell w H N _) (Own.set1 (f := Value.bool) h.f.oo hl N b)
end
theorem OncI.put {B : List Bool} {ys tg ns ub : List Nat} {op : List Bool} (h : OncI B ys tg ns ub op) {N : Nat} : OncI B ys tg ns (N :: ub) (op.set N true) := by
  obtain ⟨h1, h2, h3, h4, h5, h6, h7, h8⟩ := h
  refine ⟨h1, h2, h3, h4, h5, h6, by simp [h7], fun n hn => ?_⟩
  by_cases hnN : n = N
  · subst hnN; rw [List.getElem?_set_self (by omega)]; simp
  · rw [List.getElem?_set_ne (by omega), h8 n hn]; simp [hnN]
theorem OncI.stay {B : List Bool} {ys tg ns ub : List Nat} {op : List Bool} (h : OncI B ys tg ns ub op) {N : Nat} (hN : ¬ N ∈ ub) : OncI B ys tg ns ub (op.set N false) := by
  obtain ⟨h1, h2, h3, h4, h5, h6, h7, h8⟩ := h
  refine ⟨h1, h2, h3, h4, h5, h6, by simp [h7], fun n hn => ?_⟩
  by_cases hnN : n = N
  · subst hnN; rw [List.getElem?_set_self (by omega)]; simp [hN]
  · rw [List.getElem?_set_ne (by omega), h8 n hn]
theorem key_of {bits : List Bool} {N : Nat} (hN : N ≤ 24) : bval ((bits.drop (16 * N)).take 8) = pKey 8 (bits.take 400) N := by
  unfold pKey
  rw [List.drop_take, List.take_take, Nat.min_eq_left (by omega)]

end Go.Proofs.YtpejoghdmkpfcaaGreatDoor
