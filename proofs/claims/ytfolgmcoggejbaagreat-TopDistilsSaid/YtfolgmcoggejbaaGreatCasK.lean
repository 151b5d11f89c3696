/- Contract of sane, for a plan that is valid; a course while it is made. -/
import Derived.Test.YtfolgmcoggejbaaGreatCasJ
import Derived.Test.YtfolgmcoggejbaaGreatCasH
import Derived.Test.YtfolgmcoggejbaaGreatPolAll
import Derived.Test.YtfolgmcoggejbaaGreatRefAll
namespace Go.Proofs.YtfolgmcoggejbaaGreat
open Go.RowKit Go.Maps
set_option linter.unusedVariables false
set_option linter.unusedSimpArgs false

theorem csane_any (c : Cas) (hc : c.Ok) (w : World) : Calls Tryz.prog 104 #[.agg #[.int .i64 (c.P : Int), .int .i64 (c.K : Int), .int .u64 (c.sd : Int)], .int .i64 (c.n : Int)] w fun e w' => e = .returned (.int .i64 0) ∧ Below w.heap.size w w' := by
  have cK : ∀ w, Calls Tryz.prog 44 #[.agg #[.int .i64 (c.P : Int), .int .i64 (c.K : Int), .int .u64 (c.sd : Int)]] w fun e w' => e = .returned (.int .i64 0) ∧ Below w.heap.size w w' := fun w => by
    have h1 := hc.P; have h2 := hc.K
    go_enter Tryz.func44, Tryz.ntmps44
    go_wp2
    all_goals (go_ret; exact ⟨ret_int (by omega), below_alloc (Below.refl _ _) _⟩)
  have b1 := below_alloc (Below.refl w.heap.size w) (.cells #[.int .i64 (c.P : Int), .int .i64 (c.K : Int), .int .u64 (c.sd : Int)] 43)
  have c1 := cK (w.alloc (.cells #[.int .i64 (c.P : Int), .int .i64 (c.K : Int), .int .u64 (c.sd : Int)] 43))
  have hn := hc.n
  clear hc cK
  go_enter Tryz.func104, Tryz.ntmps104
  go_wp2_with (go_at_call 44; refine c1.mono ?_; rintro e w2 ⟨rfl, hb2⟩)
  go_ret
  exact ⟨rfl, b1.trans (hb2.mono b1.size)⟩

theorem gset (x : World) (b o : Nat) (v : Value) : x.grownBy (x.setCell ⟨b, o, none⟩ v) (some b) :=
  ⟨(Below.refl 0 x |>.setCell (Nat.zero_le _) v).os, (Below.refl 0 x |>.setCell (Nat.zero_le _) v).tape, (Below.refl 0 x |>.setCell (Nat.zero_le _) v).output, (Below.refl 0 x |>.setCell (Nat.zero_le _) v).size, fun j _ hn => Below.heap_setCell x _ _ j (by simpa using hn)⟩
/-- A slice of slices, its rows in blocks of another type. -/
structure Rws {α : Type} (w : World) (lo : Nat) (T e : TypeId) (sz : Nat) (enc : α → List Value) (v : Value) (items : List It) (L : List (List α)) : Prop where
  len : items.length = L.length
  own : Own w lo T 1 (fun x => [It.enc x]) v items
  row : ∀ (k : Nat) (it : It) (l : List α), items[k]? = some it → L[k]? = some l → Own w lo e sz enc it.enc l
/-- A block that is no slice's of the types T, e. -/
def Off2 (w : World) (T e : TypeId) (row : Option Nat) : Prop := ∀ k, row = some k → ∀ cs, w.heap[k]? ≠ some (.cells cs T (0, 0)) ∧ w.heap[k]? ≠ some (.cells cs e (0, 0))
section
variable {α : Type} {w w' : World} {lo : Nat} {T e : TypeId} {sz : Nat} {enc : α → List Value} {v v' : Value} {items : List It} {L : List (List α)}
theorem own_grown {β : Type} {base z : Nat} {t : TypeId} {ec : β → List Value} {u : Value} {l : List β} {row : Option Nat} (h : Own w base t z ec u l) (hg : w.grownBy w' row) (hr : ∀ k, row = some k → ∀ cs, w.heap[k]? ≠ some (.cells cs t (0, 0))) : Own w' base t z ec u l := h.keep hg (by
  cases hv : u.ownBlock with
  | none => exact .inl rfl
  | some x =>
    refine .inr (fun e => ?_)
    obtain ⟨cs, hc⟩ := own_row h hv
    exact hr x e.symm cs hc)
theorem Rws.grown {row : Option Nat} (h : Rws w lo T e sz enc v items L) (hg : w.grownBy w' row) (hr : Off2 w T e row) : Rws w' lo T e sz enc v items L :=
  ⟨h.len, own_grown h.own hg (fun k hk cs => (hr k hk cs).1), fun k it l h1 h2 => own_grown (h.row k it l h1 h2) hg (fun k hk cs => (hr k hk cs).2)⟩
theorem Rws.below (h : Rws w lo T e sz enc v items L) (hb : Below w.heap.size w w') : Rws w' lo T e sz enc v items L := h.grown (grown_of_below hb) (fun k hk => by cases hk)
theorem Rws.push (hTe : T ≠ e) (h : Rws w lo T e sz enc v items L) {it : It} {l : List α} (hg : w.grownBy w' v.ownBlock) (ho : Own w' lo T 1 (fun x => [It.enc x]) v' (items ++ [it])) (hr : Own w lo e sz enc it.enc l) : Rws w' lo T e sz enc v' (items ++ [it]) (L ++ [l]) := by
  have off : ∀ k, v.ownBlock = some k → ∀ cs, w.heap[k]? ≠ some (.cells cs e (0, 0)) := fun k hk cs hc => by
    obtain ⟨cs2, h2⟩ := own_row h.own hk
    rw [hc] at h2
    exact hTe (by simp at h2; exact h2.2.symm)
  refine ⟨by simp [h.len], ho, fun k x l' h1 h2 => ?_⟩
  rcases Nat.lt_or_ge k items.length with hk | hk
  · rw [List.getElem?_append_left hk] at h1
    rw [List.getElem?_append_left (by rw [← h.len]; exact hk)] at h2
    exact own_grown (h.row k x l' h1 h2) hg off
  · have := (List.getElem?_eq_some_iff.1 h1).1
    simp at this
    obtain rfl : k = items.length := by omega
    rw [List.getElem?_append_right (Nat.le_refl _), Nat.sub_self] at h1
    rw [List.getElem?_append_right (by rw [h.len]; exact Nat.le_refl _), h.len, Nat.sub_self] at h2
    obtain rfl : it = x := by simpa using h1
    obtain rfl : l = l' := by simpa using h2
    exact own_grown hr hg off
theorem Own.lift {β : Type} {b b' z : Nat} {t : TypeId} {ec : β → List Value} {u : Value} {l : List β} (h : Own w b t z ec u l) (hb : b' ≤ b) : Own w b' t z ec u l := own_base h hb
end

def newCs (c : Cas) (ov kv bv : Value) (mb : Nat) : Array Value := #[.bool true, .int .i64 (c.P : Int), .int .i64 (c.K : Int), .int .u64 (c.sd : Int), ov, kv, bv, .map (some mb), .slice none 0 0,
  .int .i64 0, .bool false, .int .i64 0, .int .i64 0, .bool false, .int .i64 0, .int .i64 0, .int .i64 0, .bool false, .int .i64 0, .int .i64 0, .int .i64 0, .bool false]
def Cas.ords (c : Cas) (p : Nat) : List (List Int) := (List.range p).map c.ord
def Cas.blks (c : Cas) (p : Nat) : List (List Qst) := (List.range p).map c.blk
theorem Cas.ords_snoc (c : Cas) (p : Nat) : c.ords (p + 1) = c.ords p ++ [c.ord p] := by simp [Cas.ords, List.range_succ]
theorem Cas.blks_snoc (c : Cas) (p : Nat) : c.blks (p + 1) = c.blks p ++ [c.blk p] := by simp [Cas.blks, List.range_succ]
/-- A course while it is made. -/
structure NewAt (w : World) (c : Cas) (b : List Bool) (base lo g mb : Nat) (bv ov kv : Value) (io ik : List It) (p q : Nat) : Prop where
  row : w.heap[g]? = some (.cells (newCs c ov kv bv mb) 134 (0, 0))
  bits : Own w 0 4 1 encB bv b
  kn : Knw w mb []
  ord : Rws w lo 76 3 1 encI ov io (c.ords p)
  blk : Rws w lo 199 132 3 Qst.enc kv ik (c.blks q)
  lg : base ≤ g ∧ g < lo
  lm : base ≤ mb ∧ mb < lo
  lb : ∀ k, bv.ownBlock = some k → base ≤ k ∧ k < lo
  hi : lo ≤ w.heap.size
section
variable {w w' : World} {c : Cas} {b : List Bool} {base lo g mb : Nat} {bv ov kv : Value} {io ik : List It} {p q : Nat}
theorem NewAt.on (h : NewAt w c b base lo g mb bv ov kv io ik p q) (hb : Below w.heap.size w w') : NewAt w' c b base lo g mb bv ov kv io ik p q :=
  ⟨(hb.block g (Array.getElem?_eq_some_iff.1 h.row).1).trans h.row, h.bits.below hb, h.kn.kept (grown_of_below hb) (by simp), h.ord.below hb, h.blk.below hb, h.lg, h.lm, h.lb, Nat.le_trans h.hi hb.size⟩
theorem NewAt.start (hrow : w.heap[g]? = some (.cells (newCs c (.slice none 0 0) (.slice none 0 0) bv mb) 134 (0, 0))) (hb : Own w base 4 1 encB bv b) (kn : Knw w mb []) (h1 : base ≤ g) (h2 : base ≤ mb) : NewAt w c b base w.heap.size g mb bv (.slice none 0 0) (.slice none 0 0) [] [] 0 0 :=
  ⟨hrow, own_base hb (Nat.zero_le _), kn, ⟨rfl, Own.nil, fun k it l h => by simp at h⟩, ⟨rfl, Own.nil, fun k it l h => by simp at h⟩, ⟨h1, (Array.getElem?_eq_some_iff.1 hrow).1⟩, ⟨h2, kn.lt⟩, fun k hk => World.ownsRow.lt hb k hk, Nat.le_refl _⟩
/-- A row of the orders is appended, and laid into the struct. -/
theorem NewAt.pushO (h : NewAt w c b base lo g mb bv ov kv io ik p q) {it : It} {v' : Value} (hr : Own w lo 3 1 encI it.enc (c.ord p)) (hg : w.grownBy w' ov.ownBlock) (ho : Own w' lo 76 1 (fun x => [It.enc x]) v' (io ++ [it])) :
    w'.heap[g]? = some (.cells (newCs c ov kv bv mb) 134 (0, 0)) ∧ NewAt (w'.setCell ⟨g, 4, none⟩ v') c b base lo g mb bv v' kv (io ++ [it]) ik (p + 1) q := by
  have types : ∀ t, t ≠ 76 → ∀ k, ov.ownBlock = some k → ∀ cs, w.heap[k]? ≠ some (.cells cs t (0, 0)) := fun t ht k hk cs hc => by
    obtain ⟨cs2, h2⟩ := own_row h.ord.own hk
    rw [hc] at h2
    exact ht (by simp at h2; exact h2.2)
  have gne : some g ≠ ov.ownBlock := fun e => types 134 (by decide) g e.symm _ h.row
  have hrow : w'.heap[g]? = some (.cells (newCs c ov kv bv mb) 134 (0, 0)) := (hg.block g (Array.getElem?_eq_some_iff.1 h.row).1 gne).trans h.row
  have mne : some mb ≠ ov.ownBlock := fun e => by
    obtain ⟨cs2, h2⟩ := own_row h.ord.own e.symm
    obtain ⟨D, hD⟩ := h.kn
    obtain ⟨es, clock, hbk, _⟩ := hD.own
    rw [hbk] at h2
    simp at h2
  have G : w'.grownBy (w'.setCell ⟨g, 4, none⟩ v') (some g) := gset _ _ _ _
  have tg : ∀ t, t ≠ 134 → ∀ k, some g = some k → ∀ cs, w'.heap[k]? ≠ some (.cells cs t (0, 0)) := fun t ht k hk cs hc => by
    cases hk
    rw [hrow] at hc
    exact ht (by simp at hc; exact hc.2.symm)
  have kn1 := h.kn.kept hg mne
  have ngm : some mb ≠ some g := fun e => by
    cases e
    obtain ⟨D, hD⟩ := kn1
    obtain ⟨es, clock, hbk, _⟩ := hD.own
    rw [hrow] at hbk
    simp at hbk
  refine ⟨hrow, ?_, own_grown (own_grown h.bits hg (types _ (by decide))) G (tg _ (by decide)), kn1.kept G ngm, ?_, ?_, h.lg, h.lm, h.lb, Nat.le_trans h.hi (Nat.le_trans hg.size G.size)⟩
  · exact heap_setCell_same w' g 4 _ _ v' hrow
  · rw [c.ords_snoc]
    exact (h.ord.push (by decide) hg ho hr).grown G (fun k hk cs => ⟨tg _ (by decide) k hk cs, tg _ (by decide) k hk cs⟩)
  · exact (h.blk.grown hg (fun k hk cs => ⟨types _ (by decide) k hk cs, types _ (by decide) k hk cs⟩)).grown G (fun k hk cs => ⟨tg _ (by decide) k hk cs, tg _ (by decide) k hk cs⟩)
/-- A row of the blocks is appended, and laid into the struct. -/
theorem NewAt.pushB (h : NewAt w c b base lo g mb bv ov kv io ik p q) {it : It} {v' : Value} (hr : Own w lo 132 3 Qst.enc it.enc (c.blk q)) (hg : w.grownBy w' kv.ownBlock) (ho : Own w' lo 199 1 (fun x => [It.enc x]) v' (ik ++ [it])) :
    w'.heap[g]? = some (.cells (newCs c ov kv bv mb) 134 (0, 0)) ∧ NewAt (w'.setCell ⟨g, 5, none⟩ v') c b base lo g mb bv ov v' io (ik ++ [it]) p (q + 1) := by
  have types : ∀ t, t ≠ 199 → ∀ k, kv.ownBlock = some k → ∀ cs, w.heap[k]? ≠ some (.cells cs t (0, 0)) := fun t ht k hk cs hc => by
    obtain ⟨cs2, h2⟩ := own_row h.blk.own hk
    rw [hc] at h2
    exact ht (by simp at h2; exact h2.2)
  have gne : some g ≠ kv.ownBlock := fun e => types 134 (by decide) g e.symm _ h.row
  have hrow : w'.heap[g]? = some (.cells (newCs c ov kv bv mb) 134 (0, 0)) := (hg.block g (Array.getElem?_eq_some_iff.1 h.row).1 gne).trans h.row
  have mne : some mb ≠ kv.ownBlock := fun e => by
    obtain ⟨cs2, h2⟩ := own_row h.blk.own e.symm
    obtain ⟨D, hD⟩ := h.kn
    obtain ⟨es, clock, hbk, _⟩ := hD.own
    rw [hbk] at h2
    simp at h2
  have G : w'.grownBy (w'.setCell ⟨g, 5, none⟩ v') (some g) := gset _ _ _ _
  have tg : ∀ t, t ≠ 134 → ∀ k, some g = some k → ∀ cs, w'.heap[k]? ≠ some (.cells cs t (0, 0)) := fun t ht k hk cs hc => by
    cases hk
    rw [hrow] at hc
    exact ht (by simp at hc; exact hc.2.symm)
  have kn1 := h.kn.kept hg mne
  have ngm : some mb ≠ some g := fun e => by
    cases e
    obtain ⟨D, hD⟩ := kn1
    obtain ⟨es, clock, hbk, _⟩ := hD.own
    rw [hrow] at hbk
    simp at hbk
  refine ⟨hrow, ?_, own_grown (own_grown h.bits hg (types _ (by decide))) G (tg _ (by decide)), kn1.kept G ngm, ?_, ?_, h.lg, h.lm, h.lb, Nat.le_trans h.hi (Nat.le_trans hg.size G.size)⟩
  · exact heap_setCell_same w' g 5 _ _ v' hrow
  · exact (h.ord.grown hg (fun k hk cs => ⟨types _ (by decide) k hk cs, types _ (by decide) k hk cs⟩)).grown G (fun k hk cs => ⟨tg _ (by decide) k hk cs, tg _ (by decide) k hk cs⟩)
  · rw [c.blks_snoc]
    exact (h.blk.push (by decide) hg ho hr).grown G (fun k hk cs => ⟨tg _ (by decide) k hk cs, tg _ (by decide) k hk cs⟩)
end
theorem Rws.rows {α : Type} {w : World} {lo : Nat} {T e : TypeId} {sz : Nat} {enc : α → List Value} {v : Value} {items : List It} {L : List (List α)} (h : Rws w lo T e sz enc v items L) (hL : 0 < L.length) (hs : ∀ x, (enc x).length = sz) :
    ∃ ob oc, v = .slice (some ⟨ob, 0, none⟩) L.length oc ∧ lo ≤ ob ∧ ob < w.heap.size ∧ L.length ≤ oc ∧ oc ≤ maxLen ∧ ∀ p l, L[p]? = some l → ∃ A k, w.cell? ⟨ob, p, none⟩ = some (.slice A l.length k) ∧ l.length ≤ k ∧ k ≤ maxLen ∧ Rw sz enc w lo w.heap.size A l := by
  have hlen := h.len
  obtain ⟨A, c, hv, lc, mc, _, ar⟩ := h.own.form (fun _ => rfl)
  have hv2 := h.own.2
  rcases hv2 with ⟨_, h0⟩ | ⟨g, cap, cur, hv3, hb, hg, _⟩
  · omega
  rw [hv] at hv3
  obtain ⟨rfl, _, rfl⟩ : A = some ⟨g, 0, none⟩ ∧ items.length = items.length ∧ c = cap := by simpa using hv3
  rw [hlen] at hv lc
  refine ⟨g, c, hv, hb, (Array.getElem?_eq_some_iff.1 hg).1, lc, mc, fun p l hl => ?_⟩
  have hp : p < items.length := by rw [hlen]; exact (List.getElem?_eq_some_iff.1 hl).1
  obtain ⟨g2, off, e2, _, hc⟩ := ar (by intro e; rw [e] at hp; simp at hp)
  cases e2
  have hit := List.getElem?_eq_getElem hp
  obtain ⟨A3, c3, hv3, l3, m3, _, ar3⟩ := (h.row p _ l hit hl).form hs
  have hcell := hc p _ hit 0 _ rfl
  rw [hv3] at hcell
  refine ⟨A3, c3, by simpa using hcell, l3, m3, fun hne => ?_⟩
  obtain ⟨g4, o4, e4, h4, c4⟩ := ar3 hne
  subst e4
  have hlt := World.ownsRow.lt (h.row p _ l hit hl) g4 (by rw [hv3]; rfl)
  exact ⟨g4, o4, rfl, hlt.1, hlt.2, c4⟩
/-- A course that has been made. -/
theorem NewAt.done {w : World} {c : Cas} {b : List Bool} {base lo g mb : Nat} {bv ov kv : Value} {io ik : List It} (h : NewAt w c b base lo g mb bv ov kv io ik c.P c.P) (hc : c.Ok) : ∃ M : Mem, M.g = g ∧ MacAt w c (mac0 b) M ∧ (∀ k, M.T k → base ≤ k) := by
  have hP := hc.P.1
  have e1 : (c.ords c.P).length = c.P := by simp [Cas.ords]
  have e2 : (c.blks c.P).length = c.P := by simp [Cas.blks]
  obtain ⟨ob, oc, ho, ho1, ho2, ho3, ho4, ho5⟩ := h.ord.rows (by omega) encI_len
  obtain ⟨kb, kc, hk, hk1, hk2, hk3, hk4, hk5⟩ := h.blk.rows (by omega) Qst.enc_len
  rw [e1] at ho ho3
  rw [e2] at hk hk3
  subst ho hk
  refine ⟨⟨g, lo, w.heap.size, ob, oc, kb, kc, bv, mb, .slice none 0 0⟩, rfl, ⟨h.row, ⟨Nat.le_refl _, ⟨ho1, ho2⟩, ⟨hk1, hk2⟩, ⟨ho3, ho4⟩, ⟨hk3, hk4⟩, fun p hp => ?_, fun p hp => ?_⟩, h.bits, Own.nil, h.kn, .inl h.lg.2, .inl h.lm.2, fun k hk => .inl (h.lb k hk).2, fun k hk => by cases hk⟩, ?_⟩
  · obtain ⟨A, k, r1, r2, r3, r4⟩ := ho5 p (c.ord p) (by simp [Cas.ords, hp])
    rw [c.ord_len] at r1 r2
    exact ⟨A, k, r1, r2, r3, r4⟩
  · exact hk5 p (c.blk p) (by simp [Cas.blks, hp])
  · intro k hk
    rcases hk with rfl | hk | rfl | hk
    · exact h.lg.1
    · exact (h.lb k hk).1
    · exact h.lm.1
    · cases hk

end Go.Proofs.YtfolgmcoggejbaaGreat
