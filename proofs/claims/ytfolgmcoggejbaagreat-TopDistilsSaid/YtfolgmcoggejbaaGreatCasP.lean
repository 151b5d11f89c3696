/- Plain: the course of a cascade: its orders and blocks, its steps, and that it comes to an end. No condition. -/
import Derived.Test.YtfolgmcoggejbaaGreatPrmAll
namespace Go.Proofs.YtfolgmcoggejbaaGreat
set_option linter.unusedVariables false
set_option linter.unusedSimpArgs false

/-- A question. -/
structure Qst where
  pass : Nat
  fr : Nat
  to : Nat
deriving DecidableEq
/-- A plan, and a number of bits. -/
structure Cas where
  P : Nat
  K : Nat
  sd : Nat
  n : Nat
def Cas.ord (c : Cas) (p : Nat) : List Int := if p = 0 then upL c.n else permL ((c.sd + p) % 18446744073709551616) c.n
def Cas.size (c : Cas) (p : Nat) : Nat := min (c.K * 2 ^ p) 512
def cutN (n size : Nat) : Nat := (n + size - 1) / size
def cutQ (p n size i : Nat) : Qst := ⟨p, i * size, min (i * size + size) n⟩
def cutK (p n size k : Nat) : List Qst := (List.range k).map (cutQ p n size)
def Cas.blk (c : Cas) (p : Nat) : List Qst := cutK p c.n (c.size p) (cutN c.n (c.size p))
structure Cas.Ok (c : Cas) : Prop where
  P : 1 ≤ c.P ∧ c.P ≤ 6
  K : 1 ≤ c.K ∧ c.K ≤ 512
  n : c.n ≤ 512
def Cas.val (c : Cas) (q : Qst) : Prop := q.pass < c.P ∧ q.fr < q.to ∧ q.to ≤ c.n
theorem Cas.ord_len (c : Cas) (p : Nat) : (c.ord p).length = c.n := by
  unfold Cas.ord; split
  · exact upL_len _
  · exact permL_len _ _
theorem Cas.ord_perm (c : Cas) (p : Nat) : (c.ord p).Perm (upL c.n) := by
  unfold Cas.ord; split
  · exact List.Perm.refl _
  · exact permL_perm _ _
theorem Cas.ord_mem {c : Cas} {p : Nat} {x : Int} (h : x ∈ c.ord p) : ∃ i : Nat, x = (i : Int) ∧ i < c.n := by
  have := (c.ord_perm p).mem_iff.1 h
  unfold upL at this
  obtain ⟨i, hi, rfl⟩ := List.mem_map.1 this
  exact ⟨i, rfl, List.mem_range.1 hi⟩
theorem Cas.size_pos {c : Cas} (h : c.Ok) (p : Nat) : 0 < c.size p := by
  unfold Cas.size
  have : 0 < c.K * 2 ^ p := Nat.mul_pos h.K.1 (Nat.two_pow_pos p)
  omega
theorem Cas.size_le (c : Cas) (p : Nat) : c.size p ≤ 512 := Nat.min_le_right _ _
theorem cut_lt {n size i : Nat} (hs : 0 < size) : i < cutN n size ↔ i * size < n := by
  unfold cutN
  rw [Nat.lt_div_iff_mul_lt hs]
  constructor <;> intro h <;> omega
theorem cutK_len (p n size k : Nat) : (cutK p n size k).length = k := by simp [cutK]
theorem cutK_snoc (p n size k : Nat) : cutK p n size (k + 1) = cutK p n size k ++ [cutQ p n size k] := by simp [cutK, List.range_succ]
theorem Cas.blk_at {c : Cas} {p i : Nat} (h : i < (c.blk p).length) : (c.blk p)[i]? = some (cutQ p c.n (c.size p) i) := by
  unfold Cas.blk at h ⊢
  rw [cutK_len] at h
  unfold cutK
  rw [List.getElem?_map, List.getElem?_range h]
  rfl
theorem Cas.blk_len (c : Cas) (p : Nat) : (c.blk p).length = cutN c.n (c.size p) := cutK_len _ _ _ _
theorem Cas.blk_val {c : Cas} (h : c.Ok) {p i : Nat} (hp : p < c.P) (hi : i < (c.blk p).length) : c.val (cutQ p c.n (c.size p) i) := by
  have hs := c.size_pos h p
  rw [c.blk_len, cut_lt hs] at hi
  refine ⟨hp, ?_, Nat.min_le_right _ _⟩
  simp only [cutQ]
  omega
theorem Cas.blk_short {c : Cas} (h : c.Ok) (p : Nat) : (c.blk p).length ≤ 512 := by
  rw [c.blk_len]
  have hs := c.size_pos h p
  rcases Nat.lt_or_ge 512 (cutN c.n (c.size p)) with h1 | h1
  · have := (cut_lt (n := c.n) hs).1 h1
    have := h.n
    have : 512 * 1 ≤ 512 * c.size p := Nat.mul_le_mul_left _ hs
    omega
  · exact h1

/-- How far a course has come. -/
structure Mac where
  b : List Bool
  told : List (Qst × Bool)
  flips : Nat
  failed : Bool
  pass : Nat
  block : Nat
  srch : Bool
  odd : Qst
  ans : Bool
  next : Qst
  opn : Bool
def q0 : Qst := ⟨0, 0, 0⟩
def par (b : List Bool) (l : List Int) : Bool := l.foldl (fun o i => o != b.getD i.toNat false) false
theorem par_snoc (b : List Bool) (l : List Int) (i : Int) : par b (l ++ [i]) = (par b l != b.getD i.toNat false) := by simp [par, List.foldl_append]
def Mac.look (m : Mac) (q : Qst) : Option Bool := (m.told.find? fun x => decide (x.1 = q)).map (·.2)
def Cas.part (c : Cas) (q : Qst) : List Int := ((c.ord q.pass).drop q.fr).take (q.to - q.fr)
def Cas.isOdd (c : Cas) (b : List Bool) (q : Qst) (a : Bool) : Bool := par b (c.part q) != a
inductive Ctl where
  | ask
  | search
  | halve
  | stop
deriving DecidableEq
def askGo (m : Mac) : List Qst → Ctl × Mac
  | [] => (.search, m)
  | q :: r => if (m.look q).isSome then askGo { m with block := m.block + 1 } r else (.stop, { m with next := q, opn := true })
def bestGo (f : Qst → Bool) : List Qst → Option Qst → Option Qst
  | [], a => a
  | q :: r, a => if f q = false ∨ a.any (fun b => decide (b.to - b.fr ≤ q.to - q.fr)) = true then bestGo f r a else if q.to - q.fr = 1 then some q else bestGo f r (some q)
def Cas.upto (c : Cas) (p : Nat) : List Qst := (List.range p).flatMap c.blk
def Cas.oddM (c : Cas) (m : Mac) (q : Qst) : Bool := c.isOdd m.b q ((m.look q).getD false)
def Cas.askS (c : Cas) (m : Mac) : Ctl × Mac := if m.pass = c.P then (.stop, m) else askGo m ((c.blk m.pass).drop m.block)
def Cas.srcS (c : Cas) (m : Mac) : Ctl × Mac :=
  match bestGo (c.oddM m) (c.upto (m.pass + 1)) none with
  | none => (.ask, { m with pass := m.pass + 1, block := 0 })
  | some q => if m.flips = m.b.length then (.stop, { m with failed := true }) else (.halve, { m with odd := q, ans := (m.look q).getD false, srch := true })
def Mac.bit (c : Cas) (m : Mac) : Nat := ((c.ord m.odd.pass).getD m.odd.fr 0).toNat
def Mac.first (m : Mac) : Qst := ⟨m.odd.pass, m.odd.fr, m.odd.fr + (m.odd.to - m.odd.fr) / 2⟩
def Cas.hlvS (c : Cas) (m : Mac) : Ctl × Mac :=
  if m.odd.to - m.odd.fr = 1 then (.search, { m with b := m.b.set (m.bit c) (!m.b.getD (m.bit c) false), flips := m.flips + 1, srch := false })
  else match m.look m.first with
    | none => (.stop, { m with next := m.first, opn := true })
    | some a => if c.isOdd m.b m.first a then (.halve, { m with odd := m.first, ans := a }) else (.halve, { m with odd := ⟨m.odd.pass, m.first.to, m.odd.to⟩, ans := m.ans != a })
def Cas.step (c : Cas) : Ctl → Mac → Ctl × Mac
  | .ask, m => c.askS m
  | .search, m => c.srcS m
  | .halve, m => c.hlvS m
  | .stop, m => (.stop, m)
def Cas.run (c : Cas) : Nat → Ctl → Mac → Mac
  | 0, _, m => m
  | k + 1, t, m => if t = .stop then m else c.run k (c.step t m).1 (c.step t m).2
structure Mac.Ok (c : Cas) (m : Mac) : Prop where
  len : m.b.length = c.n
  pass : m.pass ≤ c.P
  blk : m.block ≤ (c.blk m.pass).length
  fl : m.flips ≤ c.n
  odd : m.srch = true → c.val m.odd ∧ m.flips < c.n ∧ m.pass < c.P
  told : ∀ x ∈ m.told, c.val x.1
  nod : (m.told.map (·.1)).Nodup
/-- The question that is asked next is one that was not told. -/
def Mac.Wait (c : Cas) (m : Mac) : Prop := m.opn = true → c.val m.next ∧ m.look m.next = none
/-- What holds at a place of the course. -/
def Cas.at (c : Cas) (t : Ctl) (m : Mac) : Prop := m.Ok c ∧ (match t with
  | .ask => m.srch = false ∧ m.opn = false
  | .search => m.srch = false ∧ m.opn = false ∧ m.pass < c.P
  | .halve => m.srch = true ∧ m.opn = false
  | .stop => m.Wait c)
def Cas.mu (c : Cas) : Ctl → Mac → Nat
  | .ask, m => (c.P - m.pass) * 3 + (c.n - m.flips) * (c.n + 4) + 2
  | .search, m => (c.P - m.pass) * 3 + (c.n - m.flips) * (c.n + 4) + 1
  | .halve, m => (c.P - m.pass) * 3 + (c.n - m.flips - 1) * (c.n + 4) + 2 + (m.odd.to - m.odd.fr)
  | .stop, _ => 0

theorem look_none {m : Mac} {q : Qst} : m.look q = none ↔ q ∉ m.told.map (·.1) := by
  unfold Mac.look
  rw [Option.map_eq_none_iff, List.find?_eq_none]
  constructor
  · intro h hm
    obtain ⟨x, hx, rfl⟩ := List.mem_map.1 hm
    simpa using h x hx
  · intro h x hx
    simp only [decide_eq_true_eq]
    rintro rfl
    exact h (List.mem_map.2 ⟨x, hx, rfl⟩)
theorem look_some {m : Mac} {q : Qst} {a : Bool} (h : m.look q = some a) : (q, a) ∈ m.told := by
  unfold Mac.look at h
  obtain ⟨x, hx, rfl⟩ := Option.map_eq_some_iff.1 h
  have h1 := List.mem_of_find?_eq_some hx
  have h2 := List.find?_some hx
  simp only [decide_eq_true_eq] at h2
  rw [← h2]; exact h1
theorem askGo_ok {c : Cas} (hc : c.Ok) : ∀ (l : List Qst) (m : Mac), c.at .search m → l = (c.blk m.pass).drop m.block → c.at (askGo m l).1 (askGo m l).2 ∧ c.mu (askGo m l).1 (askGo m l).2 < c.mu .ask m
  | [], m, h, hl => ⟨h, by simp [askGo, Cas.mu]⟩
  | q :: r, m, h, hl => by
    have hi : m.block < (c.blk m.pass).length := by
      rcases Nat.lt_or_ge m.block (c.blk m.pass).length with h1 | h1
      · exact h1
      · rw [List.drop_eq_nil_of_le h1] at hl; cases hl
    rw [List.drop_eq_getElem_cons hi] at hl
    obtain ⟨rfl, hr⟩ := List.cons.inj hl
    unfold askGo
    by_cases hk : (m.look (c.blk m.pass)[m.block]).isSome = true
    · rw [if_pos hk]
      have h2 : c.at .search { m with block := m.block + 1 } := ⟨⟨h.1.len, h.1.pass, hi, h.1.fl, h.1.odd, h.1.told, h.1.nod⟩, h.2⟩
      exact askGo_ok hc r _ h2 hr
    · rw [if_neg hk]
      have hq := c.blk_at hi
      rw [List.getElem?_eq_getElem hi] at hq
      have hv := c.blk_val hc h.2.2.2 hi
      refine ⟨⟨⟨h.1.len, h.1.pass, h.1.blk, h.1.fl, h.1.odd, h.1.told, h.1.nod⟩, fun _ => ⟨?_, ?_⟩⟩, by simp [Cas.mu]⟩
      · have := Option.some.inj hq
        simp only [this]
        exact hv
      · have : m.look (c.blk m.pass)[m.block] = none := by
          cases h5 : m.look (c.blk m.pass)[m.block] with
          | none => rfl
          | some a => rw [h5] at hk; simp at hk
        exact this
theorem bestGo_mem {f : Qst → Bool} : ∀ (l : List Qst) (a : Option Qst) (q : Qst), bestGo f l a = some q → q ∈ l ∨ a = some q
  | [], a, q, h => .inr h
  | x :: l, a, q, h => by
    unfold bestGo at h
    split at h
    · rcases bestGo_mem l a q h with h | h
      · exact .inl (List.mem_cons_of_mem _ h)
      · exact .inr h
    · split at h
      · obtain rfl := Option.some.inj h
        exact .inl (by simp)
      · rcases bestGo_mem l _ q h with h | h
        · exact .inl (List.mem_cons_of_mem _ h)
        · obtain rfl := Option.some.inj h
          exact .inl (by simp)
theorem Cas.upto_val {c : Cas} (hc : c.Ok) {p : Nat} (hp : p ≤ c.P) {q : Qst} (h : q ∈ c.upto p) : c.val q := by
  unfold Cas.upto at h
  obtain ⟨x, hx, hq⟩ := List.mem_flatMap.1 h
  obtain ⟨i, hi⟩ := List.getElem?_of_mem hq
  have hl := (List.getElem?_eq_some_iff.1 hi).1
  rw [c.blk_at hl] at hi
  obtain rfl := Option.some.inj hi
  exact c.blk_val hc (Nat.lt_of_lt_of_le (List.mem_range.1 hx) hp) hl
theorem Cas.step_ok {c : Cas} (hc : c.Ok) : ∀ (t : Ctl) (m : Mac), t ≠ .stop → c.at t m → c.at (c.step t m).1 (c.step t m).2 ∧ c.mu (c.step t m).1 (c.step t m).2 < c.mu t m
  | .stop, m, ht, _ => absurd rfl ht
  | .ask, m, _, h => by
    simp only [Cas.step, Cas.askS]
    by_cases hp : m.pass = c.P
    · rw [if_pos hp]
      exact ⟨⟨h.1, fun ho => by rw [h.2.2] at ho; cases ho⟩, by simp [Cas.mu]⟩
    · rw [if_neg hp]
      exact askGo_ok hc _ m ⟨h.1, h.2.1, h.2.2, Nat.lt_of_le_of_ne h.1.pass hp⟩ rfl
  | .search, m, _, h => by
    simp only [Cas.step, Cas.srcS]
    cases hb : bestGo (c.oddM m) (c.upto (m.pass + 1)) none with
    | none =>
      have hp := h.2.2.2
      refine ⟨⟨⟨h.1.len, hp, Nat.zero_le _, h.1.fl, fun hs => ?_, h.1.told, h.1.nod⟩, h.2.1, h.2.2.1⟩, ?_⟩
      · rw [show m.srch = false from h.2.1] at hs; cases hs
      · simp only [Cas.mu]
        have : (c.P - (m.pass + 1)) * 3 + 3 = (c.P - m.pass) * 3 := by omega
        omega
    | some q =>
      have hv : c.val q := by
        rcases bestGo_mem _ _ _ hb with h1 | h1
        · exact c.upto_val hc (by have := h.2.2.2; omega) h1
        · cases h1
      by_cases hf : m.flips = m.b.length
      · simp only [if_pos hf]
        exact ⟨⟨⟨h.1.len, h.1.pass, h.1.blk, h.1.fl, h.1.odd, h.1.told, h.1.nod⟩, fun ho => by rw [show m.opn = false from h.2.2.1] at ho; cases ho⟩, by simp [Cas.mu]⟩
      · simp only [if_neg hf]
        have hfl : m.flips < c.n := by have := h.1.len; have := h.1.fl; omega
        refine ⟨⟨⟨h.1.len, h.1.pass, h.1.blk, h.1.fl, fun _ => ⟨hv, hfl, h.2.2.2⟩, h.1.told, h.1.nod⟩, rfl, h.2.2.1⟩, ?_⟩
        simp only [Cas.mu]
        have e : (c.n - m.flips) * (c.n + 4) = (c.n - m.flips - 1) * (c.n + 4) + (c.n + 4) := by
          rw [show c.n - m.flips = (c.n - m.flips - 1) + 1 by omega, Nat.add_mul]; simp
        have := hv.2.2
        omega
  | .halve, m, _, h => by
    obtain ⟨hv, hf, hp⟩ := h.1.odd h.2.1
    simp only [Cas.step, Cas.hlvS]
    by_cases h1 : m.odd.to - m.odd.fr = 1
    · simp only [if_pos h1]
      refine ⟨⟨⟨by simp [h.1.len], h.1.pass, h.1.blk, hf, fun hs => (by cases hs), h.1.told, h.1.nod⟩, rfl, h.2.2, hp⟩, ?_⟩
      simp only [Cas.mu]
      rw [show c.n - (m.flips + 1) = c.n - m.flips - 1 by omega]
      omega
    · simp only [if_neg h1]
      have hl := hv.2.1
      have hlt := hv.2.2
      have hd : 0 < (m.odd.to - m.odd.fr) / 2 ∧ (m.odd.to - m.odd.fr) / 2 < m.odd.to - m.odd.fr := by omega
      have hvf : c.val m.first := ⟨hv.1, by simp only [Mac.first]; omega, by simp only [Mac.first]; omega⟩
      cases hk : m.look m.first with
      | none => exact ⟨⟨⟨h.1.len, h.1.pass, h.1.blk, h.1.fl, h.1.odd, h.1.told, h.1.nod⟩, fun _ => ⟨hvf, hk⟩⟩, by simp only [Cas.mu]; omega⟩
      | some a =>
        simp only
        split
        · refine ⟨⟨⟨h.1.len, h.1.pass, h.1.blk, h.1.fl, fun _ => ⟨hvf, hf, hp⟩, h.1.told, h.1.nod⟩, h.2⟩, ?_⟩
          simp only [Cas.mu, Mac.first]; omega
        · refine ⟨⟨⟨h.1.len, h.1.pass, h.1.blk, h.1.fl, fun _ => ⟨⟨hv.1, by simp only [Mac.first]; omega, hv.2.2⟩, hf, hp⟩, h.1.told, h.1.nod⟩, h.2⟩, ?_⟩
          simp only [Cas.mu, Mac.first]; omega

def Cas.adv (c : Cas) (m : Mac) : Mac :=
  let m0 := { m with next := q0, opn := false }
  let t := if m.srch then Ctl.halve else Ctl.ask
  c.run (c.mu t m0) t m0
def mac0 (b : List Bool) : Mac := ⟨b, [], 0, false, 0, 0, false, q0, false, q0, false⟩
def Cas.new (c : Cas) (b : List Bool) : Mac := c.adv (mac0 b)
def Cas.tell (c : Cas) (m : Mac) (a : Bool) : Mac := c.adv { m with told := m.told ++ [(m.next, a)] }
theorem askGo_told : ∀ (l : List Qst) (m : Mac), (askGo m l).2.told = m.told
  | [], m => rfl
  | q :: r, m => by
    unfold askGo
    split
    · exact askGo_told r _
    · rfl
theorem Cas.step_told (c : Cas) (t : Ctl) (m : Mac) : (c.step t m).2.told = m.told := by
  cases t with
  | stop => rfl
  | ask =>
    simp only [Cas.step, Cas.askS]
    split
    · rfl
    · exact askGo_told _ _
  | search =>
    simp only [Cas.step, Cas.srcS]
    split
    · rfl
    · split <;> rfl
  | halve =>
    simp only [Cas.step, Cas.hlvS]
    split
    · rfl
    · split
      · rfl
      · split <;> rfl
theorem Cas.run_ok {c : Cas} (hc : c.Ok) : ∀ (k : Nat) (t : Ctl) (m : Mac), c.mu t m ≤ k → c.at t m → c.at .stop (c.run k t m) ∧ (c.run k t m).told = m.told
  | 0, t, m, hk, h => by
    cases t with
    | stop => exact ⟨h, rfl⟩
    | ask => simp [Cas.mu] at hk
    | search => simp [Cas.mu] at hk
    | halve => simp [Cas.mu] at hk
  | k + 1, t, m, hk, h => by
    unfold Cas.run
    by_cases ht : t = .stop
    · subst ht
      rw [if_pos rfl]
      exact ⟨h, rfl⟩
    · rw [if_neg ht]
      obtain ⟨h1, h2⟩ := c.step_ok hc t m ht h
      obtain ⟨h3, h4⟩ := Cas.run_ok hc k _ _ (by omega) h1
      exact ⟨h3, h4.trans (c.step_told t m)⟩
theorem Cas.at_adv {c : Cas} {m : Mac} (h : m.Ok c) : c.at (if m.srch then Ctl.halve else Ctl.ask) { m with next := q0, opn := false } := by
  have ho : Mac.Ok c { m with next := q0, opn := false } := ⟨h.len, h.pass, h.blk, h.fl, h.odd, h.told, h.nod⟩
  by_cases hs : m.srch = true
  · rw [if_pos hs]; exact ⟨ho, hs, rfl⟩
  · rw [if_neg hs]; exact ⟨ho, by simpa using hs, rfl⟩
theorem Cas.adv_ok {c : Cas} (hc : c.Ok) {m : Mac} (h : m.Ok c) : c.at .stop (c.adv m) ∧ (c.adv m).told = m.told := by
  have := Cas.run_ok hc _ _ _ (Nat.le_refl _) (Cas.at_adv h)
  exact this
theorem mac0_ok {c : Cas} {b : List Bool} (hb : b.length = c.n) : (mac0 b).Ok c :=
  ⟨hb, Nat.zero_le _, Nat.zero_le _, Nat.zero_le _, fun h => (by cases h), fun x hx => (by cases hx), List.nodup_nil⟩
theorem Mac.Ok.more {c : Cas} {m : Mac} (h : c.at .stop m) (ho : m.opn = true) (a : Bool) : Mac.Ok c { m with told := m.told ++ [(m.next, a)] } := by
  obtain ⟨hv, hk⟩ := h.2 ho
  refine ⟨h.1.len, h.1.pass, h.1.blk, h.1.fl, h.1.odd, fun x hx => ?_, ?_⟩
  · rcases List.mem_append.1 hx with hx | hx
    · exact h.1.told x hx
    · obtain rfl : x = (m.next, a) := by simpa using hx
      exact hv
  · rw [List.map_append, List.nodup_append]
    refine ⟨h.1.nod, by simp, fun x hx y hy => ?_⟩
    obtain rfl : y = m.next := by simpa using hy
    rintro rfl
    exact look_none.1 hk hx
theorem Cas.tell_ok {c : Cas} (hc : c.Ok) {m : Mac} (h : c.at .stop m) (ho : m.opn = true) (a : Bool) : c.at .stop (c.tell m a) ∧ (c.tell m a).told = m.told ++ [(m.next, a)] :=
  Cas.adv_ok hc (Mac.Ok.more h ho a)
theorem Cas.new_ok {c : Cas} (hc : c.Ok) {b : List Bool} (hb : b.length = c.n) : c.at .stop (c.new b) ∧ (c.new b).told = [] := Cas.adv_ok hc (mac0_ok hb)

/-! There are only so many questions. -/
def Cas.all (c : Cas) : List Qst := (List.range c.P).flatMap fun p => (List.range (c.n + 1)).flatMap fun i => (List.range (c.n + 1)).map fun j => ⟨p, i, j⟩
theorem Cas.mem_all {c : Cas} {q : Qst} (h : c.val q) : q ∈ c.all := by
  obtain ⟨p, i, j⟩ := q
  obtain ⟨h1, h2, h3⟩ := h
  unfold Cas.all
  simp only at h1 h2 h3
  exact List.mem_flatMap.2 ⟨p, List.mem_range.2 h1, List.mem_flatMap.2 ⟨i, List.mem_range.2 (by omega), List.mem_map.2 ⟨j, List.mem_range.2 (by omega), rfl⟩⟩⟩
theorem nodup_sub {α : Type} [DecidableEq α] : ∀ (l m : List α), l.Nodup → (∀ x ∈ l, x ∈ m) → l.length ≤ m.length
  | [], m, _, _ => Nat.zero_le _
  | x :: l, m, hn, hs => by
    have hx : x ∈ m := hs x (by simp)
    have hn2 := List.nodup_cons.1 hn
    have := nodup_sub l (m.erase x) hn2.2 (fun y hy => (List.mem_erase_of_ne (fun e => hn2.1 (by rw [← e]; exact hy))).2 (hs y (List.mem_cons_of_mem _ hy)))
    rw [List.length_erase_of_mem hx] at this
    have : 0 < m.length := List.length_pos_of_mem hx
    simp only [List.length_cons]; omega
theorem Cas.all_len (c : Cas) : c.all.length = c.P * ((c.n + 1) * (c.n + 1)) := by
  have h1 : ∀ p : Nat, ((List.range (c.n + 1)).flatMap fun i => (List.range (c.n + 1)).map fun j => (⟨p, i, j⟩ : Qst)).length = (c.n + 1) * (c.n + 1) := fun p => by
    rw [List.length_flatMap]
    simp only [List.length_map, List.length_range]
    rw [List.map_const', List.sum_replicate_nat, List.length_range]
  unfold Cas.all
  rw [List.length_flatMap]
  simp only [h1]
  rw [List.map_const', List.sum_replicate_nat, List.length_range]
theorem Mac.Ok.few {c : Cas} {m : Mac} (h : m.Ok c) : m.told.length ≤ c.P * ((c.n + 1) * (c.n + 1)) := by
  rw [← c.all_len, ← List.length_map (·.1)]
  refine nodup_sub _ _ h.nod (fun q hq => ?_)
  obtain ⟨x, hx, rfl⟩ := List.mem_map.1 hq
  exact Cas.mem_all (h.told x hx)

end Go.Proofs.YtfolgmcoggejbaaGreat
