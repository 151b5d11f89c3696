/- The numbers of the closed statement SiftExamples. -/
import Derived.Test.YteoaaphjbggobaaGreatDoorKnown
import Derived.Test.YteoaaphjbggobaaGreatDoorAgr
import Derived.Test.YteoaaphjbggobaaGreatDoorStxP
import Derived.Test.YteoaaphjbggobaaGreatDoorBlkA
import Derived.Test.YteoaaphjbggobaaGreatDoorSngD
namespace Go.Proofs.YteoaaphjbggobaaGreatDoor
open Go.RowKit
set_option linter.unusedVariables false
set_option linter.unusedSimpArgs false

def xmC : List Clk := [⟨0, 2⟩, ⟨1, 2⟩]
theorem xm_agr : agrV exP xmC 0 = (0, 0) ∧ agrV exP exC 0 = (0, 0) ∧ agrV exP exC 1 = (2, 0) := by decide +kernel
theorem xm_ali : alignV exP exC 2 = (1, 0) ∧ alignV exP exC 3 = (0, 17) := by decide +kernel
theorem xm_annE : annE exC 0 2 9 = 0 := by decide +kernel
theorem xm_annL : annL exC 0 2 9 = [⟨2, 1⟩] := by kernel_rfl
def xmH : List Hrd := [⟨0, 0⟩, ⟨17, 1⟩]
theorem xm_hd : hdE xmH = 0 := by decide +kernel
theorem dig0 : Lib.itoa 0 = [48] := by
  rw [show (0 : Int) = ((0 : Nat) : Int) from rfl, Lib.itoa_nonneg, Lib.decDigits_one (i := 0) (by decide)]; rfl
theorem dig1 : Lib.itoa 1 = [49] := by
  rw [show (1 : Int) = ((1 : Nat) : Int) from rfl, Lib.itoa_nonneg, Lib.decDigits_one (i := 1) (by decide)]; rfl
theorem dig17 : Lib.itoa 17 = [49, 55] := by
  rw [show (17 : Int) = ((17 : Nat) : Int) from rfl, Lib.itoa_nonneg, dec_step (by decide), Lib.decDigits_one (i := 17 / 10) (by decide), Lib.decDigits_one (i := 17 % 10) (by decide)]; rfl
theorem dig4096 : Lib.itoa 4096 = [52, 48, 57, 54] := by
  rw [show (4096 : Int) = ((4096 : Nat) : Int) from rfl, Lib.itoa_nonneg, dec_step (by decide), dec_step (n := 4096 / 10) (by decide), dec_step (n := 4096 / 10 / 10) (by decide), Lib.decDigits_one (i := 4096 / 10 / 10 / 10) (by decide), Lib.decDigits_one (i := 4096 / 10 / 10 % 10) (by decide), Lib.decDigits_one (i := 4096 / 10 % 10) (by decide), Lib.decDigits_one (i := 4096 % 10) (by decide)]; rfl
theorem xm_text : textH xmH = [48, 32, 48, 10, 49, 55, 32, 49, 10] := by
  simp only [textH, xmH, lineH, List.flatMap_cons, List.flatMap_nil, dig0, dig1, dig17]; rfl
def xmS1 : List UInt8 := [48, 32, 48]
def xmS2 : List UInt8 := [49, 32, 48, 10, 49, 32, 49, 10]
def xmS3 : List UInt8 := [52, 48, 57, 54, 32, 48, 10]
theorem hrd_of {l : List Hrd} {m : List (Int × Int)} (h : l.map (fun x => (x.slot, x.basis)) = m) : l = m.map fun x => ⟨x.1, x.2⟩ := by
  subst h; rw [List.map_map]; exact (List.map_id l).symm
theorem xm_opt {o : Option (List Hrd)} {m : List (Int × Int)} (h : o.map (fun l => l.map (fun x => (x.slot, x.basis))) = some m) : o = some (m.map fun x => ⟨x.1, x.2⟩) := by
  match o, h with
  | some l, h =>
    have h' : l.map (fun x => (x.slot, x.basis)) = m := by simpa using h
    rw [hrd_of h']
theorem xm_r1 : (refS [] 0 [] xmS1).map (fun l => l.map (fun x => (x.slot, x.basis))) = some [] := by decide +kernel
theorem xm_r2 : (refS [] 0 [] xmS2).map (fun l => l.map (fun x => (x.slot, x.basis))) = some [(1, 0), (1, 1)] := by decide +kernel
theorem xm_r3 : (refS [] 0 [] xmS3).map (fun l => l.map (fun x => (x.slot, x.basis))) = some [(4096, 0)] := by decide +kernel
theorem xm_no {s : List UInt8} {M : List Hrd} (h : refS [] 0 [] s = some M) (hn : ¬ (hdE M = 0 ∧ textH M = s)) {E : Int} {L : List Hrd} (hr : ReadH s E L) : E = 6 ∧ L = [] := by
  rcases read_ref h with h1 | h1
  · exact (hn ⟨h1.1, h1.2.1⟩).elim
  · exact h1.2.one hr |>.imp Eq.symm Eq.symm
theorem xm_p1 {E : Int} {L : List Hrd} (hr : ReadH xmS1 E L) : E = 6 ∧ L = [] := xm_no (xm_opt xm_r1) (fun h => absurd h.2 (by decide)) hr
theorem xm_p2 {E : Int} {L : List Hrd} (hr : ReadH xmS2 E L) : E = 6 ∧ L = [] := xm_no (xm_opt xm_r2) (fun h => absurd h.1 (by decide +kernel)) hr
theorem xm_p3 {E : Int} {L : List Hrd} (hr : ReadH xmS3 E L) : E = 6 ∧ L = [] := xm_no (xm_opt xm_r3) (fun h => absurd h.1 (by decide +kernel)) hr
def xmB : List Int := [3, 5, 8, 9, 12]
theorem xm_bE : bkE xmB.length 2 = 0 := by decide +kernel
theorem xm_bL : bkL xmB 2 = [[3, 5], [8, 9]] := by decide +kernel
theorem xm_rate (A C : Option Addr) (c d : Nat) : rateV 4 2 0 ⟨A, c, [1], C, d, [6]⟩ = .agg #[.int .i64 4, .int .i64 2, .int .i64 0, .int .i64 1, .int .i64 1] ∧ boundE 4 2 0 ⟨A, c, [1], C, d, [6]⟩ = 0 := by
  have h1 : boundE 4 2 0 ⟨A, c, [1], C, d, [6]⟩ = 0 := (show boundE 4 2 0 ⟨none, 0, [1], none, 0, [6]⟩ = 0 by decide +kernel)
  have h2 : boundI 4 2 0 ⟨A, c, [1], C, d, [6]⟩ = 1 := (show boundI 4 2 0 ⟨none, 0, [1], none, 0, [6]⟩ = 1 by decide +kernel)
  refine ⟨?_, h1⟩
  unfold rateV
  rw [if_pos h1, h2]
  rfl
theorem xm_judge (A C : Option Addr) (c d : Nat) : judgeE 10 1 ⟨A, c, [1], C, d, [10]⟩ = 0 ∧ judgeE 10 2 ⟨A, c, [1], C, d, [10]⟩ = 18 ∧ judgeE 0 0 ⟨A, c, [], C, d, [1]⟩ = 0 :=
  (show judgeE 10 1 ⟨none, 0, [1], none, 0, [10]⟩ = 0 ∧ judgeE 10 2 ⟨none, 0, [1], none, 0, [10]⟩ = 18 ∧ judgeE 0 0 ⟨none, 0, [], none, 0, [1]⟩ = 0 by decide +kernel)
def xmO : Opt := ⟨1, 64, 64, 128, 256, 0, 0, 0, 128, 96, 32, 0, 64, 64, 64, 64, 256, 0⟩
def xmG : Gn := ⟨100, 0, 0, 100, 25, 0, 100, 40, 0⟩
theorem xm_gE : gainsE xmO xmG = 0 := by decide +kernel
theorem xm_y : brN 0 (yNum xmO xmG) (yDen xmO xmG) = 1 ∧ brD 0 (yNum xmO xmG) (yDen xmO xmG) = 5 := by decide +kernel
theorem xm_z : brN 0 (fNum xmO xmG) (fDen xmO xmG) = 0 ∧ brD 0 (fNum xmO xmG) (fDen xmO xmG) = 1 := by decide +kernel
theorem xm_k : sngK xmO xmG 100 = 12 ∧ sngE xmO xmG 100 = 0 := by decide +kernel
end Go.Proofs.YteoaaphjbggobaaGreatDoor
