/- Contract of the statement's hashes. For blocks of one length, at most 512 bits. -/
import Derived.Test.YtiphhkfmemkldaaDoorMixA
import Derived.Test.YtiphhkfmemkldaaDoorTopB
import Derived.Test.YtiphhkfmemkldaaDoorColP
namespace Go.Proofs.YtiphhkfmemkldaaDoor
open Go.RowKit
set_option linter.unusedVariables false
set_option linter.unusedSimpArgs false

set_option maxRecDepth 100000 in
set_option maxHeartbeats 2000000 in
theorem hashes_any (A B C : Option Addr) (cA cB cC : Nat) (s a b : List Bool) (out : Nat) (w : World) (hA : Arr 1 encB w w.heap.size A s) (hB : Arr 1 encB w w.heap.size B a) (hC : Arr 1 encB w w.heap.size C b)
    (la : a.length ≤ 512) (hl : b.length = a.length) (lo : out ≤ 512) (ls : s.length = a.length + out - 1) (lc : s.length ≤ cA) (mc : cA ≤ maxLen) :
    Calls Tryd.prog 9 #[.slice A s.length cA, .slice B a.length cB, .slice C b.length cC, .int .i64 out] w fun e w' => e = .returned (.tuple #[.bool (mixB s a b out), .bool true]) ∧ Below w.heap.size w w' := by
  have c1 := Toeplitz_any A B cA cB s a out w hA hB la lo ls lc mc
  have c2 := fun w' (hb : Below w.heap.size w w') => Toeplitz_any A C cA cC s b out w' (hA.on hb) (hC.on hb) (by omega) lo (by omega) lc mc
  have l1 : Hid ((toepL s a out).length = out) := Lib.hid (toepK_len _ _ _ _)
  have l2 : Hid ((toepL s b out).length = out) := Lib.hid (toepK_len _ _ _ _)
  have hm : Hid (mixB s a b out = decide (toepL s a out = toepL s b out)) := Lib.hid rfl
  rw [hm.out]
  generalize toepL s a out = X at *
  generalize toepL s b out = Y at *
  clear ls hl
  go_enter Tryd.func9, Tryd.ntmps9
  go_wp2_with (first
    | (go_at_call 29; refine Calls.on (args' := #[.slice A s.length cA, .slice B a.length cB, .int .i64 (out : Int)]) rfl ?_; refine c1.mono ?_; rintro e w1 ⟨v1, rfl, own1, hb1⟩; obtain ⟨A1, k1, hv1, ar1⟩ := toep_form own1; rw [l1.out] at hv1; subst hv1)
    | (go_at_call 29; refine Calls.on (args' := #[.slice A s.length cA, .slice C b.length cC, .int .i64 (out : Int)]) rfl ?_; refine (c2 _ hb1).mono ?_; rintro e w2 ⟨v2, rfl, own2, hb2⟩; obtain ⟨A2, k2, hv2, ar2⟩ := toep_form own2; rw [l2.out] at hv2; subst hv2; have cS := Same_any A1 A2 k1 k2 X Y w2 (ar1.on hb2) ar2 (by rw [l1.out]; omega) (by rw [l2.out]; omega); rw [l1.out, l2.out] at cS)
    | (go_at_call 30; refine cS.mono ?_; rintro e w3 ⟨rfl, hb3⟩))
  go_ret2
  exact ⟨rfl, below_trans (below_trans hb1 hb2) hb3⟩

end Go.Proofs.YtiphhkfmemkldaaDoor
