/- Contract of the reference's Check. For any arrangement. -/
import Derived.Test.YteoaaphjbggobaaGreatOptB
namespace Go.Proofs.YteoaaphjbggobaaGreat
open Go.RowKit
set_option linter.unusedVariables false
set_option linter.unusedSimpArgs false

theorem no_two {k w : Int} (hk : ¬ k = 1) (hw : ¬ w = 256) : ¬ ((k != 1) = false ∨ (w != 256) = false) := by simp [hk, hw]
theorem wt_dull {a b c d : Int} (h : wtB [a, b, c, d] = true) : dullB a b c d = (a == 256) := by
  unfold wtB partB at h
  simp at h
  unfold dullB
  rw [Bool.eq_iff_iff]
  simp
  omega
theorem wt_cls {a b c : Int} (h : wtB [a, b, c] = true) : (a == 0 && (b == 0 && c == 256)) = (c == 256) := by
  unfold wtB partB at h
  simp at h
  rw [Bool.eq_iff_iff]
  simp
  omega
theorem opt_ref (o : Opt) : optB o = (headB o && (wtB [o.v0, o.v1, o.v2, o.v3] && (wtB [o.w0, o.w1, o.w2, o.w3] && (wtB [o.s0, o.s1, o.s2, o.s3] && (o.v0 == 256 && (decide (o.k = 1) || (o.c2 == 256 && o.w0 == 256))))))) := by
  have e : okTo o 3 = (((headB o && wtB [o.v0, o.v1, o.v2, o.v3]) && wtB [o.w0, o.w1, o.w2, o.w3]) && wtB [o.s0, o.s1, o.s2, o.s3]) := rfl
  unfold optB
  rw [e]
  cases hv : wtB [o.v0, o.v1, o.v2, o.v3]
  · simp
  · cases hw : wtB [o.w0, o.w1, o.w2, o.w3]
    · simp
    · cases hs : wtB [o.s0, o.s1, o.s2, o.s3]
      · simp
      · rw [wt_dull hv, wt_dull hw]
        cases hh : headB o
        · simp
        · have hc : wtB [o.c0, o.c1, o.c2] = true := by
            unfold headB at hh
            simp at hh
            exact hh.2.1
          rw [wt_cls hc]
          simp

end Go.Proofs.YteoaaphjbggobaaGreat
