/-
  No cell of these rows narrows 'for every input' (looked for: loops, veiled, ifaces, maps, wideKeys, modest, calm, conditions, laid).
  DERIVED. THE GIVEN ROWS OF THIS SEAT. 5 by the template 'for every input the law returns true; each argument reads behind the call as it read before'; 0 by the template 'total and deterministic' (their statements: YtmlppnapodamaaaTotals.lean).
  GIVEN WITH THE SEED: the statements are not yours to turn. If you find one false, say at which input.
  Laid BY PROGRAM, IN A SANDBOX (cutbox-rows.mjs): the forced cells as the released guide's own fill.sh prints them over the translation 528f2851c8565e1a… (all of the seat's roots in one cut). By AI agents, Wed Nov 11 2026. No macro, syntax, notation, axiom, sorry.
-/
import Derived.Test.YtmlppnapodamaaaChecked
import GoSem.Claim
import GoSem.ClaimJoined
import GoSem.ClaimMapViews
import Derived.JoinedTies
import Derived.KernelRfl
namespace Go.Proofs.Ytmlppnapodamaaa
/- THE CELL 'sum', in the pinned program and in every row, IS THE sha256 OF THE DUMP (.gsa) THAT YtmlppnapodamaaaProg.lean LOADS. Nothing in Lean hashes anything: it is a label: what it is worth is what the hold of that sum in a sandbox is worth. -/
noncomputable def Try.pinned : Pinned := { name := "ytmlppnapodamaaa", sum := "528f2851c8565e1a6001ba389ca23fe8cbbe9ce931d2e4e80ab6e6ee43280f96", checked := Try.checked }
namespace Rows
def none {H : Type} : Left H := { results := [], args := [] }

/-- 'waveplatelaw04.SiftBlocks': WHATEVER THE INPUT: true; the input reads as it did. -/
def siftBlocksSpec : ChangeSpec := { name := "siftBlocks", fn := fun _ => fun
  | [d1, d2, d3] => { results := [.lit (.bool true)], args := [d1, d2, d3] }
  | _ => none }
def siftBlocksRow : OpenClaim := { program := "ytmlppnapodamaaa", sum := "528f2851c8565e1a6001ba389ca23fe8cbbe9ce931d2e4e80ab6e6ee43280f96", func := "waveplate/waveplatelaw04.SiftBlocks", spec := "siftBlocks", unfollowed := true, recurses := true, apart := false }
def SiftBlocksSaid : Prop := siftBlocksRow.holds Try.pinned (OpenSpec.ofChange siftBlocksSpec)

/-- ITS FALSE NEIGHBOUR: 'it returns false'. Refute it at one input. -/
def siftBlocksWrong : ChangeSpec := { name := "siftBlocks", fn := fun _ => fun
  | [d1, d2, d3] => { results := [.lit (.bool false)], args := [d1, d2, d3] }
  | _ => none }
def SiftBlocksWrongFalsely : Prop := siftBlocksRow.holds Try.pinned (OpenSpec.ofChange siftBlocksWrong)

/-- 'waveplatelaw04.SiftThreshold': WHATEVER THE INPUT: true; the input reads as it did. -/
def siftThresholdSpec : ChangeSpec := { name := "siftThreshold", fn := fun _ => fun
  | [d1, d2, d3, d4, d5] => { results := [.lit (.bool true)], args := [d1, d2, d3, d4, d5] }
  | _ => none }
def siftThresholdRow : OpenClaim := { program := "ytmlppnapodamaaa", sum := "528f2851c8565e1a6001ba389ca23fe8cbbe9ce931d2e4e80ab6e6ee43280f96", func := "waveplate/waveplatelaw04.SiftThreshold", spec := "siftThreshold", unfollowed := true, recurses := true, apart := false }
def SiftThresholdSaid : Prop := siftThresholdRow.holds Try.pinned (OpenSpec.ofChange siftThresholdSpec)

/-- ITS FALSE NEIGHBOUR: 'it returns false'. Refute it at one input. -/
def siftThresholdWrong : ChangeSpec := { name := "siftThreshold", fn := fun _ => fun
  | [d1, d2, d3, d4, d5] => { results := [.lit (.bool false)], args := [d1, d2, d3, d4, d5] }
  | _ => none }
def SiftThresholdWrongFalsely : Prop := siftThresholdRow.holds Try.pinned (OpenSpec.ofChange siftThresholdWrong)

/-- 'waveplatelaw04.SiftEnds': WHATEVER THE INPUT: true; the input reads as it did. -/
def siftEndsSpec : ChangeSpec := { name := "siftEnds", fn := fun _ => fun
  | [d] => { results := [.lit (.bool true)], args := [d] }
  | _ => none }
def siftEndsRow : OpenClaim := { program := "ytmlppnapodamaaa", sum := "528f2851c8565e1a6001ba389ca23fe8cbbe9ce931d2e4e80ab6e6ee43280f96", func := "waveplate/waveplatelaw04.SiftEnds", spec := "siftEnds", unfollowed := true, recurses := true, apart := false }
def SiftEndsSaid : Prop := siftEndsRow.holds Try.pinned (OpenSpec.ofChange siftEndsSpec)

/-- ITS FALSE NEIGHBOUR: 'it returns false'. Refute it at one input. -/
def siftEndsWrong : ChangeSpec := { name := "siftEnds", fn := fun _ => fun
  | [d] => { results := [.lit (.bool false)], args := [d] }
  | _ => none }
def SiftEndsWrongFalsely : Prop := siftEndsRow.holds Try.pinned (OpenSpec.ofChange siftEndsWrong)

/-- 'waveplatelaw04.SiftYields': WHATEVER THE INPUT: true; the input reads as it did. -/
def siftYieldsSpec : ChangeSpec := { name := "siftYields", fn := fun _ => fun
  | [d1, d2] => { results := [.lit (.bool true)], args := [d1, d2] }
  | _ => none }
def siftYieldsRow : OpenClaim := { program := "ytmlppnapodamaaa", sum := "528f2851c8565e1a6001ba389ca23fe8cbbe9ce931d2e4e80ab6e6ee43280f96", func := "waveplate/waveplatelaw04.SiftYields", spec := "siftYields", unfollowed := true, recurses := true, apart := false }
def SiftYieldsSaid : Prop := siftYieldsRow.holds Try.pinned (OpenSpec.ofChange siftYieldsSpec)

/-- ITS FALSE NEIGHBOUR: 'it returns false'. Refute it at one input. -/
def siftYieldsWrong : ChangeSpec := { name := "siftYields", fn := fun _ => fun
  | [d1, d2] => { results := [.lit (.bool false)], args := [d1, d2] }
  | _ => none }
def SiftYieldsWrongFalsely : Prop := siftYieldsRow.holds Try.pinned (OpenSpec.ofChange siftYieldsWrong)

/-- 'waveplatelaw04.SiftBounds': WHATEVER THE INPUT: true; the input reads as it did. -/
def siftBoundsSpec : ChangeSpec := { name := "siftBounds", fn := fun _ => fun
  | [d1, d2, d3] => { results := [.lit (.bool true)], args := [d1, d2, d3] }
  | _ => none }
def siftBoundsRow : OpenClaim := { program := "ytmlppnapodamaaa", sum := "528f2851c8565e1a6001ba389ca23fe8cbbe9ce931d2e4e80ab6e6ee43280f96", func := "waveplate/waveplatelaw04.SiftBounds", spec := "siftBounds", unfollowed := true, recurses := true, apart := false }
def SiftBoundsSaid : Prop := siftBoundsRow.holds Try.pinned (OpenSpec.ofChange siftBoundsSpec)

/-- ITS FALSE NEIGHBOUR: 'it returns false'. Refute it at one input. -/
def siftBoundsWrong : ChangeSpec := { name := "siftBounds", fn := fun _ => fun
  | [d1, d2, d3] => { results := [.lit (.bool false)], args := [d1, d2, d3] }
  | _ => none }
def SiftBoundsWrongFalsely : Prop := siftBoundsRow.holds Try.pinned (OpenSpec.ofChange siftBoundsWrong)

/- THE SECOND FORM. 'bulk': how many values and letters a reading holds, each counted each time it is reached (what is shared counts as often as it is met; a slice's spare places count too). A statement '..UptoSaid' is the law's where the arguments, and the package variables that the reading takes, are together of bulk at most 1048576: NARROWER than '..Said'. Prove '..Said' where nothing that the law and all that it calls make is longer than what came in: it says more and counts as full. Else prove '..UptoSaid'. A law counts once. -/
mutual
def uptoBulk {H : Type} : DataW H → Nat
  | .lit (.string bytes) => bytes.length + 1
  | .lit _ => 1
  | .nil => 1
  | .ptr d => uptoBulk d + 1
  | .slice elems spare => uptoBulkAll elems + uptoBulkAll spare + 1
  | .agg parts => uptoBulkAll parts + 1
  | .iface _ d => uptoBulk d + 1
  | .map entries => uptoBulkEntries entries + 1
  | .held _ => 1
def uptoBulkAll {H : Type} : List (DataW H) → Nat
  | [] => 0
  | d :: r => uptoBulk d + uptoBulkAll r
def uptoBulkEntries {H : Type} : List (Lit × DataW H) → Nat
  | [] => 0
  | x :: r => uptoBulkEntry x + uptoBulkEntries r
def uptoBulkEntry {H : Type} : Lit × DataW H → Nat
  | (.string bytes, d) => bytes.length + uptoBulk d + 1
  | (_, d) => uptoBulk d + 1
 end
def uptoSmall : (H : Type) → List (DataW H) → Bool := fun _ ds => decide (uptoBulkAll ds ≤ 1048576)
def OpenSpec.upto (s : _root_.Go.ChangeSpec) : _root_.Go.OpenSpec := { _root_.Go.OpenSpec.ofChange s with cond := some uptoSmall }

/-- 'waveplatelaw04.SiftBlocks', WHERE WHAT IT READS IS OF BULK AT MOST 1048576: true; the input reads as it did. -/
def siftBlocksUptoRow : OpenClaim := { program := "ytmlppnapodamaaa", sum := "528f2851c8565e1a6001ba389ca23fe8cbbe9ce931d2e4e80ab6e6ee43280f96", func := "waveplate/waveplatelaw04.SiftBlocks", spec := "siftBlocks", unfollowed := true, recurses := true, apart := false, narrowed := true }
def SiftBlocksUptoSaid : Prop := siftBlocksUptoRow.holds Try.pinned (OpenSpec.upto siftBlocksSpec)

/-- 'waveplatelaw04.SiftThreshold', WHERE WHAT IT READS IS OF BULK AT MOST 1048576: true; the input reads as it did. -/
def siftThresholdUptoRow : OpenClaim := { program := "ytmlppnapodamaaa", sum := "528f2851c8565e1a6001ba389ca23fe8cbbe9ce931d2e4e80ab6e6ee43280f96", func := "waveplate/waveplatelaw04.SiftThreshold", spec := "siftThreshold", unfollowed := true, recurses := true, apart := false, narrowed := true }
def SiftThresholdUptoSaid : Prop := siftThresholdUptoRow.holds Try.pinned (OpenSpec.upto siftThresholdSpec)

/-- 'waveplatelaw04.SiftEnds', WHERE WHAT IT READS IS OF BULK AT MOST 1048576: true; the input reads as it did. -/
def siftEndsUptoRow : OpenClaim := { program := "ytmlppnapodamaaa", sum := "528f2851c8565e1a6001ba389ca23fe8cbbe9ce931d2e4e80ab6e6ee43280f96", func := "waveplate/waveplatelaw04.SiftEnds", spec := "siftEnds", unfollowed := true, recurses := true, apart := false, narrowed := true }
def SiftEndsUptoSaid : Prop := siftEndsUptoRow.holds Try.pinned (OpenSpec.upto siftEndsSpec)

/-- 'waveplatelaw04.SiftYields', WHERE WHAT IT READS IS OF BULK AT MOST 1048576: true; the input reads as it did. -/
def siftYieldsUptoRow : OpenClaim := { program := "ytmlppnapodamaaa", sum := "528f2851c8565e1a6001ba389ca23fe8cbbe9ce931d2e4e80ab6e6ee43280f96", func := "waveplate/waveplatelaw04.SiftYields", spec := "siftYields", unfollowed := true, recurses := true, apart := false, narrowed := true }
def SiftYieldsUptoSaid : Prop := siftYieldsUptoRow.holds Try.pinned (OpenSpec.upto siftYieldsSpec)

/-- 'waveplatelaw04.SiftBounds', WHERE WHAT IT READS IS OF BULK AT MOST 1048576: true; the input reads as it did. -/
def siftBoundsUptoRow : OpenClaim := { program := "ytmlppnapodamaaa", sum := "528f2851c8565e1a6001ba389ca23fe8cbbe9ce931d2e4e80ab6e6ee43280f96", func := "waveplate/waveplatelaw04.SiftBounds", spec := "siftBounds", unfollowed := true, recurses := true, apart := false, narrowed := true }
def SiftBoundsUptoSaid : Prop := siftBoundsUptoRow.holds Try.pinned (OpenSpec.upto siftBoundsSpec)

end Rows
end Go.Proofs.Ytmlppnapodamaaa
