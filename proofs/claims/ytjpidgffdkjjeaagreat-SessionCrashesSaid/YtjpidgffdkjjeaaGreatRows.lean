/-
  No cell of these rows narrows 'for every input' (looked for: loops, veiled, ifaces, maps, wideKeys, modest, calm, conditions, laid).
  DERIVED. THE GIVEN ROWS OF THIS SEAT. 8 by the template 'for every input the law returns true; each argument reads behind the call as it read before'; 0 by the template 'total and deterministic' (their statements: YtjpidgffdkjjeaaGreatTotals.lean).
  GIVEN WITH THE SEED: the statements are not yours to turn. If you find one false, say at which input.
  Laid BY PROGRAM, IN A SANDBOX (cutbox-rows.mjs): the forced cells as the released guide's own fill.sh prints them over the translation 7219dc3f99c82886… (all of the seat's roots in one cut). By AI agents, Wed Nov 11 2026. No macro, syntax, notation, axiom, sorry.
-/
import Derived.Test.YtjpidgffdkjjeaaGreatChecked
import GoSem.Claim
import GoSem.ClaimJoined
import GoSem.ClaimMapViews
import Derived.JoinedTies
import Derived.KernelRfl
namespace Go.Proofs.YtjpidgffdkjjeaaGreat
/- THE CELL 'sum', in the pinned program and in every row, IS THE sha256 OF THE DUMP (.gsa) THAT YtjpidgffdkjjeaaGreatProg.lean LOADS. Nothing in Lean hashes anything: it is a label: what it is worth is what the hold of that sum in a sandbox is worth. -/
noncomputable def Tryz.pinned : Pinned := { name := "ytjpidgffdkjjeaagreat", sum := "7219dc3f99c8288602c0a7f4cb4fdf78fd598bda6d30a255a850f70507b1f5ce", checked := Tryz.checked }
namespace Rows
def none {H : Type} : Left H := { results := [], args := [] }

/-- 'waveplatelaw07.SessionForges': WHATEVER THE INPUT: true; the input reads as it did. -/
def sessionForgesSpec : ChangeSpec := { name := "sessionForges", fn := fun _ => fun
  | [d1, d2, d3, d4] => { results := [.lit (.bool true)], args := [d1, d2, d3, d4] }
  | _ => none }
def sessionForgesRow : OpenClaim := { program := "ytjpidgffdkjjeaagreat", sum := "7219dc3f99c8288602c0a7f4cb4fdf78fd598bda6d30a255a850f70507b1f5ce", func := "waveplate/waveplatelaw07.SessionForges", spec := "sessionForges", unfollowed := true, recurses := true, plainKeys := false, apart := false }
def SessionForgesSaid : Prop := sessionForgesRow.holds Tryz.pinned (OpenSpec.ofChange sessionForgesSpec)

/-- ITS FALSE NEIGHBOUR: 'it returns false'. Refute it at one input. -/
def sessionForgesWrong : ChangeSpec := { name := "sessionForges", fn := fun _ => fun
  | [d1, d2, d3, d4] => { results := [.lit (.bool false)], args := [d1, d2, d3, d4] }
  | _ => none }
def SessionForgesWrongFalsely : Prop := sessionForgesRow.holds Tryz.pinned (OpenSpec.ofChange sessionForgesWrong)

/-- 'waveplatelaw07.SessionLengths': WHATEVER THE INPUT: true; the input reads as it did. -/
def sessionLengthsSpec : ChangeSpec := { name := "sessionLengths", fn := fun _ => fun
  | [d1, d2] => { results := [.lit (.bool true)], args := [d1, d2] }
  | _ => none }
def sessionLengthsRow : OpenClaim := { program := "ytjpidgffdkjjeaagreat", sum := "7219dc3f99c8288602c0a7f4cb4fdf78fd598bda6d30a255a850f70507b1f5ce", func := "waveplate/waveplatelaw07.SessionLengths", spec := "sessionLengths", inPlace := ["maps.clone"], unfollowed := true, recurses := true, plainKeys := false, apart := false }
def SessionLengthsSaid : Prop := sessionLengthsRow.holds Tryz.pinned (OpenSpec.ofChange sessionLengthsSpec)

/-- ITS FALSE NEIGHBOUR: 'it returns false'. Refute it at one input. -/
def sessionLengthsWrong : ChangeSpec := { name := "sessionLengths", fn := fun _ => fun
  | [d1, d2] => { results := [.lit (.bool false)], args := [d1, d2] }
  | _ => none }
def SessionLengthsWrongFalsely : Prop := sessionLengthsRow.holds Tryz.pinned (OpenSpec.ofChange sessionLengthsWrong)

/-- 'waveplatelaw07.SessionEnds': WHATEVER THE INPUT: true; the input reads as it did. -/
def sessionEndsSpec : ChangeSpec := { name := "sessionEnds", fn := fun _ => fun
  | [d1, d2] => { results := [.lit (.bool true)], args := [d1, d2] }
  | _ => none }
def sessionEndsRow : OpenClaim := { program := "ytjpidgffdkjjeaagreat", sum := "7219dc3f99c8288602c0a7f4cb4fdf78fd598bda6d30a255a850f70507b1f5ce", func := "waveplate/waveplatelaw07.SessionEnds", spec := "sessionEnds", inPlace := ["maps.clone"], unfollowed := true, recurses := true, plainKeys := false, apart := false }
def SessionEndsSaid : Prop := sessionEndsRow.holds Tryz.pinned (OpenSpec.ofChange sessionEndsSpec)

/-- ITS FALSE NEIGHBOUR: 'it returns false'. Refute it at one input. -/
def sessionEndsWrong : ChangeSpec := { name := "sessionEnds", fn := fun _ => fun
  | [d1, d2] => { results := [.lit (.bool false)], args := [d1, d2] }
  | _ => none }
def SessionEndsWrongFalsely : Prop := sessionEndsRow.holds Tryz.pinned (OpenSpec.ofChange sessionEndsWrong)

/-- 'waveplatelaw07.SessionRefuses': WHATEVER THE INPUT: true; the input reads as it did. -/
def sessionRefusesSpec : ChangeSpec := { name := "sessionRefuses", fn := fun _ => fun
  | [d] => { results := [.lit (.bool true)], args := [d] }
  | _ => none }
def sessionRefusesRow : OpenClaim := { program := "ytjpidgffdkjjeaagreat", sum := "7219dc3f99c8288602c0a7f4cb4fdf78fd598bda6d30a255a850f70507b1f5ce", func := "waveplate/waveplatelaw07.SessionRefuses", spec := "sessionRefuses", inPlace := ["maps.clone"], unfollowed := true, recurses := true, plainKeys := false, apart := false }
def SessionRefusesSaid : Prop := sessionRefusesRow.holds Tryz.pinned (OpenSpec.ofChange sessionRefusesSpec)

/-- ITS FALSE NEIGHBOUR: 'it returns false'. Refute it at one input. -/
def sessionRefusesWrong : ChangeSpec := { name := "sessionRefuses", fn := fun _ => fun
  | [d] => { results := [.lit (.bool false)], args := [d] }
  | _ => none }
def SessionRefusesWrongFalsely : Prop := sessionRefusesRow.holds Tryz.pinned (OpenSpec.ofChange sessionRefusesWrong)

/-- 'waveplatelaw07.SessionHonest': WHATEVER THE INPUT: true; the input reads as it did. -/
def sessionHonestSpec : ChangeSpec := { name := "sessionHonest", fn := fun _ => fun
  | [d] => { results := [.lit (.bool true)], args := [d] }
  | _ => none }
def sessionHonestRow : OpenClaim := { program := "ytjpidgffdkjjeaagreat", sum := "7219dc3f99c8288602c0a7f4cb4fdf78fd598bda6d30a255a850f70507b1f5ce", func := "waveplate/waveplatelaw07.SessionHonest", spec := "sessionHonest", inPlace := ["maps.clone"], unfollowed := true, recurses := true, plainKeys := false, apart := false }
def SessionHonestSaid : Prop := sessionHonestRow.holds Tryz.pinned (OpenSpec.ofChange sessionHonestSpec)

/-- ITS FALSE NEIGHBOUR: 'it returns false'. Refute it at one input. -/
def sessionHonestWrong : ChangeSpec := { name := "sessionHonest", fn := fun _ => fun
  | [d] => { results := [.lit (.bool false)], args := [d] }
  | _ => none }
def SessionHonestWrongFalsely : Prop := sessionHonestRow.holds Tryz.pinned (OpenSpec.ofChange sessionHonestWrong)

/-- 'waveplatelaw07.SessionEqual': WHATEVER THE INPUT: true; the input reads as it did. -/
def sessionEqualSpec : ChangeSpec := { name := "sessionEqual", fn := fun _ => fun
  | [d1, d2] => { results := [.lit (.bool true)], args := [d1, d2] }
  | _ => none }
def sessionEqualRow : OpenClaim := { program := "ytjpidgffdkjjeaagreat", sum := "7219dc3f99c8288602c0a7f4cb4fdf78fd598bda6d30a255a850f70507b1f5ce", func := "waveplate/waveplatelaw07.SessionEqual", spec := "sessionEqual", inPlace := ["maps.clone"], unfollowed := true, recurses := true, plainKeys := false, apart := false }
def SessionEqualSaid : Prop := sessionEqualRow.holds Tryz.pinned (OpenSpec.ofChange sessionEqualSpec)

/-- ITS FALSE NEIGHBOUR: 'it returns false'. Refute it at one input. -/
def sessionEqualWrong : ChangeSpec := { name := "sessionEqual", fn := fun _ => fun
  | [d1, d2] => { results := [.lit (.bool false)], args := [d1, d2] }
  | _ => none }
def SessionEqualWrongFalsely : Prop := sessionEqualRow.holds Tryz.pinned (OpenSpec.ofChange sessionEqualWrong)

/-- 'waveplatelaw07.SessionCrashes': WHATEVER THE INPUT: true; the input reads as it did. -/
def sessionCrashesSpec : ChangeSpec := { name := "sessionCrashes", fn := fun _ => fun
  | [d1, d2, d3] => { results := [.lit (.bool true)], args := [d1, d2, d3] }
  | _ => none }
def sessionCrashesRow : OpenClaim := { program := "ytjpidgffdkjjeaagreat", sum := "7219dc3f99c8288602c0a7f4cb4fdf78fd598bda6d30a255a850f70507b1f5ce", func := "waveplate/waveplatelaw07.SessionCrashes", spec := "sessionCrashes", inPlace := ["maps.clone"], unfollowed := true, recurses := true, plainKeys := false, apart := false }
def SessionCrashesSaid : Prop := sessionCrashesRow.holds Tryz.pinned (OpenSpec.ofChange sessionCrashesSpec)

/-- ITS FALSE NEIGHBOUR: 'it returns false'. Refute it at one input. -/
def sessionCrashesWrong : ChangeSpec := { name := "sessionCrashes", fn := fun _ => fun
  | [d1, d2, d3] => { results := [.lit (.bool false)], args := [d1, d2, d3] }
  | _ => none }
def SessionCrashesWrongFalsely : Prop := sessionCrashesRow.holds Tryz.pinned (OpenSpec.ofChange sessionCrashesWrong)

/-- 'waveplatelaw07.SessionNumbers': WHATEVER THE INPUT: true; the input reads as it did. -/
def sessionNumbersSpec : ChangeSpec := { name := "sessionNumbers", fn := fun _ => fun
  | [d1, d2] => { results := [.lit (.bool true)], args := [d1, d2] }
  | _ => none }
def sessionNumbersRow : OpenClaim := { program := "ytjpidgffdkjjeaagreat", sum := "7219dc3f99c8288602c0a7f4cb4fdf78fd598bda6d30a255a850f70507b1f5ce", func := "waveplate/waveplatelaw07.SessionNumbers", spec := "sessionNumbers", inPlace := ["maps.clone"], unfollowed := true, recurses := true, plainKeys := false, apart := false }
def SessionNumbersSaid : Prop := sessionNumbersRow.holds Tryz.pinned (OpenSpec.ofChange sessionNumbersSpec)

/-- ITS FALSE NEIGHBOUR: 'it returns false'. Refute it at one input. -/
def sessionNumbersWrong : ChangeSpec := { name := "sessionNumbers", fn := fun _ => fun
  | [d1, d2] => { results := [.lit (.bool false)], args := [d1, d2] }
  | _ => none }
def SessionNumbersWrongFalsely : Prop := sessionNumbersRow.holds Tryz.pinned (OpenSpec.ofChange sessionNumbersWrong)

/- THE SECOND FORM. 'bulk': how many values and letters a reading holds, each counted each time it is reached (what is shared counts as often as it is met; a slice's spare places count too). A statement '..UptoSaid' is the law's where the arguments, and the package variables that the reading takes, are together of bulk at most 1048576: NARROWER than '..Said'. Prove '..Said' where nothing that the law and all that it calls make is longer than what came in: it says more and counts as full. Else prove '..UptoSaid'. A law counts once. -/
mutual
def uptoBulk {H : Type} : DataW H → Nat
  | .lit (.string bytes) => bytes.length + 1
  | .lit _ => 1
  | .nil => 1
  | .ptr d => uptoBulk d + 1
  | .slice elems spare => uptoBulkAll elems + uptoBulkAll spare + 1
  | .agg parts => uptoBulkAll parts + 1
  | .iface _ d => uptoBulk d + 1
  | .map entries => uptoBulkEntries entries + 1
  | .held _ => 1
def uptoBulkAll {H : Type} : List (DataW H) → Nat
  | [] => 0
  | d :: r => uptoBulk d + uptoBulkAll r
def uptoBulkEntries {H : Type} : List (Lit × DataW H) → Nat
  | [] => 0
  | x :: r => uptoBulkEntry x + uptoBulkEntries r
def uptoBulkEntry {H : Type} : Lit × DataW H → Nat
  | (.string bytes, d) => bytes.length + uptoBulk d + 1
  | (_, d) => uptoBulk d + 1
 end
def uptoSmall : (H : Type) → List (DataW H) → Bool := fun _ ds => decide (uptoBulkAll ds ≤ 1048576)
def OpenSpec.upto (s : _root_.Go.ChangeSpec) : _root_.Go.OpenSpec := { _root_.Go.OpenSpec.ofChange s with cond := some uptoSmall }

/-- 'waveplatelaw07.SessionForges', WHERE WHAT IT READS IS OF BULK AT MOST 1048576: true; the input reads as it did. -/
def sessionForgesUptoRow : OpenClaim := { program := "ytjpidgffdkjjeaagreat", sum := "7219dc3f99c8288602c0a7f4cb4fdf78fd598bda6d30a255a850f70507b1f5ce", func := "waveplate/waveplatelaw07.SessionForges", spec := "sessionForges", unfollowed := true, recurses := true, plainKeys := false, apart := false, narrowed := true }
def SessionForgesUptoSaid : Prop := sessionForgesUptoRow.holds Tryz.pinned (OpenSpec.upto sessionForgesSpec)

/-- 'waveplatelaw07.SessionLengths', WHERE WHAT IT READS IS OF BULK AT MOST 1048576: true; the input reads as it did. -/
def sessionLengthsUptoRow : OpenClaim := { program := "ytjpidgffdkjjeaagreat", sum := "7219dc3f99c8288602c0a7f4cb4fdf78fd598bda6d30a255a850f70507b1f5ce", func := "waveplate/waveplatelaw07.SessionLengths", spec := "sessionLengths", inPlace := ["maps.clone"], unfollowed := true, recurses := true, plainKeys := false, apart := false, narrowed := true }
def SessionLengthsUptoSaid : Prop := sessionLengthsUptoRow.holds Tryz.pinned (OpenSpec.upto sessionLengthsSpec)

/-- 'waveplatelaw07.SessionEnds', WHERE WHAT IT READS IS OF BULK AT MOST 1048576: true; the input reads as it did. -/
def sessionEndsUptoRow : OpenClaim := { program := "ytjpidgffdkjjeaagreat", sum := "7219dc3f99c8288602c0a7f4cb4fdf78fd598bda6d30a255a850f70507b1f5ce", func := "waveplate/waveplatelaw07.SessionEnds", spec := "sessionEnds", inPlace := ["maps.clone"], unfollowed := true, recurses := true, plainKeys := false, apart := false, narrowed := true }
def SessionEndsUptoSaid : Prop := sessionEndsUptoRow.holds Tryz.pinned (OpenSpec.upto sessionEndsSpec)

/-- 'waveplatelaw07.SessionRefuses', WHERE WHAT IT READS IS OF BULK AT MOST 1048576: true; the input reads as it did. -/
def sessionRefusesUptoRow : OpenClaim := { program := "ytjpidgffdkjjeaagreat", sum := "7219dc3f99c8288602c0a7f4cb4fdf78fd598bda6d30a255a850f70507b1f5ce", func := "waveplate/waveplatelaw07.SessionRefuses", spec := "sessionRefuses", inPlace := ["maps.clone"], unfollowed := true, recurses := true, plainKeys := false, apart := false, narrowed := true }
def SessionRefusesUptoSaid : Prop := sessionRefusesUptoRow.holds Tryz.pinned (OpenSpec.upto sessionRefusesSpec)

/-- 'waveplatelaw07.SessionHonest', WHERE WHAT IT READS IS OF BULK AT MOST 1048576: true; the input reads as it did. -/
def sessionHonestUptoRow : OpenClaim := { program := "ytjpidgffdkjjeaagreat", sum := "7219dc3f99c8288602c0a7f4cb4fdf78fd598bda6d30a255a850f70507b1f5ce", func := "waveplate/waveplatelaw07.SessionHonest", spec := "sessionHonest", inPlace := ["maps.clone"], unfollowed := true, recurses := true, plainKeys := false, apart := false, narrowed := true }
def SessionHonestUptoSaid : Prop := sessionHonestUptoRow.holds Tryz.pinned (OpenSpec.upto sessionHonestSpec)

/-- 'waveplatelaw07.SessionEqual', WHERE WHAT IT READS IS OF BULK AT MOST 1048576: true; the input reads as it did. -/
def sessionEqualUptoRow : OpenClaim := { program := "ytjpidgffdkjjeaagreat", sum := "7219dc3f99c8288602c0a7f4cb4fdf78fd598bda6d30a255a850f70507b1f5ce", func := "waveplate/waveplatelaw07.SessionEqual", spec := "sessionEqual", inPlace := ["maps.clone"], unfollowed := true, recurses := true, plainKeys := false, apart := false, narrowed := true }
def SessionEqualUptoSaid : Prop := sessionEqualUptoRow.holds Tryz.pinned (OpenSpec.upto sessionEqualSpec)

/-- 'waveplatelaw07.SessionCrashes', WHERE WHAT IT READS IS OF BULK AT MOST 1048576: true; the input reads as it did. -/
def sessionCrashesUptoRow : OpenClaim := { program := "ytjpidgffdkjjeaagreat", sum := "7219dc3f99c8288602c0a7f4cb4fdf78fd598bda6d30a255a850f70507b1f5ce", func := "waveplate/waveplatelaw07.SessionCrashes", spec := "sessionCrashes", inPlace := ["maps.clone"], unfollowed := true, recurses := true, plainKeys := false, apart := false, narrowed := true }
def SessionCrashesUptoSaid : Prop := sessionCrashesUptoRow.holds Tryz.pinned (OpenSpec.upto sessionCrashesSpec)

/-- 'waveplatelaw07.SessionNumbers', WHERE WHAT IT READS IS OF BULK AT MOST 1048576: true; the input reads as it did. -/
def sessionNumbersUptoRow : OpenClaim := { program := "ytjpidgffdkjjeaagreat", sum := "7219dc3f99c8288602c0a7f4cb4fdf78fd598bda6d30a255a850f70507b1f5ce", func := "waveplate/waveplatelaw07.SessionNumbers", spec := "sessionNumbers", inPlace := ["maps.clone"], unfollowed := true, recurses := true, plainKeys := false, apart := false, narrowed := true }
def SessionNumbersUptoSaid : Prop := sessionNumbersUptoRow.holds Tryz.pinned (OpenSpec.upto sessionNumbersSpec)

end Rows
end Go.Proofs.YtjpidgffdkjjeaaGreat
