/-
  No cell of these rows narrows 'for every input' (looked for: loops, veiled, ifaces, maps, wideKeys, modest, calm, conditions, laid).
  DERIVED. THE GIVEN ROWS OF THIS SEAT. 7 by the template 'for every input the law returns true; each argument reads behind the call as it read before'; 0 by the template 'total and deterministic' (their statements: YtgnhlaonckognaaTotals.lean).
  GIVEN WITH THE SEED: the statements are not yours to turn. If you find one false, say at which input.
  Laid BY PROGRAM, IN A SANDBOX (cutbox-rows.mjs): the forced cells as the released guide's own fill.sh prints them over the translation 945a16d2242aafcd… (all of the seat's roots in one cut). By AI agents, Wed Nov 11 2026. No macro, syntax, notation, axiom, sorry.
-/
import Derived.Test.YtgnhlaonckognaaChecked
import GoSem.Claim
import GoSem.ClaimJoined
import GoSem.ClaimMapViews
import Derived.JoinedTies
import Derived.KernelRfl
namespace Go.Proofs.Ytgnhlaonckognaa
/- THE CELL 'sum', in the pinned program and in every row, IS THE sha256 OF THE DUMP (.gsa) THAT YtgnhlaonckognaaProg.lean LOADS. Nothing in Lean hashes anything: it is a label: what it is worth is what the hold of that sum in a sandbox is worth. -/
noncomputable def Try.pinned : Pinned := { name := "ytgnhlaonckognaa", sum := "945a16d2242aafcd746520bac054250c8815a942cbdcf45ec9457856a3fd3031", checked := Try.checked }
namespace Rows
def none {H : Type} : Left H := { results := [], args := [] }

/-- 'standstilllaw11.BackLevels': WHATEVER THE INPUT: true; the input reads as it did. -/
def backLevelsSpec : ChangeSpec := { name := "backLevels", fn := fun _ => fun
  | [d1, d2] => { results := [.lit (.bool true)], args := [d1, d2] }
  | _ => none }
def backLevelsRow : OpenClaim := { program := "ytgnhlaonckognaa", sum := "945a16d2242aafcd746520bac054250c8815a942cbdcf45ec9457856a3fd3031", func := "standstill/standstilllaw11.BackLevels", spec := "backLevels", inPlace := ["slices.overlaps[int]"], unfollowed := true, recurses := true, plainKeys := false, apart := false }
def BackLevelsSaid : Prop := backLevelsRow.holds Try.pinned (OpenSpec.ofChange backLevelsSpec)

/-- ITS FALSE NEIGHBOUR: 'it returns false'. Refute it at one input. -/
def backLevelsWrong : ChangeSpec := { name := "backLevels", fn := fun _ => fun
  | [d1, d2] => { results := [.lit (.bool false)], args := [d1, d2] }
  | _ => none }
def BackLevelsWrongFalsely : Prop := backLevelsRow.holds Try.pinned (OpenSpec.ofChange backLevelsWrong)

/-- 'standstilllaw11.BackEver': WHATEVER THE INPUT: true; the input reads as it did. -/
def backEverSpec : ChangeSpec := { name := "backEver", fn := fun _ => fun
  | [d1, d2, d3] => { results := [.lit (.bool true)], args := [d1, d2, d3] }
  | _ => none }
def backEverRow : OpenClaim := { program := "ytgnhlaonckognaa", sum := "945a16d2242aafcd746520bac054250c8815a942cbdcf45ec9457856a3fd3031", func := "standstill/standstilllaw11.BackEver", spec := "backEver", inPlace := ["slices.overlaps[int]"], unfollowed := true, recurses := true, plainKeys := false, apart := false }
def BackEverSaid : Prop := backEverRow.holds Try.pinned (OpenSpec.ofChange backEverSpec)

/-- ITS FALSE NEIGHBOUR: 'it returns false'. Refute it at one input. -/
def backEverWrong : ChangeSpec := { name := "backEver", fn := fun _ => fun
  | [d1, d2, d3] => { results := [.lit (.bool false)], args := [d1, d2, d3] }
  | _ => none }
def BackEverWrongFalsely : Prop := backEverRow.holds Try.pinned (OpenSpec.ofChange backEverWrong)

/-- 'standstilllaw11.BackMatches': WHATEVER THE INPUT: true; the input reads as it did. -/
def backMatchesSpec : ChangeSpec := { name := "backMatches", fn := fun _ => fun
  | [d1, d2] => { results := [.lit (.bool true)], args := [d1, d2] }
  | _ => none }
def backMatchesRow : OpenClaim := { program := "ytgnhlaonckognaa", sum := "945a16d2242aafcd746520bac054250c8815a942cbdcf45ec9457856a3fd3031", func := "standstill/standstilllaw11.BackMatches", spec := "backMatches", inPlace := ["slices.overlaps[int]"], unfollowed := true, recurses := true, plainKeys := false, apart := false }
def BackMatchesSaid : Prop := backMatchesRow.holds Try.pinned (OpenSpec.ofChange backMatchesSpec)

/-- ITS FALSE NEIGHBOUR: 'it returns false'. Refute it at one input. -/
def backMatchesWrong : ChangeSpec := { name := "backMatches", fn := fun _ => fun
  | [d1, d2] => { results := [.lit (.bool false)], args := [d1, d2] }
  | _ => none }
def BackMatchesWrongFalsely : Prop := backMatchesRow.holds Try.pinned (OpenSpec.ofChange backMatchesWrong)

/-- 'standstilllaw11.BackChecks': WHATEVER THE INPUT: true; the input reads as it did. -/
def backChecksSpec : ChangeSpec := { name := "backChecks", fn := fun _ => fun
  | [d1, d2] => { results := [.lit (.bool true)], args := [d1, d2] }
  | _ => none }
def backChecksRow : OpenClaim := { program := "ytgnhlaonckognaa", sum := "945a16d2242aafcd746520bac054250c8815a942cbdcf45ec9457856a3fd3031", func := "standstill/standstilllaw11.BackChecks", spec := "backChecks", inPlace := ["slices.overlaps[int]"], unfollowed := true, recurses := true, plainKeys := false, apart := false }
def BackChecksSaid : Prop := backChecksRow.holds Try.pinned (OpenSpec.ofChange backChecksSpec)

/-- ITS FALSE NEIGHBOUR: 'it returns false'. Refute it at one input. -/
def backChecksWrong : ChangeSpec := { name := "backChecks", fn := fun _ => fun
  | [d1, d2] => { results := [.lit (.bool false)], args := [d1, d2] }
  | _ => none }
def BackChecksWrongFalsely : Prop := backChecksRow.holds Try.pinned (OpenSpec.ofChange backChecksWrong)

/-- 'standstilllaw11.BackMirror': WHATEVER THE INPUT: true; the input reads as it did. -/
def backMirrorSpec : ChangeSpec := { name := "backMirror", fn := fun _ => fun
  | [d1, d2] => { results := [.lit (.bool true)], args := [d1, d2] }
  | _ => none }
def backMirrorRow : OpenClaim := { program := "ytgnhlaonckognaa", sum := "945a16d2242aafcd746520bac054250c8815a942cbdcf45ec9457856a3fd3031", func := "standstill/standstilllaw11.BackMirror", spec := "backMirror", inPlace := ["slices.overlaps[int]"], unfollowed := true, recurses := true, plainKeys := false, apart := false }
def BackMirrorSaid : Prop := backMirrorRow.holds Try.pinned (OpenSpec.ofChange backMirrorSpec)

/-- ITS FALSE NEIGHBOUR: 'it returns false'. Refute it at one input. -/
def backMirrorWrong : ChangeSpec := { name := "backMirror", fn := fun _ => fun
  | [d1, d2] => { results := [.lit (.bool false)], args := [d1, d2] }
  | _ => none }
def BackMirrorWrongFalsely : Prop := backMirrorRow.holds Try.pinned (OpenSpec.ofChange backMirrorWrong)

/-- 'standstilllaw12.ClosedEver': WHATEVER THE INPUT: true; the input reads as it did. -/
def closedEverSpec : ChangeSpec := { name := "closedEver", fn := fun _ => fun
  | [d1, d2, d3] => { results := [.lit (.bool true)], args := [d1, d2, d3] }
  | _ => none }
def closedEverRow : OpenClaim := { program := "ytgnhlaonckognaa", sum := "945a16d2242aafcd746520bac054250c8815a942cbdcf45ec9457856a3fd3031", func := "standstill/standstilllaw12.ClosedEver", spec := "closedEver", unfollowed := true, recurses := true, plainKeys := false, apart := false }
def ClosedEverSaid : Prop := closedEverRow.holds Try.pinned (OpenSpec.ofChange closedEverSpec)

/-- ITS FALSE NEIGHBOUR: 'it returns false'. Refute it at one input. -/
def closedEverWrong : ChangeSpec := { name := "closedEver", fn := fun _ => fun
  | [d1, d2, d3] => { results := [.lit (.bool false)], args := [d1, d2, d3] }
  | _ => none }
def ClosedEverWrongFalsely : Prop := closedEverRow.holds Try.pinned (OpenSpec.ofChange closedEverWrong)

/-- 'standstilllaw12.ClosedSteps': WHATEVER THE INPUT: true; the input reads as it did. -/
def closedStepsSpec : ChangeSpec := { name := "closedSteps", fn := fun _ => fun
  | [d1, d2, d3] => { results := [.lit (.bool true)], args := [d1, d2, d3] }
  | _ => none }
def closedStepsRow : OpenClaim := { program := "ytgnhlaonckognaa", sum := "945a16d2242aafcd746520bac054250c8815a942cbdcf45ec9457856a3fd3031", func := "standstill/standstilllaw12.ClosedSteps", spec := "closedSteps", unfollowed := true, recurses := true, plainKeys := false, apart := false }
def ClosedStepsSaid : Prop := closedStepsRow.holds Try.pinned (OpenSpec.ofChange closedStepsSpec)

/-- ITS FALSE NEIGHBOUR: 'it returns false'. Refute it at one input. -/
def closedStepsWrong : ChangeSpec := { name := "closedSteps", fn := fun _ => fun
  | [d1, d2, d3] => { results := [.lit (.bool false)], args := [d1, d2, d3] }
  | _ => none }
def ClosedStepsWrongFalsely : Prop := closedStepsRow.holds Try.pinned (OpenSpec.ofChange closedStepsWrong)

/- THE SECOND FORM. 'bulk': how many values and letters a reading holds, each counted each time it is reached (what is shared counts as often as it is met; a slice's spare places count too). A statement '..UptoSaid' is the law's where the arguments, and the package variables that the reading takes, are together of bulk at most 1048576: NARROWER than '..Said'. Prove '..Said' where nothing that the law and all that it calls make is longer than what came in: it says more and counts as full. Else prove '..UptoSaid'. A law counts once. -/
mutual
def uptoBulk {H : Type} : DataW H → Nat
  | .lit (.string bytes) => bytes.length + 1
  | .lit _ => 1
  | .nil => 1
  | .ptr d => uptoBulk d + 1
  | .slice elems spare => uptoBulkAll elems + uptoBulkAll spare + 1
  | .agg parts => uptoBulkAll parts + 1
  | .iface _ d => uptoBulk d + 1
  | .map entries => uptoBulkEntries entries + 1
  | .held _ => 1
def uptoBulkAll {H : Type} : List (DataW H) → Nat
  | [] => 0
  | d :: r => uptoBulk d + uptoBulkAll r
def uptoBulkEntries {H : Type} : List (Lit × DataW H) → Nat
  | [] => 0
  | x :: r => uptoBulkEntry x + uptoBulkEntries r
def uptoBulkEntry {H : Type} : Lit × DataW H → Nat
  | (.string bytes, d) => bytes.length + uptoBulk d + 1
  | (_, d) => uptoBulk d + 1
 end
def uptoSmall : (H : Type) → List (DataW H) → Bool := fun _ ds => decide (uptoBulkAll ds ≤ 1048576)
def OpenSpec.upto (s : _root_.Go.ChangeSpec) : _root_.Go.OpenSpec := { _root_.Go.OpenSpec.ofChange s with cond := some uptoSmall }

/-- 'standstilllaw11.BackLevels', WHERE WHAT IT READS IS OF BULK AT MOST 1048576: true; the input reads as it did. -/
def backLevelsUptoRow : OpenClaim := { program := "ytgnhlaonckognaa", sum := "945a16d2242aafcd746520bac054250c8815a942cbdcf45ec9457856a3fd3031", func := "standstill/standstilllaw11.BackLevels", spec := "backLevels", inPlace := ["slices.overlaps[int]"], unfollowed := true, recurses := true, plainKeys := false, apart := false, narrowed := true }
def BackLevelsUptoSaid : Prop := backLevelsUptoRow.holds Try.pinned (OpenSpec.upto backLevelsSpec)

/-- 'standstilllaw11.BackEver', WHERE WHAT IT READS IS OF BULK AT MOST 1048576: true; the input reads as it did. -/
def backEverUptoRow : OpenClaim := { program := "ytgnhlaonckognaa", sum := "945a16d2242aafcd746520bac054250c8815a942cbdcf45ec9457856a3fd3031", func := "standstill/standstilllaw11.BackEver", spec := "backEver", inPlace := ["slices.overlaps[int]"], unfollowed := true, recurses := true, plainKeys := false, apart := false, narrowed := true }
def BackEverUptoSaid : Prop := backEverUptoRow.holds Try.pinned (OpenSpec.upto backEverSpec)

/-- 'standstilllaw11.BackMatches', WHERE WHAT IT READS IS OF BULK AT MOST 1048576: true; the input reads as it did. -/
def backMatchesUptoRow : OpenClaim := { program := "ytgnhlaonckognaa", sum := "945a16d2242aafcd746520bac054250c8815a942cbdcf45ec9457856a3fd3031", func := "standstill/standstilllaw11.BackMatches", spec := "backMatches", inPlace := ["slices.overlaps[int]"], unfollowed := true, recurses := true, plainKeys := false, apart := false, narrowed := true }
def BackMatchesUptoSaid : Prop := backMatchesUptoRow.holds Try.pinned (OpenSpec.upto backMatchesSpec)

/-- 'standstilllaw11.BackChecks', WHERE WHAT IT READS IS OF BULK AT MOST 1048576: true; the input reads as it did. -/
def backChecksUptoRow : OpenClaim := { program := "ytgnhlaonckognaa", sum := "945a16d2242aafcd746520bac054250c8815a942cbdcf45ec9457856a3fd3031", func := "standstill/standstilllaw11.BackChecks", spec := "backChecks", inPlace := ["slices.overlaps[int]"], unfollowed := true, recurses := true, plainKeys := false, apart := false, narrowed := true }
def BackChecksUptoSaid : Prop := backChecksUptoRow.holds Try.pinned (OpenSpec.upto backChecksSpec)

/-- 'standstilllaw11.BackMirror', WHERE WHAT IT READS IS OF BULK AT MOST 1048576: true; the input reads as it did. -/
def backMirrorUptoRow : OpenClaim := { program := "ytgnhlaonckognaa", sum := "945a16d2242aafcd746520bac054250c8815a942cbdcf45ec9457856a3fd3031", func := "standstill/standstilllaw11.BackMirror", spec := "backMirror", inPlace := ["slices.overlaps[int]"], unfollowed := true, recurses := true, plainKeys := false, apart := false, narrowed := true }
def BackMirrorUptoSaid : Prop := backMirrorUptoRow.holds Try.pinned (OpenSpec.upto backMirrorSpec)

/-- 'standstilllaw12.ClosedEver', WHERE WHAT IT READS IS OF BULK AT MOST 1048576: true; the input reads as it did. -/
def closedEverUptoRow : OpenClaim := { program := "ytgnhlaonckognaa", sum := "945a16d2242aafcd746520bac054250c8815a942cbdcf45ec9457856a3fd3031", func := "standstill/standstilllaw12.ClosedEver", spec := "closedEver", unfollowed := true, recurses := true, plainKeys := false, apart := false, narrowed := true }
def ClosedEverUptoSaid : Prop := closedEverUptoRow.holds Try.pinned (OpenSpec.upto closedEverSpec)

/-- 'standstilllaw12.ClosedSteps', WHERE WHAT IT READS IS OF BULK AT MOST 1048576: true; the input reads as it did. -/
def closedStepsUptoRow : OpenClaim := { program := "ytgnhlaonckognaa", sum := "945a16d2242aafcd746520bac054250c8815a942cbdcf45ec9457856a3fd3031", func := "standstill/standstilllaw12.ClosedSteps", spec := "closedSteps", unfollowed := true, recurses := true, plainKeys := false, apart := false, narrowed := true }
def ClosedStepsUptoSaid : Prop := closedStepsUptoRow.holds Try.pinned (OpenSpec.upto closedStepsSpec)

end Rows
end Go.Proofs.Ytgnhlaonckognaa
