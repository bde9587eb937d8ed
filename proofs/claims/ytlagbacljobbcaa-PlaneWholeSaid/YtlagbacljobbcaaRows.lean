/-
  No cell of these rows narrows 'for every input' (looked for: loops, veiled, ifaces, maps, wideKeys, modest, calm, conditions, laid).
  DERIVED. THE GIVEN ROWS OF THIS SEAT. 6 by the template 'for every input the law returns true; each argument reads behind the call as it read before'; 0 by the template 'total and deterministic' (their statements: YtlagbacljobbcaaTotals.lean).
  GIVEN WITH THE SEED: the statements are not yours to turn. If you find one false, say at which input.
  Laid BY PROGRAM, IN A SANDBOX (cutbox-rows.mjs): the forced cells as the released guide's own fill.sh prints them over the translation a93cb109eb571511… (all of the seat's roots in one cut). By AI agents, Wed Nov 11 2026. No macro, syntax, notation, axiom, sorry.
-/
import Derived.Test.YtlagbacljobbcaaChecked
import GoSem.Claim
import GoSem.ClaimJoined
import GoSem.ClaimMapViews
import Derived.JoinedTies
import Derived.KernelRfl
namespace Go.Proofs.Ytlagbacljobbcaa
/- THE CELL 'sum', in the pinned program and in every row, IS THE sha256 OF THE DUMP (.gsa) THAT YtlagbacljobbcaaProg.lean LOADS. Nothing in Lean hashes anything: it is a label: what it is worth is what the hold of that sum in a sandbox is worth. -/
noncomputable def Try.pinned : Pinned := { name := "ytlagbacljobbcaa", sum := "a93cb109eb571511e3de5ffe29e22f5d91626f257485a40671177601a96184be", checked := Try.checked }
namespace Rows
def none {H : Type} : Left H := { results := [], args := [] }

/-- 'clepsydralaw13.PlaneSums': WHATEVER THE INPUT: true; the input reads as it did. -/
def planeSumsSpec : ChangeSpec := { name := "planeSums", fn := fun _ => fun
  | [d1, d2] => { results := [.lit (.bool true)], args := [d1, d2] }
  | _ => none }
def planeSumsRow : OpenClaim := { program := "ytlagbacljobbcaa", sum := "a93cb109eb571511e3de5ffe29e22f5d91626f257485a40671177601a96184be", func := "clepsydra/clepsydralaw13.PlaneSums", spec := "planeSums", inPlace := ["math.Float64bits", "math.Float64frombits"], unfollowed := true, recurses := true, apart := false }
def PlaneSumsSaid : Prop := planeSumsRow.holds Try.pinned (OpenSpec.ofChange planeSumsSpec)

/-- ITS FALSE NEIGHBOUR: 'it returns false'. Refute it at one input. -/
def planeSumsWrong : ChangeSpec := { name := "planeSums", fn := fun _ => fun
  | [d1, d2] => { results := [.lit (.bool false)], args := [d1, d2] }
  | _ => none }
def PlaneSumsWrongFalsely : Prop := planeSumsRow.holds Try.pinned (OpenSpec.ofChange planeSumsWrong)

/-- 'clepsydralaw13.PlaneTurns': WHATEVER THE INPUT: true; the input reads as it did. -/
def planeTurnsSpec : ChangeSpec := { name := "planeTurns", fn := fun _ => fun
  | [d1, d2, d3, d4] => { results := [.lit (.bool true)], args := [d1, d2, d3, d4] }
  | _ => none }
def planeTurnsRow : OpenClaim := { program := "ytlagbacljobbcaa", sum := "a93cb109eb571511e3de5ffe29e22f5d91626f257485a40671177601a96184be", func := "clepsydra/clepsydralaw13.PlaneTurns", spec := "planeTurns", inPlace := ["math.Float64bits", "math.Float64frombits"], unfollowed := true, recurses := true, apart := false }
def PlaneTurnsSaid : Prop := planeTurnsRow.holds Try.pinned (OpenSpec.ofChange planeTurnsSpec)

/-- ITS FALSE NEIGHBOUR: 'it returns false'. Refute it at one input. -/
def planeTurnsWrong : ChangeSpec := { name := "planeTurns", fn := fun _ => fun
  | [d1, d2, d3, d4] => { results := [.lit (.bool false)], args := [d1, d2, d3, d4] }
  | _ => none }
def PlaneTurnsWrongFalsely : Prop := planeTurnsRow.holds Try.pinned (OpenSpec.ofChange planeTurnsWrong)

/-- 'clepsydralaw13.PlanePoints': WHATEVER THE INPUT: true; the input reads as it did. -/
def planePointsSpec : ChangeSpec := { name := "planePoints", fn := fun _ => fun
  | [d1, d2, d3, d4, d5, d6, d7] => { results := [.lit (.bool true)], args := [d1, d2, d3, d4, d5, d6, d7] }
  | _ => none }
def planePointsRow : OpenClaim := { program := "ytlagbacljobbcaa", sum := "a93cb109eb571511e3de5ffe29e22f5d91626f257485a40671177601a96184be", func := "clepsydra/clepsydralaw13.PlanePoints", spec := "planePoints", inPlace := ["math.Float64frombits", "math.Float64bits"], unfollowed := true, recurses := true, apart := false }
def PlanePointsSaid : Prop := planePointsRow.holds Try.pinned (OpenSpec.ofChange planePointsSpec)

/-- ITS FALSE NEIGHBOUR: 'it returns false'. Refute it at one input. -/
def planePointsWrong : ChangeSpec := { name := "planePoints", fn := fun _ => fun
  | [d1, d2, d3, d4, d5, d6, d7] => { results := [.lit (.bool false)], args := [d1, d2, d3, d4, d5, d6, d7] }
  | _ => none }
def PlanePointsWrongFalsely : Prop := planePointsRow.holds Try.pinned (OpenSpec.ofChange planePointsWrong)

/-- 'clepsydralaw13.PlaneWhole': WHATEVER THE INPUT: true; the input reads as it did. -/
def planeWholeSpec : ChangeSpec := { name := "planeWhole", fn := fun _ => fun
  | [d1, d2] => { results := [.lit (.bool true)], args := [d1, d2] }
  | _ => none }
def planeWholeRow : OpenClaim := { program := "ytlagbacljobbcaa", sum := "a93cb109eb571511e3de5ffe29e22f5d91626f257485a40671177601a96184be", func := "clepsydra/clepsydralaw13.PlaneWhole", spec := "planeWhole", inPlace := ["math.Float64bits", "math.Float64frombits"], unfollowed := true, recurses := true, apart := false }
def PlaneWholeSaid : Prop := planeWholeRow.holds Try.pinned (OpenSpec.ofChange planeWholeSpec)

/-- ITS FALSE NEIGHBOUR: 'it returns false'. Refute it at one input. -/
def planeWholeWrong : ChangeSpec := { name := "planeWhole", fn := fun _ => fun
  | [d1, d2] => { results := [.lit (.bool false)], args := [d1, d2] }
  | _ => none }
def PlaneWholeWrongFalsely : Prop := planeWholeRow.holds Try.pinned (OpenSpec.ofChange planeWholeWrong)

/-- 'clepsydralaw13.PlaneNear': WHATEVER THE INPUT: true; the input reads as it did. -/
def planeNearSpec : ChangeSpec := { name := "planeNear", fn := fun _ => fun
  | [d1, d2, d3, d4] => { results := [.lit (.bool true)], args := [d1, d2, d3, d4] }
  | _ => none }
def planeNearRow : OpenClaim := { program := "ytlagbacljobbcaa", sum := "a93cb109eb571511e3de5ffe29e22f5d91626f257485a40671177601a96184be", func := "clepsydra/clepsydralaw13.PlaneNear", spec := "planeNear", inPlace := ["math.Float64bits", "math.Float64frombits"], unfollowed := true, recurses := true, apart := false }
def PlaneNearSaid : Prop := planeNearRow.holds Try.pinned (OpenSpec.ofChange planeNearSpec)

/-- ITS FALSE NEIGHBOUR: 'it returns false'. Refute it at one input. -/
def planeNearWrong : ChangeSpec := { name := "planeNear", fn := fun _ => fun
  | [d1, d2, d3, d4] => { results := [.lit (.bool false)], args := [d1, d2, d3, d4] }
  | _ => none }
def PlaneNearWrongFalsely : Prop := planeNearRow.holds Try.pinned (OpenSpec.ofChange planeNearWrong)

/-- 'clepsydralaw13.PlaneSpreads': WHATEVER THE INPUT: true; the input reads as it did. -/
def planeSpreadsSpec : ChangeSpec := { name := "planeSpreads", fn := fun _ => fun
  | [d1, d2, d3, d4] => { results := [.lit (.bool true)], args := [d1, d2, d3, d4] }
  | _ => none }
def planeSpreadsRow : OpenClaim := { program := "ytlagbacljobbcaa", sum := "a93cb109eb571511e3de5ffe29e22f5d91626f257485a40671177601a96184be", func := "clepsydra/clepsydralaw13.PlaneSpreads", spec := "planeSpreads", inPlace := ["math.Float64bits", "math.Float64frombits"], unfollowed := true, recurses := true, apart := false }
def PlaneSpreadsSaid : Prop := planeSpreadsRow.holds Try.pinned (OpenSpec.ofChange planeSpreadsSpec)

/-- ITS FALSE NEIGHBOUR: 'it returns false'. Refute it at one input. -/
def planeSpreadsWrong : ChangeSpec := { name := "planeSpreads", fn := fun _ => fun
  | [d1, d2, d3, d4] => { results := [.lit (.bool false)], args := [d1, d2, d3, d4] }
  | _ => none }
def PlaneSpreadsWrongFalsely : Prop := planeSpreadsRow.holds Try.pinned (OpenSpec.ofChange planeSpreadsWrong)

/- THE SECOND FORM. 'bulk': how many values and letters a reading holds, each counted each time it is reached (what is shared counts as often as it is met; a slice's spare places count too). A statement '..UptoSaid' is the law's where the arguments, and the package variables that the reading takes, are together of bulk at most 1048576: NARROWER than '..Said'. Prove '..Said' where nothing that the law and all that it calls make is longer than what came in: it says more and counts as full. Else prove '..UptoSaid'. A law counts once. -/
mutual
def uptoBulk {H : Type} : DataW H → Nat
  | .lit (.string bytes) => bytes.length + 1
  | .lit _ => 1
  | .nil => 1
  | .ptr d => uptoBulk d + 1
  | .slice elems spare => uptoBulkAll elems + uptoBulkAll spare + 1
  | .agg parts => uptoBulkAll parts + 1
  | .iface _ d => uptoBulk d + 1
  | .map entries => uptoBulkEntries entries + 1
  | .held _ => 1
def uptoBulkAll {H : Type} : List (DataW H) → Nat
  | [] => 0
  | d :: r => uptoBulk d + uptoBulkAll r
def uptoBulkEntries {H : Type} : List (Lit × DataW H) → Nat
  | [] => 0
  | x :: r => uptoBulkEntry x + uptoBulkEntries r
def uptoBulkEntry {H : Type} : Lit × DataW H → Nat
  | (.string bytes, d) => bytes.length + uptoBulk d + 1
  | (_, d) => uptoBulk d + 1
 end
def uptoSmall : (H : Type) → List (DataW H) → Bool := fun _ ds => decide (uptoBulkAll ds ≤ 1048576)
def OpenSpec.upto (s : _root_.Go.ChangeSpec) : _root_.Go.OpenSpec := { _root_.Go.OpenSpec.ofChange s with cond := some uptoSmall }

/-- 'clepsydralaw13.PlaneSums', WHERE WHAT IT READS IS OF BULK AT MOST 1048576: true; the input reads as it did. -/
def planeSumsUptoRow : OpenClaim := { program := "ytlagbacljobbcaa", sum := "a93cb109eb571511e3de5ffe29e22f5d91626f257485a40671177601a96184be", func := "clepsydra/clepsydralaw13.PlaneSums", spec := "planeSums", inPlace := ["math.Float64bits", "math.Float64frombits"], unfollowed := true, recurses := true, apart := false, narrowed := true }
def PlaneSumsUptoSaid : Prop := planeSumsUptoRow.holds Try.pinned (OpenSpec.upto planeSumsSpec)

/-- 'clepsydralaw13.PlaneTurns', WHERE WHAT IT READS IS OF BULK AT MOST 1048576: true; the input reads as it did. -/
def planeTurnsUptoRow : OpenClaim := { program := "ytlagbacljobbcaa", sum := "a93cb109eb571511e3de5ffe29e22f5d91626f257485a40671177601a96184be", func := "clepsydra/clepsydralaw13.PlaneTurns", spec := "planeTurns", inPlace := ["math.Float64bits", "math.Float64frombits"], unfollowed := true, recurses := true, apart := false, narrowed := true }
def PlaneTurnsUptoSaid : Prop := planeTurnsUptoRow.holds Try.pinned (OpenSpec.upto planeTurnsSpec)

/-- 'clepsydralaw13.PlanePoints', WHERE WHAT IT READS IS OF BULK AT MOST 1048576: true; the input reads as it did. -/
def planePointsUptoRow : OpenClaim := { program := "ytlagbacljobbcaa", sum := "a93cb109eb571511e3de5ffe29e22f5d91626f257485a40671177601a96184be", func := "clepsydra/clepsydralaw13.PlanePoints", spec := "planePoints", inPlace := ["math.Float64frombits", "math.Float64bits"], unfollowed := true, recurses := true, apart := false, narrowed := true }
def PlanePointsUptoSaid : Prop := planePointsUptoRow.holds Try.pinned (OpenSpec.upto planePointsSpec)

/-- 'clepsydralaw13.PlaneWhole', WHERE WHAT IT READS IS OF BULK AT MOST 1048576: true; the input reads as it did. -/
def planeWholeUptoRow : OpenClaim := { program := "ytlagbacljobbcaa", sum := "a93cb109eb571511e3de5ffe29e22f5d91626f257485a40671177601a96184be", func := "clepsydra/clepsydralaw13.PlaneWhole", spec := "planeWhole", inPlace := ["math.Float64bits", "math.Float64frombits"], unfollowed := true, recurses := true, apart := false, narrowed := true }
def PlaneWholeUptoSaid : Prop := planeWholeUptoRow.holds Try.pinned (OpenSpec.upto planeWholeSpec)

/-- 'clepsydralaw13.PlaneNear', WHERE WHAT IT READS IS OF BULK AT MOST 1048576: true; the input reads as it did. -/
def planeNearUptoRow : OpenClaim := { program := "ytlagbacljobbcaa", sum := "a93cb109eb571511e3de5ffe29e22f5d91626f257485a40671177601a96184be", func := "clepsydra/clepsydralaw13.PlaneNear", spec := "planeNear", inPlace := ["math.Float64bits", "math.Float64frombits"], unfollowed := true, recurses := true, apart := false, narrowed := true }
def PlaneNearUptoSaid : Prop := planeNearUptoRow.holds Try.pinned (OpenSpec.upto planeNearSpec)

/-- 'clepsydralaw13.PlaneSpreads', WHERE WHAT IT READS IS OF BULK AT MOST 1048576: true; the input reads as it did. -/
def planeSpreadsUptoRow : OpenClaim := { program := "ytlagbacljobbcaa", sum := "a93cb109eb571511e3de5ffe29e22f5d91626f257485a40671177601a96184be", func := "clepsydra/clepsydralaw13.PlaneSpreads", spec := "planeSpreads", inPlace := ["math.Float64bits", "math.Float64frombits"], unfollowed := true, recurses := true, apart := false, narrowed := true }
def PlaneSpreadsUptoSaid : Prop := planeSpreadsUptoRow.holds Try.pinned (OpenSpec.upto planeSpreadsSpec)

end Rows
end Go.Proofs.Ytlagbacljobbcaa
