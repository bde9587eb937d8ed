/-
  No cell of these rows narrows 'for every input' (looked for: loops, veiled, ifaces, maps, wideKeys, modest, calm, conditions, laid).
  DERIVED. THE GIVEN ROWS OF THIS SEAT. 4 by the template 'for every input the law returns true; each argument reads behind the call as it read before'; 0 by the template 'total and deterministic' (their statements: YteemglgbhdpodaaTotals.lean).
  GIVEN WITH THE SEED: the statements are not yours to turn. If you find one false, say at which input.
  Laid BY PROGRAM, IN A SANDBOX (cutbox-rows.mjs): the forced cells as the released guide's own fill.sh prints them over the translation f889aff0db148483… (all of the seat's roots in one cut). By AI agents, Wed Nov 11 2026. No macro, syntax, notation, axiom, sorry.
-/
import Derived.Test.YteemglgbhdpodaaChecked
import GoSem.Claim
import GoSem.ClaimJoined
import GoSem.ClaimMapViews
import Derived.JoinedTies
import Derived.KernelRfl
namespace Go.Proofs.Yteemglgbhdpodaa
/- THE CELL 'sum', in the pinned program and in every row, IS THE sha256 OF THE DUMP (.gsa) THAT YteemglgbhdpodaaProg.lean LOADS. Nothing in Lean hashes anything: it is a label: what it is worth is what the hold of that sum in a sandbox is worth. -/
noncomputable def Try.pinned : Pinned := { name := "yteemglgbhdpodaa", sum := "f889aff0db1484831372b772a7e327542a758e22558d1c8e7fb26c71f232fe30", checked := Try.checked }
namespace Rows
def none {H : Type} : Left H := { results := [], args := [] }

/-- 'clepsydratop.TopSealed': WHATEVER THE INPUT: true; the input reads as it did. -/
def topSealedSpec : ChangeSpec := { name := "topSealed", fn := fun _ => fun
  | [d1, d2, d3, d4, d5, d6] => { results := [.lit (.bool true)], args := [d1, d2, d3, d4, d5, d6] }
  | _ => none }
def topSealedRow : OpenClaim := { program := "yteemglgbhdpodaa", sum := "f889aff0db1484831372b772a7e327542a758e22558d1c8e7fb26c71f232fe30", func := "clepsydra/clepsydratop.TopSealed", spec := "topSealed", unfollowed := true, recurses := true, apart := false }
def TopSealedSaid : Prop := topSealedRow.holds Try.pinned (OpenSpec.ofChange topSealedSpec)

/-- ITS FALSE NEIGHBOUR: 'it returns false'. Refute it at one input. -/
def topSealedWrong : ChangeSpec := { name := "topSealed", fn := fun _ => fun
  | [d1, d2, d3, d4, d5, d6] => { results := [.lit (.bool false)], args := [d1, d2, d3, d4, d5, d6] }
  | _ => none }
def TopSealedWrongFalsely : Prop := topSealedRow.holds Try.pinned (OpenSpec.ofChange topSealedWrong)

/-- 'clepsydratop.TopMean': WHATEVER THE INPUT: true; the input reads as it did. -/
def topMeanSpec : ChangeSpec := { name := "topMean", fn := fun _ => fun
  | [d1, d2] => { results := [.lit (.bool true)], args := [d1, d2] }
  | _ => none }
def topMeanRow : OpenClaim := { program := "yteemglgbhdpodaa", sum := "f889aff0db1484831372b772a7e327542a758e22558d1c8e7fb26c71f232fe30", func := "clepsydra/clepsydratop.TopMean", spec := "topMean", inPlace := ["math.Float64bits", "math.Float64frombits"], unfollowed := true, recurses := true, apart := false }
def TopMeanSaid : Prop := topMeanRow.holds Try.pinned (OpenSpec.ofChange topMeanSpec)

/-- ITS FALSE NEIGHBOUR: 'it returns false'. Refute it at one input. -/
def topMeanWrong : ChangeSpec := { name := "topMean", fn := fun _ => fun
  | [d1, d2] => { results := [.lit (.bool false)], args := [d1, d2] }
  | _ => none }
def TopMeanWrongFalsely : Prop := topMeanRow.holds Try.pinned (OpenSpec.ofChange topMeanWrong)

/-- 'clepsydratop.TopSets': WHATEVER THE INPUT: true; the input reads as it did. -/
def topSetsSpec : ChangeSpec := { name := "topSets", fn := fun _ => fun
  | [d1, d2, d3, d4, d5] => { results := [.lit (.bool true)], args := [d1, d2, d3, d4, d5] }
  | _ => none }
def topSetsRow : OpenClaim := { program := "yteemglgbhdpodaa", sum := "f889aff0db1484831372b772a7e327542a758e22558d1c8e7fb26c71f232fe30", func := "clepsydra/clepsydratop.TopSets", spec := "topSets", inPlace := ["math.Float64bits", "math.Float64frombits"], unfollowed := true, recurses := true, apart := false }
def TopSetsSaid : Prop := topSetsRow.holds Try.pinned (OpenSpec.ofChange topSetsSpec)

/-- ITS FALSE NEIGHBOUR: 'it returns false'. Refute it at one input. -/
def topSetsWrong : ChangeSpec := { name := "topSets", fn := fun _ => fun
  | [d1, d2, d3, d4, d5] => { results := [.lit (.bool false)], args := [d1, d2, d3, d4, d5] }
  | _ => none }
def TopSetsWrongFalsely : Prop := topSetsRow.holds Try.pinned (OpenSpec.ofChange topSetsWrong)

/-- 'clepsydratop.TopMajority': WHATEVER THE INPUT: true; the input reads as it did. -/
def topMajoritySpec : ChangeSpec := { name := "topMajority", fn := fun _ => fun
  | [d1, d2, d3, d4] => { results := [.lit (.bool true)], args := [d1, d2, d3, d4] }
  | _ => none }
def topMajorityRow : OpenClaim := { program := "yteemglgbhdpodaa", sum := "f889aff0db1484831372b772a7e327542a758e22558d1c8e7fb26c71f232fe30", func := "clepsydra/clepsydratop.TopMajority", spec := "topMajority", inPlace := ["math.Float64bits", "math.Float64frombits"], unfollowed := true, recurses := true, apart := false }
def TopMajoritySaid : Prop := topMajorityRow.holds Try.pinned (OpenSpec.ofChange topMajoritySpec)

/-- ITS FALSE NEIGHBOUR: 'it returns false'. Refute it at one input. -/
def topMajorityWrong : ChangeSpec := { name := "topMajority", fn := fun _ => fun
  | [d1, d2, d3, d4] => { results := [.lit (.bool false)], args := [d1, d2, d3, d4] }
  | _ => none }
def TopMajorityWrongFalsely : Prop := topMajorityRow.holds Try.pinned (OpenSpec.ofChange topMajorityWrong)

/- THE SECOND FORM. 'bulk': how many values and letters a reading holds, each counted each time it is reached (what is shared counts as often as it is met; a slice's spare places count too). A statement '..UptoSaid' is the law's where the arguments, and the package variables that the reading takes, are together of bulk at most 1048576: NARROWER than '..Said'. Prove '..Said' where nothing that the law and all that it calls make is longer than what came in: it says more and counts as full. Else prove '..UptoSaid'. A law counts once. -/
mutual
def uptoBulk {H : Type} : DataW H → Nat
  | .lit (.string bytes) => bytes.length + 1
  | .lit _ => 1
  | .nil => 1
  | .ptr d => uptoBulk d + 1
  | .slice elems spare => uptoBulkAll elems + uptoBulkAll spare + 1
  | .agg parts => uptoBulkAll parts + 1
  | .iface _ d => uptoBulk d + 1
  | .map entries => uptoBulkEntries entries + 1
  | .held _ => 1
def uptoBulkAll {H : Type} : List (DataW H) → Nat
  | [] => 0
  | d :: r => uptoBulk d + uptoBulkAll r
def uptoBulkEntries {H : Type} : List (Lit × DataW H) → Nat
  | [] => 0
  | x :: r => uptoBulkEntry x + uptoBulkEntries r
def uptoBulkEntry {H : Type} : Lit × DataW H → Nat
  | (.string bytes, d) => bytes.length + uptoBulk d + 1
  | (_, d) => uptoBulk d + 1
 end
def uptoSmall : (H : Type) → List (DataW H) → Bool := fun _ ds => decide (uptoBulkAll ds ≤ 1048576)
def OpenSpec.upto (s : _root_.Go.ChangeSpec) : _root_.Go.OpenSpec := { _root_.Go.OpenSpec.ofChange s with cond := some uptoSmall }

/-- 'clepsydratop.TopSealed', WHERE WHAT IT READS IS OF BULK AT MOST 1048576: true; the input reads as it did. -/
def topSealedUptoRow : OpenClaim := { program := "yteemglgbhdpodaa", sum := "f889aff0db1484831372b772a7e327542a758e22558d1c8e7fb26c71f232fe30", func := "clepsydra/clepsydratop.TopSealed", spec := "topSealed", unfollowed := true, recurses := true, apart := false, narrowed := true }
def TopSealedUptoSaid : Prop := topSealedUptoRow.holds Try.pinned (OpenSpec.upto topSealedSpec)

/-- 'clepsydratop.TopMean', WHERE WHAT IT READS IS OF BULK AT MOST 1048576: true; the input reads as it did. -/
def topMeanUptoRow : OpenClaim := { program := "yteemglgbhdpodaa", sum := "f889aff0db1484831372b772a7e327542a758e22558d1c8e7fb26c71f232fe30", func := "clepsydra/clepsydratop.TopMean", spec := "topMean", inPlace := ["math.Float64bits", "math.Float64frombits"], unfollowed := true, recurses := true, apart := false, narrowed := true }
def TopMeanUptoSaid : Prop := topMeanUptoRow.holds Try.pinned (OpenSpec.upto topMeanSpec)

/-- 'clepsydratop.TopSets', WHERE WHAT IT READS IS OF BULK AT MOST 1048576: true; the input reads as it did. -/
def topSetsUptoRow : OpenClaim := { program := "yteemglgbhdpodaa", sum := "f889aff0db1484831372b772a7e327542a758e22558d1c8e7fb26c71f232fe30", func := "clepsydra/clepsydratop.TopSets", spec := "topSets", inPlace := ["math.Float64bits", "math.Float64frombits"], unfollowed := true, recurses := true, apart := false, narrowed := true }
def TopSetsUptoSaid : Prop := topSetsUptoRow.holds Try.pinned (OpenSpec.upto topSetsSpec)

/-- 'clepsydratop.TopMajority', WHERE WHAT IT READS IS OF BULK AT MOST 1048576: true; the input reads as it did. -/
def topMajorityUptoRow : OpenClaim := { program := "yteemglgbhdpodaa", sum := "f889aff0db1484831372b772a7e327542a758e22558d1c8e7fb26c71f232fe30", func := "clepsydra/clepsydratop.TopMajority", spec := "topMajority", inPlace := ["math.Float64bits", "math.Float64frombits"], unfollowed := true, recurses := true, apart := false, narrowed := true }
def TopMajorityUptoSaid : Prop := topMajorityUptoRow.holds Try.pinned (OpenSpec.upto topMajoritySpec)

end Rows
end Go.Proofs.Yteemglgbhdpodaa
