/-
  No cell of these rows narrows 'for every input' (looked for: loops, veiled, ifaces, maps, wideKeys, modest, calm, conditions, laid).
  DERIVED. THE GIVEN ROWS OF THIS SEAT. 8 by the template 'for every input the law returns true; each argument reads behind the call as it read before'; 0 by the template 'total and deterministic' (their statements: YtdmglajfmfjmlaaTotals.lean).
  GIVEN WITH THE SEED: the statements are not yours to turn. If you find one false, say at which input.
  Laid BY PROGRAM, IN A SANDBOX (cutbox-rows.mjs): the forced cells as the released guide's own fill.sh prints them over the translation db0a56bd5c549cff… (all of the seat's roots in one cut). By AI agents, Wed Nov 11 2026. No macro, syntax, notation, axiom, sorry.
-/
import Derived.Test.YtdmglajfmfjmlaaChecked
import GoSem.Claim
import GoSem.ClaimJoined
import GoSem.ClaimMapViews
import Derived.JoinedTies
import Derived.KernelRfl
namespace Go.Proofs.Ytdmglajfmfjmlaa
/- THE CELL 'sum', in the pinned program and in every row, IS THE sha256 OF THE DUMP (.gsa) THAT YtdmglajfmfjmlaaProg.lean LOADS. Nothing in Lean hashes anything: it is a label: what it is worth is what the hold of that sum in a sandbox is worth. -/
noncomputable def Try.pinned : Pinned := { name := "ytdmglajfmfjmlaa", sum := "db0a56bd5c549cff114fb8d9515a6fbeaec9b72ac26aef5d34434d4891194ff9", checked := Try.checked }
namespace Rows
def none {H : Type} : Left H := { results := [], args := [] }

/-- 'clepsydralaw05.PkeyHolds': WHATEVER THE INPUT: true; the input reads as it did. -/
def pkeyHoldsSpec : ChangeSpec := { name := "pkeyHolds", fn := fun _ => fun
  | [d1, d2, d3, d4] => { results := [.lit (.bool true)], args := [d1, d2, d3, d4] }
  | _ => none }
def pkeyHoldsRow : OpenClaim := { program := "ytdmglajfmfjmlaa", sum := "db0a56bd5c549cff114fb8d9515a6fbeaec9b72ac26aef5d34434d4891194ff9", func := "clepsydra/clepsydralaw05.PkeyHolds", spec := "pkeyHolds", inPlace := ["math/bits.Sub64", "math/bits.Add64"], unfollowed := true, recurses := true, named := ["math/bits.divideError", "math/bits.overflowError"], apart := false }
def PkeyHoldsSaid : Prop := pkeyHoldsRow.holds Try.pinned (OpenSpec.ofChange pkeyHoldsSpec)

/-- ITS FALSE NEIGHBOUR: 'it returns false'. Refute it at one input. -/
def pkeyHoldsWrong : ChangeSpec := { name := "pkeyHolds", fn := fun _ => fun
  | [d1, d2, d3, d4] => { results := [.lit (.bool false)], args := [d1, d2, d3, d4] }
  | _ => none }
def PkeyHoldsWrongFalsely : Prop := pkeyHoldsRow.holds Try.pinned (OpenSpec.ofChange pkeyHoldsWrong)

/-- 'clepsydralaw05.PkeyDrawn': WHATEVER THE INPUT: true; the input reads as it did. -/
def pkeyDrawnSpec : ChangeSpec := { name := "pkeyDrawn", fn := fun _ => fun
  | [d1, d2] => { results := [.lit (.bool true)], args := [d1, d2] }
  | _ => none }
def pkeyDrawnRow : OpenClaim := { program := "ytdmglajfmfjmlaa", sum := "db0a56bd5c549cff114fb8d9515a6fbeaec9b72ac26aef5d34434d4891194ff9", func := "clepsydra/clepsydralaw05.PkeyDrawn", spec := "pkeyDrawn", inPlace := ["math/bits.Sub64", "math/bits.Add64"], unfollowed := true, recurses := true, named := ["math/bits.divideError", "math/bits.overflowError"], apart := false }
def PkeyDrawnSaid : Prop := pkeyDrawnRow.holds Try.pinned (OpenSpec.ofChange pkeyDrawnSpec)

/-- ITS FALSE NEIGHBOUR: 'it returns false'. Refute it at one input. -/
def pkeyDrawnWrong : ChangeSpec := { name := "pkeyDrawn", fn := fun _ => fun
  | [d1, d2] => { results := [.lit (.bool false)], args := [d1, d2] }
  | _ => none }
def PkeyDrawnWrongFalsely : Prop := pkeyDrawnRow.holds Try.pinned (OpenSpec.ofChange pkeyDrawnWrong)

/-- 'clepsydralaw05.PkeyBack': WHATEVER THE INPUT: true; the input reads as it did. -/
def pkeyBackSpec : ChangeSpec := { name := "pkeyBack", fn := fun _ => fun
  | [d1, d2, d3] => { results := [.lit (.bool true)], args := [d1, d2, d3] }
  | _ => none }
def pkeyBackRow : OpenClaim := { program := "ytdmglajfmfjmlaa", sum := "db0a56bd5c549cff114fb8d9515a6fbeaec9b72ac26aef5d34434d4891194ff9", func := "clepsydra/clepsydralaw05.PkeyBack", spec := "pkeyBack", inPlace := ["math/bits.Sub64", "math/bits.Add64"], unfollowed := true, recurses := true, named := ["math/bits.divideError", "math/bits.overflowError"], apart := false }
def PkeyBackSaid : Prop := pkeyBackRow.holds Try.pinned (OpenSpec.ofChange pkeyBackSpec)

/-- ITS FALSE NEIGHBOUR: 'it returns false'. Refute it at one input. -/
def pkeyBackWrong : ChangeSpec := { name := "pkeyBack", fn := fun _ => fun
  | [d1, d2, d3] => { results := [.lit (.bool false)], args := [d1, d2, d3] }
  | _ => none }
def PkeyBackWrongFalsely : Prop := pkeyBackRow.holds Try.pinned (OpenSpec.ofChange pkeyBackWrong)

/-- 'clepsydralaw06.IffProves': WHATEVER THE INPUT: true; the input reads as it did. -/
def iffProvesSpec : ChangeSpec := { name := "iffProves", fn := fun _ => fun
  | [d1, d2, d3, d4] => { results := [.lit (.bool true)], args := [d1, d2, d3, d4] }
  | _ => none }
def iffProvesRow : OpenClaim := { program := "ytdmglajfmfjmlaa", sum := "db0a56bd5c549cff114fb8d9515a6fbeaec9b72ac26aef5d34434d4891194ff9", func := "clepsydra/clepsydralaw06.IffProves", spec := "iffProves", inPlace := ["math/bits.Sub64", "math/bits.Add64"], unfollowed := true, recurses := true, named := ["math/bits.divideError", "math/bits.overflowError"], apart := false }
def IffProvesSaid : Prop := iffProvesRow.holds Try.pinned (OpenSpec.ofChange iffProvesSpec)

/-- ITS FALSE NEIGHBOUR: 'it returns false'. Refute it at one input. -/
def iffProvesWrong : ChangeSpec := { name := "iffProves", fn := fun _ => fun
  | [d1, d2, d3, d4] => { results := [.lit (.bool false)], args := [d1, d2, d3, d4] }
  | _ => none }
def IffProvesWrongFalsely : Prop := iffProvesRow.holds Try.pinned (OpenSpec.ofChange iffProvesWrong)

/-- 'clepsydralaw06.IffKnows': WHATEVER THE INPUT: true; the input reads as it did. -/
def iffKnowsSpec : ChangeSpec := { name := "iffKnows", fn := fun _ => fun
  | [d1, d2, d3, d4, d5] => { results := [.lit (.bool true)], args := [d1, d2, d3, d4, d5] }
  | _ => none }
def iffKnowsRow : OpenClaim := { program := "ytdmglajfmfjmlaa", sum := "db0a56bd5c549cff114fb8d9515a6fbeaec9b72ac26aef5d34434d4891194ff9", func := "clepsydra/clepsydralaw06.IffKnows", spec := "iffKnows", inPlace := ["math/bits.Sub64", "math/bits.Add64"], unfollowed := true, recurses := true, named := ["math/bits.divideError", "math/bits.overflowError"], apart := false }
def IffKnowsSaid : Prop := iffKnowsRow.holds Try.pinned (OpenSpec.ofChange iffKnowsSpec)

/-- ITS FALSE NEIGHBOUR: 'it returns false'. Refute it at one input. -/
def iffKnowsWrong : ChangeSpec := { name := "iffKnows", fn := fun _ => fun
  | [d1, d2, d3, d4, d5] => { results := [.lit (.bool false)], args := [d1, d2, d3, d4, d5] }
  | _ => none }
def IffKnowsWrongFalsely : Prop := iffKnowsRow.holds Try.pinned (OpenSpec.ofChange iffKnowsWrong)

/-- 'clepsydralaw12.ValuesHold': WHATEVER THE INPUT: true; the input reads as it did. -/
def valuesHoldSpec : ChangeSpec := { name := "valuesHold", fn := fun _ => fun
  | [d1, d2] => { results := [.lit (.bool true)], args := [d1, d2] }
  | _ => none }
def valuesHoldRow : OpenClaim := { program := "ytdmglajfmfjmlaa", sum := "db0a56bd5c549cff114fb8d9515a6fbeaec9b72ac26aef5d34434d4891194ff9", func := "clepsydra/clepsydralaw12.ValuesHold", spec := "valuesHold", inPlace := ["math/bits.Sub64", "math/bits.Add64"], unfollowed := true, recurses := true, named := ["math/bits.divideError", "math/bits.overflowError"], apart := false }
def ValuesHoldSaid : Prop := valuesHoldRow.holds Try.pinned (OpenSpec.ofChange valuesHoldSpec)

/-- ITS FALSE NEIGHBOUR: 'it returns false'. Refute it at one input. -/
def valuesHoldWrong : ChangeSpec := { name := "valuesHold", fn := fun _ => fun
  | [d1, d2] => { results := [.lit (.bool false)], args := [d1, d2] }
  | _ => none }
def ValuesHoldWrongFalsely : Prop := valuesHoldRow.holds Try.pinned (OpenSpec.ofChange valuesHoldWrong)

/-- 'clepsydratop.TopUndo': WHATEVER THE INPUT: true; the input reads as it did. -/
def topUndoSpec : ChangeSpec := { name := "topUndo", fn := fun _ => fun
  | [d1, d2] => { results := [.lit (.bool true)], args := [d1, d2] }
  | _ => none }
def topUndoRow : OpenClaim := { program := "ytdmglajfmfjmlaa", sum := "db0a56bd5c549cff114fb8d9515a6fbeaec9b72ac26aef5d34434d4891194ff9", func := "clepsydra/clepsydratop.TopUndo", spec := "topUndo", inPlace := ["math/bits.Sub64", "math/bits.Add64"], unfollowed := true, recurses := true, named := ["math/bits.divideError", "math/bits.overflowError"], apart := false }
def TopUndoSaid : Prop := topUndoRow.holds Try.pinned (OpenSpec.ofChange topUndoSpec)

/-- ITS FALSE NEIGHBOUR: 'it returns false'. Refute it at one input. -/
def topUndoWrong : ChangeSpec := { name := "topUndo", fn := fun _ => fun
  | [d1, d2] => { results := [.lit (.bool false)], args := [d1, d2] }
  | _ => none }
def TopUndoWrongFalsely : Prop := topUndoRow.holds Try.pinned (OpenSpec.ofChange topUndoWrong)

/-- 'clepsydratop.TopDrawn': WHATEVER THE INPUT: true; the input reads as it did. -/
def topDrawnSpec : ChangeSpec := { name := "topDrawn", fn := fun _ => fun
  | [d1, d2, d3] => { results := [.lit (.bool true)], args := [d1, d2, d3] }
  | _ => none }
def topDrawnRow : OpenClaim := { program := "ytdmglajfmfjmlaa", sum := "db0a56bd5c549cff114fb8d9515a6fbeaec9b72ac26aef5d34434d4891194ff9", func := "clepsydra/clepsydratop.TopDrawn", spec := "topDrawn", inPlace := ["math/bits.Sub64", "math/bits.Add64"], unfollowed := true, recurses := true, named := ["math/bits.divideError", "math/bits.overflowError"], apart := false }
def TopDrawnSaid : Prop := topDrawnRow.holds Try.pinned (OpenSpec.ofChange topDrawnSpec)

/-- ITS FALSE NEIGHBOUR: 'it returns false'. Refute it at one input. -/
def topDrawnWrong : ChangeSpec := { name := "topDrawn", fn := fun _ => fun
  | [d1, d2, d3] => { results := [.lit (.bool false)], args := [d1, d2, d3] }
  | _ => none }
def TopDrawnWrongFalsely : Prop := topDrawnRow.holds Try.pinned (OpenSpec.ofChange topDrawnWrong)

/- THE SECOND FORM. 'bulk': how many values and letters a reading holds, each counted each time it is reached (what is shared counts as often as it is met; a slice's spare places count too). A statement '..UptoSaid' is the law's where the arguments, and the package variables that the reading takes, are together of bulk at most 1048576: NARROWER than '..Said'. Prove '..Said' where nothing that the law and all that it calls make is longer than what came in: it says more and counts as full. Else prove '..UptoSaid'. A law counts once. -/
mutual
def uptoBulk {H : Type} : DataW H → Nat
  | .lit (.string bytes) => bytes.length + 1
  | .lit _ => 1
  | .nil => 1
  | .ptr d => uptoBulk d + 1
  | .slice elems spare => uptoBulkAll elems + uptoBulkAll spare + 1
  | .agg parts => uptoBulkAll parts + 1
  | .iface _ d => uptoBulk d + 1
  | .map entries => uptoBulkEntries entries + 1
  | .held _ => 1
def uptoBulkAll {H : Type} : List (DataW H) → Nat
  | [] => 0
  | d :: r => uptoBulk d + uptoBulkAll r
def uptoBulkEntries {H : Type} : List (Lit × DataW H) → Nat
  | [] => 0
  | x :: r => uptoBulkEntry x + uptoBulkEntries r
def uptoBulkEntry {H : Type} : Lit × DataW H → Nat
  | (.string bytes, d) => bytes.length + uptoBulk d + 1
  | (_, d) => uptoBulk d + 1
 end
def uptoSmall : (H : Type) → List (DataW H) → Bool := fun _ ds => decide (uptoBulkAll ds ≤ 1048576)
def OpenSpec.upto (s : _root_.Go.ChangeSpec) : _root_.Go.OpenSpec := { _root_.Go.OpenSpec.ofChange s with cond := some uptoSmall }

/-- 'clepsydralaw05.PkeyHolds', WHERE WHAT IT READS IS OF BULK AT MOST 1048576: true; the input reads as it did. -/
def pkeyHoldsUptoRow : OpenClaim := { program := "ytdmglajfmfjmlaa", sum := "db0a56bd5c549cff114fb8d9515a6fbeaec9b72ac26aef5d34434d4891194ff9", func := "clepsydra/clepsydralaw05.PkeyHolds", spec := "pkeyHolds", inPlace := ["math/bits.Sub64", "math/bits.Add64"], unfollowed := true, recurses := true, named := ["math/bits.divideError", "math/bits.overflowError"], apart := false, narrowed := true }
def PkeyHoldsUptoSaid : Prop := pkeyHoldsUptoRow.holds Try.pinned (OpenSpec.upto pkeyHoldsSpec)

/-- 'clepsydralaw05.PkeyDrawn', WHERE WHAT IT READS IS OF BULK AT MOST 1048576: true; the input reads as it did. -/
def pkeyDrawnUptoRow : OpenClaim := { program := "ytdmglajfmfjmlaa", sum := "db0a56bd5c549cff114fb8d9515a6fbeaec9b72ac26aef5d34434d4891194ff9", func := "clepsydra/clepsydralaw05.PkeyDrawn", spec := "pkeyDrawn", inPlace := ["math/bits.Sub64", "math/bits.Add64"], unfollowed := true, recurses := true, named := ["math/bits.divideError", "math/bits.overflowError"], apart := false, narrowed := true }
def PkeyDrawnUptoSaid : Prop := pkeyDrawnUptoRow.holds Try.pinned (OpenSpec.upto pkeyDrawnSpec)

/-- 'clepsydralaw05.PkeyBack', WHERE WHAT IT READS IS OF BULK AT MOST 1048576: true; the input reads as it did. -/
def pkeyBackUptoRow : OpenClaim := { program := "ytdmglajfmfjmlaa", sum := "db0a56bd5c549cff114fb8d9515a6fbeaec9b72ac26aef5d34434d4891194ff9", func := "clepsydra/clepsydralaw05.PkeyBack", spec := "pkeyBack", inPlace := ["math/bits.Sub64", "math/bits.Add64"], unfollowed := true, recurses := true, named := ["math/bits.divideError", "math/bits.overflowError"], apart := false, narrowed := true }
def PkeyBackUptoSaid : Prop := pkeyBackUptoRow.holds Try.pinned (OpenSpec.upto pkeyBackSpec)

/-- 'clepsydralaw06.IffProves', WHERE WHAT IT READS IS OF BULK AT MOST 1048576: true; the input reads as it did. -/
def iffProvesUptoRow : OpenClaim := { program := "ytdmglajfmfjmlaa", sum := "db0a56bd5c549cff114fb8d9515a6fbeaec9b72ac26aef5d34434d4891194ff9", func := "clepsydra/clepsydralaw06.IffProves", spec := "iffProves", inPlace := ["math/bits.Sub64", "math/bits.Add64"], unfollowed := true, recurses := true, named := ["math/bits.divideError", "math/bits.overflowError"], apart := false, narrowed := true }
def IffProvesUptoSaid : Prop := iffProvesUptoRow.holds Try.pinned (OpenSpec.upto iffProvesSpec)

/-- 'clepsydralaw06.IffKnows', WHERE WHAT IT READS IS OF BULK AT MOST 1048576: true; the input reads as it did. -/
def iffKnowsUptoRow : OpenClaim := { program := "ytdmglajfmfjmlaa", sum := "db0a56bd5c549cff114fb8d9515a6fbeaec9b72ac26aef5d34434d4891194ff9", func := "clepsydra/clepsydralaw06.IffKnows", spec := "iffKnows", inPlace := ["math/bits.Sub64", "math/bits.Add64"], unfollowed := true, recurses := true, named := ["math/bits.divideError", "math/bits.overflowError"], apart := false, narrowed := true }
def IffKnowsUptoSaid : Prop := iffKnowsUptoRow.holds Try.pinned (OpenSpec.upto iffKnowsSpec)

/-- 'clepsydralaw12.ValuesHold', WHERE WHAT IT READS IS OF BULK AT MOST 1048576: true; the input reads as it did. -/
def valuesHoldUptoRow : OpenClaim := { program := "ytdmglajfmfjmlaa", sum := "db0a56bd5c549cff114fb8d9515a6fbeaec9b72ac26aef5d34434d4891194ff9", func := "clepsydra/clepsydralaw12.ValuesHold", spec := "valuesHold", inPlace := ["math/bits.Sub64", "math/bits.Add64"], unfollowed := true, recurses := true, named := ["math/bits.divideError", "math/bits.overflowError"], apart := false, narrowed := true }
def ValuesHoldUptoSaid : Prop := valuesHoldUptoRow.holds Try.pinned (OpenSpec.upto valuesHoldSpec)

/-- 'clepsydratop.TopUndo', WHERE WHAT IT READS IS OF BULK AT MOST 1048576: true; the input reads as it did. -/
def topUndoUptoRow : OpenClaim := { program := "ytdmglajfmfjmlaa", sum := "db0a56bd5c549cff114fb8d9515a6fbeaec9b72ac26aef5d34434d4891194ff9", func := "clepsydra/clepsydratop.TopUndo", spec := "topUndo", inPlace := ["math/bits.Sub64", "math/bits.Add64"], unfollowed := true, recurses := true, named := ["math/bits.divideError", "math/bits.overflowError"], apart := false, narrowed := true }
def TopUndoUptoSaid : Prop := topUndoUptoRow.holds Try.pinned (OpenSpec.upto topUndoSpec)

/-- 'clepsydratop.TopDrawn', WHERE WHAT IT READS IS OF BULK AT MOST 1048576: true; the input reads as it did. -/
def topDrawnUptoRow : OpenClaim := { program := "ytdmglajfmfjmlaa", sum := "db0a56bd5c549cff114fb8d9515a6fbeaec9b72ac26aef5d34434d4891194ff9", func := "clepsydra/clepsydratop.TopDrawn", spec := "topDrawn", inPlace := ["math/bits.Sub64", "math/bits.Add64"], unfollowed := true, recurses := true, named := ["math/bits.divideError", "math/bits.overflowError"], apart := false, narrowed := true }
def TopDrawnUptoSaid : Prop := topDrawnUptoRow.holds Try.pinned (OpenSpec.upto topDrawnSpec)

end Rows
end Go.Proofs.Ytdmglajfmfjmlaa
