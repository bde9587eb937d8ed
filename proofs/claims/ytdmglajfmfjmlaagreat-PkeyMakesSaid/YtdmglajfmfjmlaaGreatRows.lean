/-
  No cell of these rows narrows 'for every input' (looked for: loops, veiled, ifaces, maps, wideKeys, modest, calm, conditions, laid).
  DERIVED. THE GIVEN ROWS OF THIS SEAT. 8 by the template 'for every input the law returns true; each argument reads behind the call as it read before'; 0 by the template 'total and deterministic' (their statements: YtdmglajfmfjmlaaGreatTotals.lean).
  GIVEN WITH THE SEED: the statements are not yours to turn. If you find one false, say at which input.
  Laid BY PROGRAM, IN A SANDBOX (cutbox-rows.mjs): the forced cells as the released guide's own fill.sh prints them over the translation 81d05b2ef9b4d4b4… (all of the seat's roots in one cut). By AI agents, Wed Nov 11 2026. No macro, syntax, notation, axiom, sorry.
-/
import Derived.Test.YtdmglajfmfjmlaaGreatChecked
import GoSem.Claim
import GoSem.ClaimJoined
import GoSem.ClaimMapViews
import Derived.JoinedTies
import Derived.KernelRfl
namespace Go.Proofs.YtdmglajfmfjmlaaGreat
/- THE CELL 'sum', in the pinned program and in every row, IS THE sha256 OF THE DUMP (.gsa) THAT YtdmglajfmfjmlaaGreatProg.lean LOADS. Nothing in Lean hashes anything: it is a label: what it is worth is what the hold of that sum in a sandbox is worth. -/
noncomputable def Tryz.pinned : Pinned := { name := "ytdmglajfmfjmlaagreat", sum := "81d05b2ef9b4d4b4cb3a6a7e6e346748dd410946b062aa50bb7f40c1a45f418e", checked := Tryz.checked }
namespace Rows
def none {H : Type} : Left H := { results := [], args := [] }

/-- 'clepsydralaw05.PkeyMakes': WHATEVER THE INPUT: true; the input reads as it did. -/
def pkeyMakesSpec : ChangeSpec := { name := "pkeyMakes", fn := fun _ => fun
  | [d1, d2, d3] => { results := [.lit (.bool true)], args := [d1, d2, d3] }
  | _ => none }
def pkeyMakesRow : OpenClaim := { program := "ytdmglajfmfjmlaagreat", sum := "81d05b2ef9b4d4b4cb3a6a7e6e346748dd410946b062aa50bb7f40c1a45f418e", func := "clepsydra/clepsydralaw05.PkeyMakes", spec := "pkeyMakes", inPlace := ["math/bits.Sub64", "math/bits.Add64"], unfollowed := true, recurses := true, named := ["math/bits.divideError", "math/bits.overflowError"], apart := false }
def PkeyMakesSaid : Prop := pkeyMakesRow.holds Tryz.pinned (OpenSpec.ofChange pkeyMakesSpec)

/-- ITS FALSE NEIGHBOUR: 'it returns false'. Refute it at one input. -/
def pkeyMakesWrong : ChangeSpec := { name := "pkeyMakes", fn := fun _ => fun
  | [d1, d2, d3] => { results := [.lit (.bool false)], args := [d1, d2, d3] }
  | _ => none }
def PkeyMakesWrongFalsely : Prop := pkeyMakesRow.holds Tryz.pinned (OpenSpec.ofChange pkeyMakesWrong)

/-- 'clepsydralaw05.PkeySignings': WHATEVER THE INPUT: true; the input reads as it did. -/
def pkeySigningsSpec : ChangeSpec := { name := "pkeySignings", fn := fun _ => fun
  | [d1, d2, d3] => { results := [.lit (.bool true)], args := [d1, d2, d3] }
  | _ => none }
def pkeySigningsRow : OpenClaim := { program := "ytdmglajfmfjmlaagreat", sum := "81d05b2ef9b4d4b4cb3a6a7e6e346748dd410946b062aa50bb7f40c1a45f418e", func := "clepsydra/clepsydralaw05.PkeySignings", spec := "pkeySignings", inPlace := ["math/bits.Sub64", "math/bits.Add64"], unfollowed := true, recurses := true, named := ["math/bits.divideError", "math/bits.overflowError"], apart := false }
def PkeySigningsSaid : Prop := pkeySigningsRow.holds Tryz.pinned (OpenSpec.ofChange pkeySigningsSpec)

/-- ITS FALSE NEIGHBOUR: 'it returns false'. Refute it at one input. -/
def pkeySigningsWrong : ChangeSpec := { name := "pkeySignings", fn := fun _ => fun
  | [d1, d2, d3] => { results := [.lit (.bool false)], args := [d1, d2, d3] }
  | _ => none }
def PkeySigningsWrongFalsely : Prop := pkeySigningsRow.holds Tryz.pinned (OpenSpec.ofChange pkeySigningsWrong)

/-- 'clepsydralaw05.PkeyDraws': WHATEVER THE INPUT: true; the input reads as it did. -/
def pkeyDrawsSpec : ChangeSpec := { name := "pkeyDraws", fn := fun _ => fun
  | [d1, d2, d3] => { results := [.lit (.bool true)], args := [d1, d2, d3] }
  | _ => none }
def pkeyDrawsRow : OpenClaim := { program := "ytdmglajfmfjmlaagreat", sum := "81d05b2ef9b4d4b4cb3a6a7e6e346748dd410946b062aa50bb7f40c1a45f418e", func := "clepsydra/clepsydralaw05.PkeyDraws", spec := "pkeyDraws", inPlace := ["math/bits.Sub64", "math/bits.Add64"], unfollowed := true, recurses := true, named := ["math/bits.divideError", "math/bits.overflowError"], apart := false }
def PkeyDrawsSaid : Prop := pkeyDrawsRow.holds Tryz.pinned (OpenSpec.ofChange pkeyDrawsSpec)

/-- ITS FALSE NEIGHBOUR: 'it returns false'. Refute it at one input. -/
def pkeyDrawsWrong : ChangeSpec := { name := "pkeyDraws", fn := fun _ => fun
  | [d1, d2, d3] => { results := [.lit (.bool false)], args := [d1, d2, d3] }
  | _ => none }
def PkeyDrawsWrongFalsely : Prop := pkeyDrawsRow.holds Tryz.pinned (OpenSpec.ofChange pkeyDrawsWrong)

/-- 'clepsydralaw05.PkeyCrypts': WHATEVER THE INPUT: true; the input reads as it did. -/
def pkeyCryptsSpec : ChangeSpec := { name := "pkeyCrypts", fn := fun _ => fun
  | [d1, d2, d3, d4] => { results := [.lit (.bool true)], args := [d1, d2, d3, d4] }
  | _ => none }
def pkeyCryptsRow : OpenClaim := { program := "ytdmglajfmfjmlaagreat", sum := "81d05b2ef9b4d4b4cb3a6a7e6e346748dd410946b062aa50bb7f40c1a45f418e", func := "clepsydra/clepsydralaw05.PkeyCrypts", spec := "pkeyCrypts", inPlace := ["math/bits.Sub64", "math/bits.Add64"], unfollowed := true, recurses := true, named := ["math/bits.divideError", "math/bits.overflowError"], apart := false }
def PkeyCryptsSaid : Prop := pkeyCryptsRow.holds Tryz.pinned (OpenSpec.ofChange pkeyCryptsSpec)

/-- ITS FALSE NEIGHBOUR: 'it returns false'. Refute it at one input. -/
def pkeyCryptsWrong : ChangeSpec := { name := "pkeyCrypts", fn := fun _ => fun
  | [d1, d2, d3, d4] => { results := [.lit (.bool false)], args := [d1, d2, d3, d4] }
  | _ => none }
def PkeyCryptsWrongFalsely : Prop := pkeyCryptsRow.holds Tryz.pinned (OpenSpec.ofChange pkeyCryptsWrong)

/-- 'clepsydralaw06.IffTells': WHATEVER THE INPUT: true; the input reads as it did. -/
def iffTellsSpec : ChangeSpec := { name := "iffTells", fn := fun _ => fun
  | [d1, d2, d3, d4, d5] => { results := [.lit (.bool true)], args := [d1, d2, d3, d4, d5] }
  | _ => none }
def iffTellsRow : OpenClaim := { program := "ytdmglajfmfjmlaagreat", sum := "81d05b2ef9b4d4b4cb3a6a7e6e346748dd410946b062aa50bb7f40c1a45f418e", func := "clepsydra/clepsydralaw06.IffTells", spec := "iffTells", inPlace := ["math/bits.Sub64", "math/bits.Add64"], unfollowed := true, recurses := true, named := ["math/bits.divideError", "math/bits.overflowError"], apart := false }
def IffTellsSaid : Prop := iffTellsRow.holds Tryz.pinned (OpenSpec.ofChange iffTellsSpec)

/-- ITS FALSE NEIGHBOUR: 'it returns false'. Refute it at one input. -/
def iffTellsWrong : ChangeSpec := { name := "iffTells", fn := fun _ => fun
  | [d1, d2, d3, d4, d5] => { results := [.lit (.bool false)], args := [d1, d2, d3, d4, d5] }
  | _ => none }
def IffTellsWrongFalsely : Prop := iffTellsRow.holds Tryz.pinned (OpenSpec.ofChange iffTellsWrong)

/-- 'clepsydralaw06.IffExtracts': WHATEVER THE INPUT: true; the input reads as it did. -/
def iffExtractsSpec : ChangeSpec := { name := "iffExtracts", fn := fun _ => fun
  | [d1, d2, d3, d4, d5] => { results := [.lit (.bool true)], args := [d1, d2, d3, d4, d5] }
  | _ => none }
def iffExtractsRow : OpenClaim := { program := "ytdmglajfmfjmlaagreat", sum := "81d05b2ef9b4d4b4cb3a6a7e6e346748dd410946b062aa50bb7f40c1a45f418e", func := "clepsydra/clepsydralaw06.IffExtracts", spec := "iffExtracts", inPlace := ["math/bits.Sub64", "math/bits.Add64"], unfollowed := true, recurses := true, named := ["math/bits.divideError", "math/bits.overflowError"], apart := false }
def IffExtractsSaid : Prop := iffExtractsRow.holds Tryz.pinned (OpenSpec.ofChange iffExtractsSpec)

/-- ITS FALSE NEIGHBOUR: 'it returns false'. Refute it at one input. -/
def iffExtractsWrong : ChangeSpec := { name := "iffExtracts", fn := fun _ => fun
  | [d1, d2, d3, d4, d5] => { results := [.lit (.bool false)], args := [d1, d2, d3, d4, d5] }
  | _ => none }
def IffExtractsWrongFalsely : Prop := iffExtractsRow.holds Tryz.pinned (OpenSpec.ofChange iffExtractsWrong)

/-- 'clepsydralaw06.IffMakes': WHATEVER THE INPUT: true; the input reads as it did. -/
def iffMakesSpec : ChangeSpec := { name := "iffMakes", fn := fun _ => fun
  | [d1, d2, d3, d4] => { results := [.lit (.bool true)], args := [d1, d2, d3, d4] }
  | _ => none }
def iffMakesRow : OpenClaim := { program := "ytdmglajfmfjmlaagreat", sum := "81d05b2ef9b4d4b4cb3a6a7e6e346748dd410946b062aa50bb7f40c1a45f418e", func := "clepsydra/clepsydralaw06.IffMakes", spec := "iffMakes", inPlace := ["math/bits.Sub64", "math/bits.Add64"], unfollowed := true, recurses := true, named := ["math/bits.divideError", "math/bits.overflowError"], apart := false }
def IffMakesSaid : Prop := iffMakesRow.holds Tryz.pinned (OpenSpec.ofChange iffMakesSpec)

/-- ITS FALSE NEIGHBOUR: 'it returns false'. Refute it at one input. -/
def iffMakesWrong : ChangeSpec := { name := "iffMakes", fn := fun _ => fun
  | [d1, d2, d3, d4] => { results := [.lit (.bool false)], args := [d1, d2, d3, d4] }
  | _ => none }
def IffMakesWrongFalsely : Prop := iffMakesRow.holds Tryz.pinned (OpenSpec.ofChange iffMakesWrong)

/-- 'clepsydralaw12.ValuesSigns': WHATEVER THE INPUT: true; the input reads as it did. -/
def valuesSignsSpec : ChangeSpec := { name := "valuesSigns", fn := fun _ => fun
  | [d1, d2, d3] => { results := [.lit (.bool true)], args := [d1, d2, d3] }
  | _ => none }
def valuesSignsRow : OpenClaim := { program := "ytdmglajfmfjmlaagreat", sum := "81d05b2ef9b4d4b4cb3a6a7e6e346748dd410946b062aa50bb7f40c1a45f418e", func := "clepsydra/clepsydralaw12.ValuesSigns", spec := "valuesSigns", inPlace := ["math/bits.Add64", "math/bits.Sub64"], unfollowed := true, recurses := true, named := ["math/bits.divideError", "math/bits.overflowError"], apart := false }
def ValuesSignsSaid : Prop := valuesSignsRow.holds Tryz.pinned (OpenSpec.ofChange valuesSignsSpec)

/-- ITS FALSE NEIGHBOUR: 'it returns false'. Refute it at one input. -/
def valuesSignsWrong : ChangeSpec := { name := "valuesSigns", fn := fun _ => fun
  | [d1, d2, d3] => { results := [.lit (.bool false)], args := [d1, d2, d3] }
  | _ => none }
def ValuesSignsWrongFalsely : Prop := valuesSignsRow.holds Tryz.pinned (OpenSpec.ofChange valuesSignsWrong)

/- THE SECOND FORM. 'bulk': how many values and letters a reading holds, each counted each time it is reached (what is shared counts as often as it is met; a slice's spare places count too). A statement '..UptoSaid' is the law's where the arguments, and the package variables that the reading takes, are together of bulk at most 1048576: NARROWER than '..Said'. Prove '..Said' where nothing that the law and all that it calls make is longer than what came in: it says more and counts as full. Else prove '..UptoSaid'. A law counts once. -/
mutual
def uptoBulk {H : Type} : DataW H → Nat
  | .lit (.string bytes) => bytes.length + 1
  | .lit _ => 1
  | .nil => 1
  | .ptr d => uptoBulk d + 1
  | .slice elems spare => uptoBulkAll elems + uptoBulkAll spare + 1
  | .agg parts => uptoBulkAll parts + 1
  | .iface _ d => uptoBulk d + 1
  | .map entries => uptoBulkEntries entries + 1
  | .held _ => 1
def uptoBulkAll {H : Type} : List (DataW H) → Nat
  | [] => 0
  | d :: r => uptoBulk d + uptoBulkAll r
def uptoBulkEntries {H : Type} : List (Lit × DataW H) → Nat
  | [] => 0
  | x :: r => uptoBulkEntry x + uptoBulkEntries r
def uptoBulkEntry {H : Type} : Lit × DataW H → Nat
  | (.string bytes, d) => bytes.length + uptoBulk d + 1
  | (_, d) => uptoBulk d + 1
 end
def uptoSmall : (H : Type) → List (DataW H) → Bool := fun _ ds => decide (uptoBulkAll ds ≤ 1048576)
def OpenSpec.upto (s : _root_.Go.ChangeSpec) : _root_.Go.OpenSpec := { _root_.Go.OpenSpec.ofChange s with cond := some uptoSmall }

/-- 'clepsydralaw05.PkeyMakes', WHERE WHAT IT READS IS OF BULK AT MOST 1048576: true; the input reads as it did. -/
def pkeyMakesUptoRow : OpenClaim := { program := "ytdmglajfmfjmlaagreat", sum := "81d05b2ef9b4d4b4cb3a6a7e6e346748dd410946b062aa50bb7f40c1a45f418e", func := "clepsydra/clepsydralaw05.PkeyMakes", spec := "pkeyMakes", inPlace := ["math/bits.Sub64", "math/bits.Add64"], unfollowed := true, recurses := true, named := ["math/bits.divideError", "math/bits.overflowError"], apart := false, narrowed := true }
def PkeyMakesUptoSaid : Prop := pkeyMakesUptoRow.holds Tryz.pinned (OpenSpec.upto pkeyMakesSpec)

/-- 'clepsydralaw05.PkeySignings', WHERE WHAT IT READS IS OF BULK AT MOST 1048576: true; the input reads as it did. -/
def pkeySigningsUptoRow : OpenClaim := { program := "ytdmglajfmfjmlaagreat", sum := "81d05b2ef9b4d4b4cb3a6a7e6e346748dd410946b062aa50bb7f40c1a45f418e", func := "clepsydra/clepsydralaw05.PkeySignings", spec := "pkeySignings", inPlace := ["math/bits.Sub64", "math/bits.Add64"], unfollowed := true, recurses := true, named := ["math/bits.divideError", "math/bits.overflowError"], apart := false, narrowed := true }
def PkeySigningsUptoSaid : Prop := pkeySigningsUptoRow.holds Tryz.pinned (OpenSpec.upto pkeySigningsSpec)

/-- 'clepsydralaw05.PkeyDraws', WHERE WHAT IT READS IS OF BULK AT MOST 1048576: true; the input reads as it did. -/
def pkeyDrawsUptoRow : OpenClaim := { program := "ytdmglajfmfjmlaagreat", sum := "81d05b2ef9b4d4b4cb3a6a7e6e346748dd410946b062aa50bb7f40c1a45f418e", func := "clepsydra/clepsydralaw05.PkeyDraws", spec := "pkeyDraws", inPlace := ["math/bits.Sub64", "math/bits.Add64"], unfollowed := true, recurses := true, named := ["math/bits.divideError", "math/bits.overflowError"], apart := false, narrowed := true }
def PkeyDrawsUptoSaid : Prop := pkeyDrawsUptoRow.holds Tryz.pinned (OpenSpec.upto pkeyDrawsSpec)

/-- 'clepsydralaw05.PkeyCrypts', WHERE WHAT IT READS IS OF BULK AT MOST 1048576: true; the input reads as it did. -/
def pkeyCryptsUptoRow : OpenClaim := { program := "ytdmglajfmfjmlaagreat", sum := "81d05b2ef9b4d4b4cb3a6a7e6e346748dd410946b062aa50bb7f40c1a45f418e", func := "clepsydra/clepsydralaw05.PkeyCrypts", spec := "pkeyCrypts", inPlace := ["math/bits.Sub64", "math/bits.Add64"], unfollowed := true, recurses := true, named := ["math/bits.divideError", "math/bits.overflowError"], apart := false, narrowed := true }
def PkeyCryptsUptoSaid : Prop := pkeyCryptsUptoRow.holds Tryz.pinned (OpenSpec.upto pkeyCryptsSpec)

/-- 'clepsydralaw06.IffTells', WHERE WHAT IT READS IS OF BULK AT MOST 1048576: true; the input reads as it did. -/
def iffTellsUptoRow : OpenClaim := { program := "ytdmglajfmfjmlaagreat", sum := "81d05b2ef9b4d4b4cb3a6a7e6e346748dd410946b062aa50bb7f40c1a45f418e", func := "clepsydra/clepsydralaw06.IffTells", spec := "iffTells", inPlace := ["math/bits.Sub64", "math/bits.Add64"], unfollowed := true, recurses := true, named := ["math/bits.divideError", "math/bits.overflowError"], apart := false, narrowed := true }
def IffTellsUptoSaid : Prop := iffTellsUptoRow.holds Tryz.pinned (OpenSpec.upto iffTellsSpec)

/-- 'clepsydralaw06.IffExtracts', WHERE WHAT IT READS IS OF BULK AT MOST 1048576: true; the input reads as it did. -/
def iffExtractsUptoRow : OpenClaim := { program := "ytdmglajfmfjmlaagreat", sum := "81d05b2ef9b4d4b4cb3a6a7e6e346748dd410946b062aa50bb7f40c1a45f418e", func := "clepsydra/clepsydralaw06.IffExtracts", spec := "iffExtracts", inPlace := ["math/bits.Sub64", "math/bits.Add64"], unfollowed := true, recurses := true, named := ["math/bits.divideError", "math/bits.overflowError"], apart := false, narrowed := true }
def IffExtractsUptoSaid : Prop := iffExtractsUptoRow.holds Tryz.pinned (OpenSpec.upto iffExtractsSpec)

/-- 'clepsydralaw06.IffMakes', WHERE WHAT IT READS IS OF BULK AT MOST 1048576: true; the input reads as it did. -/
def iffMakesUptoRow : OpenClaim := { program := "ytdmglajfmfjmlaagreat", sum := "81d05b2ef9b4d4b4cb3a6a7e6e346748dd410946b062aa50bb7f40c1a45f418e", func := "clepsydra/clepsydralaw06.IffMakes", spec := "iffMakes", inPlace := ["math/bits.Sub64", "math/bits.Add64"], unfollowed := true, recurses := true, named := ["math/bits.divideError", "math/bits.overflowError"], apart := false, narrowed := true }
def IffMakesUptoSaid : Prop := iffMakesUptoRow.holds Tryz.pinned (OpenSpec.upto iffMakesSpec)

/-- 'clepsydralaw12.ValuesSigns', WHERE WHAT IT READS IS OF BULK AT MOST 1048576: true; the input reads as it did. -/
def valuesSignsUptoRow : OpenClaim := { program := "ytdmglajfmfjmlaagreat", sum := "81d05b2ef9b4d4b4cb3a6a7e6e346748dd410946b062aa50bb7f40c1a45f418e", func := "clepsydra/clepsydralaw12.ValuesSigns", spec := "valuesSigns", inPlace := ["math/bits.Add64", "math/bits.Sub64"], unfollowed := true, recurses := true, named := ["math/bits.divideError", "math/bits.overflowError"], apart := false, narrowed := true }
def ValuesSignsUptoSaid : Prop := valuesSignsUptoRow.holds Tryz.pinned (OpenSpec.upto valuesSignsSpec)

end Rows
end Go.Proofs.YtdmglajfmfjmlaaGreat
