/-
  No cell of these rows narrows 'for every input' (looked for: loops, veiled, ifaces, maps, wideKeys, modest, calm, conditions, laid).
  DERIVED. THE GIVEN ROWS OF THIS SEAT. 8 by the template 'for every input the law returns true; each argument reads behind the call as it read before'; 0 by the template 'total and deterministic' (their statements: YteelppebdcgbpaaTotals.lean).
  GIVEN WITH THE SEED: the statements are not yours to turn. If you find one false, say at which input.
  Laid BY PROGRAM, IN A SANDBOX (cutbox-rows.mjs): the forced cells as the released guide's own fill.sh prints them over the translation bafaab3e40f5edaa… (all of the seat's roots in one cut). By AI agents, Wed Nov 11 2026. No macro, syntax, notation, axiom, sorry.
-/
import Derived.Test.YteelppebdcgbpaaChecked
import GoSem.Claim
import GoSem.ClaimJoined
import GoSem.ClaimMapViews
import Derived.JoinedTies
import Derived.KernelRfl
namespace Go.Proofs.Yteelppebdcgbpaa
/- THE CELL 'sum', in the pinned program and in every row, IS THE sha256 OF THE DUMP (.gsa) THAT YteelppebdcgbpaaProg.lean LOADS. Nothing in Lean hashes anything: it is a label: what it is worth is what the hold of that sum in a sandbox is worth. -/
noncomputable def Try.pinned : Pinned := { name := "yteelppebdcgbpaa", sum := "bafaab3e40f5edaa0e4afc59118c8ef4e8dc3c7c3a7b87e3eaba6766c34f0742", checked := Try.checked }
namespace Rows
def none {H : Type} : Left H := { results := [], args := [] }

/-- 'clepsydralaw03.ModnReckons': WHATEVER THE INPUT: true; the input reads as it did. -/
def modnReckonsSpec : ChangeSpec := { name := "modnReckons", fn := fun _ => fun
  | [d1, d2, d3] => { results := [.lit (.bool true)], args := [d1, d2, d3] }
  | _ => none }
def modnReckonsRow : OpenClaim := { program := "yteelppebdcgbpaa", sum := "bafaab3e40f5edaa0e4afc59118c8ef4e8dc3c7c3a7b87e3eaba6766c34f0742", func := "clepsydra/clepsydralaw03.ModnReckons", spec := "modnReckons", inPlace := ["math/bits.Add64", "math/bits.Sub64"], named := ["math/bits.divideError", "math/bits.overflowError"], apart := false }
def ModnReckonsSaid : Prop := modnReckonsRow.holds Try.pinned (OpenSpec.ofChange modnReckonsSpec)

/-- ITS FALSE NEIGHBOUR: 'it returns false'. Refute it at one input. -/
def modnReckonsWrong : ChangeSpec := { name := "modnReckons", fn := fun _ => fun
  | [d1, d2, d3] => { results := [.lit (.bool false)], args := [d1, d2, d3] }
  | _ => none }
def ModnReckonsWrongFalsely : Prop := modnReckonsRow.holds Try.pinned (OpenSpec.ofChange modnReckonsWrong)

/-- 'clepsydralaw03.ModnPowers': WHATEVER THE INPUT: true; the input reads as it did. -/
def modnPowersSpec : ChangeSpec := { name := "modnPowers", fn := fun _ => fun
  | [d1, d2, d3] => { results := [.lit (.bool true)], args := [d1, d2, d3] }
  | _ => none }
def modnPowersRow : OpenClaim := { program := "yteelppebdcgbpaa", sum := "bafaab3e40f5edaa0e4afc59118c8ef4e8dc3c7c3a7b87e3eaba6766c34f0742", func := "clepsydra/clepsydralaw03.ModnPowers", spec := "modnPowers", inPlace := ["math/bits.Add64", "math/bits.Sub64"], named := ["math/bits.divideError", "math/bits.overflowError"], apart := false }
def ModnPowersSaid : Prop := modnPowersRow.holds Try.pinned (OpenSpec.ofChange modnPowersSpec)

/-- ITS FALSE NEIGHBOUR: 'it returns false'. Refute it at one input. -/
def modnPowersWrong : ChangeSpec := { name := "modnPowers", fn := fun _ => fun
  | [d1, d2, d3] => { results := [.lit (.bool false)], args := [d1, d2, d3] }
  | _ => none }
def ModnPowersWrongFalsely : Prop := modnPowersRow.holds Try.pinned (OpenSpec.ofChange modnPowersWrong)

/-- 'clepsydralaw03.ModnDivisors': WHATEVER THE INPUT: true; the input reads as it did. -/
def modnDivisorsSpec : ChangeSpec := { name := "modnDivisors", fn := fun _ => fun
  | [d1, d2] => { results := [.lit (.bool true)], args := [d1, d2] }
  | _ => none }
def modnDivisorsRow : OpenClaim := { program := "yteelppebdcgbpaa", sum := "bafaab3e40f5edaa0e4afc59118c8ef4e8dc3c7c3a7b87e3eaba6766c34f0742", func := "clepsydra/clepsydralaw03.ModnDivisors", spec := "modnDivisors", inPlace := ["math/bits.Add64", "math/bits.Sub64"], recurses := true, named := ["math/bits.divideError", "math/bits.overflowError"], apart := false }
def ModnDivisorsSaid : Prop := modnDivisorsRow.holds Try.pinned (OpenSpec.ofChange modnDivisorsSpec)

/-- ITS FALSE NEIGHBOUR: 'it returns false'. Refute it at one input. -/
def modnDivisorsWrong : ChangeSpec := { name := "modnDivisors", fn := fun _ => fun
  | [d1, d2] => { results := [.lit (.bool false)], args := [d1, d2] }
  | _ => none }
def ModnDivisorsWrongFalsely : Prop := modnDivisorsRow.holds Try.pinned (OpenSpec.ofChange modnDivisorsWrong)

/-- 'clepsydralaw03.ModnLaws': WHATEVER THE INPUT: true; the input reads as it did. -/
def modnLawsSpec : ChangeSpec := { name := "modnLaws", fn := fun _ => fun
  | [d1, d2, d3, d4, d5] => { results := [.lit (.bool true)], args := [d1, d2, d3, d4, d5] }
  | _ => none }
def modnLawsRow : OpenClaim := { program := "yteelppebdcgbpaa", sum := "bafaab3e40f5edaa0e4afc59118c8ef4e8dc3c7c3a7b87e3eaba6766c34f0742", func := "clepsydra/clepsydralaw03.ModnLaws", spec := "modnLaws", inPlace := ["math/bits.Add64", "math/bits.Sub64"], named := ["math/bits.divideError", "math/bits.overflowError"], apart := false }
def ModnLawsSaid : Prop := modnLawsRow.holds Try.pinned (OpenSpec.ofChange modnLawsSpec)

/-- ITS FALSE NEIGHBOUR: 'it returns false'. Refute it at one input. -/
def modnLawsWrong : ChangeSpec := { name := "modnLaws", fn := fun _ => fun
  | [d1, d2, d3, d4, d5] => { results := [.lit (.bool false)], args := [d1, d2, d3, d4, d5] }
  | _ => none }
def ModnLawsWrongFalsely : Prop := modnLawsRow.holds Try.pinned (OpenSpec.ofChange modnLawsWrong)

/-- 'clepsydralaw03.ModnBack': WHATEVER THE INPUT: true; the input reads as it did. -/
def modnBackSpec : ChangeSpec := { name := "modnBack", fn := fun _ => fun
  | [d1, d2] => { results := [.lit (.bool true)], args := [d1, d2] }
  | _ => none }
def modnBackRow : OpenClaim := { program := "yteelppebdcgbpaa", sum := "bafaab3e40f5edaa0e4afc59118c8ef4e8dc3c7c3a7b87e3eaba6766c34f0742", func := "clepsydra/clepsydralaw03.ModnBack", spec := "modnBack", inPlace := ["math/bits.Add64", "math/bits.Sub64"], named := ["math/bits.divideError", "math/bits.overflowError"], apart := false }
def ModnBackSaid : Prop := modnBackRow.holds Try.pinned (OpenSpec.ofChange modnBackSpec)

/-- ITS FALSE NEIGHBOUR: 'it returns false'. Refute it at one input. -/
def modnBackWrong : ChangeSpec := { name := "modnBack", fn := fun _ => fun
  | [d1, d2] => { results := [.lit (.bool false)], args := [d1, d2] }
  | _ => none }
def ModnBackWrongFalsely : Prop := modnBackRow.holds Try.pinned (OpenSpec.ofChange modnBackWrong)

/-- 'clepsydralaw03.ModnCommon': WHATEVER THE INPUT: true; the input reads as it did. -/
def modnCommonSpec : ChangeSpec := { name := "modnCommon", fn := fun _ => fun
  | [d1, d2, d3] => { results := [.lit (.bool true)], args := [d1, d2, d3] }
  | _ => none }
def modnCommonRow : OpenClaim := { program := "yteelppebdcgbpaa", sum := "bafaab3e40f5edaa0e4afc59118c8ef4e8dc3c7c3a7b87e3eaba6766c34f0742", func := "clepsydra/clepsydralaw03.ModnCommon", spec := "modnCommon", inPlace := ["math/bits.Add64", "math/bits.Sub64"], named := ["math/bits.divideError", "math/bits.overflowError"], apart := false }
def ModnCommonSaid : Prop := modnCommonRow.holds Try.pinned (OpenSpec.ofChange modnCommonSpec)

/-- ITS FALSE NEIGHBOUR: 'it returns false'. Refute it at one input. -/
def modnCommonWrong : ChangeSpec := { name := "modnCommon", fn := fun _ => fun
  | [d1, d2, d3] => { results := [.lit (.bool false)], args := [d1, d2, d3] }
  | _ => none }
def ModnCommonWrongFalsely : Prop := modnCommonRow.holds Try.pinned (OpenSpec.ofChange modnCommonWrong)

/-- 'clepsydralaw03.ModnTells': WHATEVER THE INPUT: true; the input reads as it did. -/
def modnTellsSpec : ChangeSpec := { name := "modnTells", fn := fun _ => fun
  | [d1, d2, d3] => { results := [.lit (.bool true)], args := [d1, d2, d3] }
  | _ => none }
def modnTellsRow : OpenClaim := { program := "yteelppebdcgbpaa", sum := "bafaab3e40f5edaa0e4afc59118c8ef4e8dc3c7c3a7b87e3eaba6766c34f0742", func := "clepsydra/clepsydralaw03.ModnTells", spec := "modnTells", inPlace := ["math/bits.Add64", "math/bits.Sub64"], unfollowed := true, recurses := true, named := ["math/bits.divideError", "math/bits.overflowError"], apart := false }
def ModnTellsSaid : Prop := modnTellsRow.holds Try.pinned (OpenSpec.ofChange modnTellsSpec)

/-- ITS FALSE NEIGHBOUR: 'it returns false'. Refute it at one input. -/
def modnTellsWrong : ChangeSpec := { name := "modnTells", fn := fun _ => fun
  | [d1, d2, d3] => { results := [.lit (.bool false)], args := [d1, d2, d3] }
  | _ => none }
def ModnTellsWrongFalsely : Prop := modnTellsRow.holds Try.pinned (OpenSpec.ofChange modnTellsWrong)

/-- 'clepsydralaw03.ModnFermat': WHATEVER THE INPUT: true; the input reads as it did. -/
def modnFermatSpec : ChangeSpec := { name := "modnFermat", fn := fun _ => fun
  | [d1, d2] => { results := [.lit (.bool true)], args := [d1, d2] }
  | _ => none }
def modnFermatRow : OpenClaim := { program := "yteelppebdcgbpaa", sum := "bafaab3e40f5edaa0e4afc59118c8ef4e8dc3c7c3a7b87e3eaba6766c34f0742", func := "clepsydra/clepsydralaw03.ModnFermat", spec := "modnFermat", inPlace := ["math/bits.Sub64", "math/bits.Add64"], unfollowed := true, recurses := true, named := ["math/bits.divideError", "math/bits.overflowError"], apart := false }
def ModnFermatSaid : Prop := modnFermatRow.holds Try.pinned (OpenSpec.ofChange modnFermatSpec)

/-- ITS FALSE NEIGHBOUR: 'it returns false'. Refute it at one input. -/
def modnFermatWrong : ChangeSpec := { name := "modnFermat", fn := fun _ => fun
  | [d1, d2] => { results := [.lit (.bool false)], args := [d1, d2] }
  | _ => none }
def ModnFermatWrongFalsely : Prop := modnFermatRow.holds Try.pinned (OpenSpec.ofChange modnFermatWrong)

/- THE SECOND FORM. 'bulk': how many values and letters a reading holds, each counted each time it is reached (what is shared counts as often as it is met; a slice's spare places count too). A statement '..UptoSaid' is the law's where the arguments, and the package variables that the reading takes, are together of bulk at most 1048576: NARROWER than '..Said'. Prove '..Said' where nothing that the law and all that it calls make is longer than what came in: it says more and counts as full. Else prove '..UptoSaid'. A law counts once. -/
mutual
def uptoBulk {H : Type} : DataW H → Nat
  | .lit (.string bytes) => bytes.length + 1
  | .lit _ => 1
  | .nil => 1
  | .ptr d => uptoBulk d + 1
  | .slice elems spare => uptoBulkAll elems + uptoBulkAll spare + 1
  | .agg parts => uptoBulkAll parts + 1
  | .iface _ d => uptoBulk d + 1
  | .map entries => uptoBulkEntries entries + 1
  | .held _ => 1
def uptoBulkAll {H : Type} : List (DataW H) → Nat
  | [] => 0
  | d :: r => uptoBulk d + uptoBulkAll r
def uptoBulkEntries {H : Type} : List (Lit × DataW H) → Nat
  | [] => 0
  | x :: r => uptoBulkEntry x + uptoBulkEntries r
def uptoBulkEntry {H : Type} : Lit × DataW H → Nat
  | (.string bytes, d) => bytes.length + uptoBulk d + 1
  | (_, d) => uptoBulk d + 1
 end
def uptoSmall : (H : Type) → List (DataW H) → Bool := fun _ ds => decide (uptoBulkAll ds ≤ 1048576)
def OpenSpec.upto (s : _root_.Go.ChangeSpec) : _root_.Go.OpenSpec := { _root_.Go.OpenSpec.ofChange s with cond := some uptoSmall }

/-- 'clepsydralaw03.ModnReckons', WHERE WHAT IT READS IS OF BULK AT MOST 1048576: true; the input reads as it did. -/
def modnReckonsUptoRow : OpenClaim := { program := "yteelppebdcgbpaa", sum := "bafaab3e40f5edaa0e4afc59118c8ef4e8dc3c7c3a7b87e3eaba6766c34f0742", func := "clepsydra/clepsydralaw03.ModnReckons", spec := "modnReckons", inPlace := ["math/bits.Add64", "math/bits.Sub64"], named := ["math/bits.divideError", "math/bits.overflowError"], apart := false, narrowed := true }
def ModnReckonsUptoSaid : Prop := modnReckonsUptoRow.holds Try.pinned (OpenSpec.upto modnReckonsSpec)

/-- 'clepsydralaw03.ModnPowers', WHERE WHAT IT READS IS OF BULK AT MOST 1048576: true; the input reads as it did. -/
def modnPowersUptoRow : OpenClaim := { program := "yteelppebdcgbpaa", sum := "bafaab3e40f5edaa0e4afc59118c8ef4e8dc3c7c3a7b87e3eaba6766c34f0742", func := "clepsydra/clepsydralaw03.ModnPowers", spec := "modnPowers", inPlace := ["math/bits.Add64", "math/bits.Sub64"], named := ["math/bits.divideError", "math/bits.overflowError"], apart := false, narrowed := true }
def ModnPowersUptoSaid : Prop := modnPowersUptoRow.holds Try.pinned (OpenSpec.upto modnPowersSpec)

/-- 'clepsydralaw03.ModnDivisors', WHERE WHAT IT READS IS OF BULK AT MOST 1048576: true; the input reads as it did. -/
def modnDivisorsUptoRow : OpenClaim := { program := "yteelppebdcgbpaa", sum := "bafaab3e40f5edaa0e4afc59118c8ef4e8dc3c7c3a7b87e3eaba6766c34f0742", func := "clepsydra/clepsydralaw03.ModnDivisors", spec := "modnDivisors", inPlace := ["math/bits.Add64", "math/bits.Sub64"], recurses := true, named := ["math/bits.divideError", "math/bits.overflowError"], apart := false, narrowed := true }
def ModnDivisorsUptoSaid : Prop := modnDivisorsUptoRow.holds Try.pinned (OpenSpec.upto modnDivisorsSpec)

/-- 'clepsydralaw03.ModnLaws', WHERE WHAT IT READS IS OF BULK AT MOST 1048576: true; the input reads as it did. -/
def modnLawsUptoRow : OpenClaim := { program := "yteelppebdcgbpaa", sum := "bafaab3e40f5edaa0e4afc59118c8ef4e8dc3c7c3a7b87e3eaba6766c34f0742", func := "clepsydra/clepsydralaw03.ModnLaws", spec := "modnLaws", inPlace := ["math/bits.Add64", "math/bits.Sub64"], named := ["math/bits.divideError", "math/bits.overflowError"], apart := false, narrowed := true }
def ModnLawsUptoSaid : Prop := modnLawsUptoRow.holds Try.pinned (OpenSpec.upto modnLawsSpec)

/-- 'clepsydralaw03.ModnBack', WHERE WHAT IT READS IS OF BULK AT MOST 1048576: true; the input reads as it did. -/
def modnBackUptoRow : OpenClaim := { program := "yteelppebdcgbpaa", sum := "bafaab3e40f5edaa0e4afc59118c8ef4e8dc3c7c3a7b87e3eaba6766c34f0742", func := "clepsydra/clepsydralaw03.ModnBack", spec := "modnBack", inPlace := ["math/bits.Add64", "math/bits.Sub64"], named := ["math/bits.divideError", "math/bits.overflowError"], apart := false, narrowed := true }
def ModnBackUptoSaid : Prop := modnBackUptoRow.holds Try.pinned (OpenSpec.upto modnBackSpec)

/-- 'clepsydralaw03.ModnCommon', WHERE WHAT IT READS IS OF BULK AT MOST 1048576: true; the input reads as it did. -/
def modnCommonUptoRow : OpenClaim := { program := "yteelppebdcgbpaa", sum := "bafaab3e40f5edaa0e4afc59118c8ef4e8dc3c7c3a7b87e3eaba6766c34f0742", func := "clepsydra/clepsydralaw03.ModnCommon", spec := "modnCommon", inPlace := ["math/bits.Add64", "math/bits.Sub64"], named := ["math/bits.divideError", "math/bits.overflowError"], apart := false, narrowed := true }
def ModnCommonUptoSaid : Prop := modnCommonUptoRow.holds Try.pinned (OpenSpec.upto modnCommonSpec)

/-- 'clepsydralaw03.ModnTells', WHERE WHAT IT READS IS OF BULK AT MOST 1048576: true; the input reads as it did. -/
def modnTellsUptoRow : OpenClaim := { program := "yteelppebdcgbpaa", sum := "bafaab3e40f5edaa0e4afc59118c8ef4e8dc3c7c3a7b87e3eaba6766c34f0742", func := "clepsydra/clepsydralaw03.ModnTells", spec := "modnTells", inPlace := ["math/bits.Add64", "math/bits.Sub64"], unfollowed := true, recurses := true, named := ["math/bits.divideError", "math/bits.overflowError"], apart := false, narrowed := true }
def ModnTellsUptoSaid : Prop := modnTellsUptoRow.holds Try.pinned (OpenSpec.upto modnTellsSpec)

/-- 'clepsydralaw03.ModnFermat', WHERE WHAT IT READS IS OF BULK AT MOST 1048576: true; the input reads as it did. -/
def modnFermatUptoRow : OpenClaim := { program := "yteelppebdcgbpaa", sum := "bafaab3e40f5edaa0e4afc59118c8ef4e8dc3c7c3a7b87e3eaba6766c34f0742", func := "clepsydra/clepsydralaw03.ModnFermat", spec := "modnFermat", inPlace := ["math/bits.Sub64", "math/bits.Add64"], unfollowed := true, recurses := true, named := ["math/bits.divideError", "math/bits.overflowError"], apart := false, narrowed := true }
def ModnFermatUptoSaid : Prop := modnFermatUptoRow.holds Try.pinned (OpenSpec.upto modnFermatSpec)

end Rows
end Go.Proofs.Yteelppebdcgbpaa
