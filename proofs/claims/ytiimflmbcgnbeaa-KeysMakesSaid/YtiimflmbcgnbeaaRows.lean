/-
  No cell of these rows narrows 'for every input' (looked for: loops, veiled, ifaces, maps, wideKeys, modest, calm, conditions, laid).
  DERIVED. THE GIVEN ROWS OF THIS SEAT. 14 by the template 'for every input the law returns true; each argument reads behind the call as it read before'; 0 by the template 'total and deterministic' (their statements: YtiimflmbcgnbeaaTotals.lean).
  GIVEN WITH THE SEED: the statements are not yours to turn. If you find one false, say at which input.
  Laid BY PROGRAM, IN A SANDBOX (cutbox-rows.mjs): the forced cells as the released guide's own fill.sh prints them over the translation 8339052d8ac007f6… (all of the seat's roots in one cut). By AI agents, Wed Nov 11 2026. No macro, syntax, notation, axiom, sorry.
-/
import Derived.Test.YtiimflmbcgnbeaaChecked
import GoSem.Claim
import GoSem.ClaimJoined
import GoSem.ClaimMapViews
import Derived.JoinedTies
import Derived.KernelRfl
namespace Go.Proofs.Ytiimflmbcgnbeaa
/- THE CELL 'sum', in the pinned program and in every row, IS THE sha256 OF THE DUMP (.gsa) THAT YtiimflmbcgnbeaaProg.lean LOADS. Nothing in Lean hashes anything: it is a label: what it is worth is what the hold of that sum in a sandbox is worth. -/
noncomputable def Try.pinned : Pinned := { name := "ytiimflmbcgnbeaa", sum := "8339052d8ac007f6c16d512cf84dbfd357364a2bbe43d4e63db67629e205c25d", checked := Try.checked }
namespace Rows
def none {H : Type} : Left H := { results := [], args := [] }

/-- 'clepsydralaw02.ShaSums': WHATEVER THE INPUT: true; the input reads as it did. -/
def shaSumsSpec : ChangeSpec := { name := "shaSums", fn := fun _ => fun
  | [d] => { results := [.lit (.bool true)], args := [d] }
  | _ => none }
def shaSumsRow : OpenClaim := { program := "ytiimflmbcgnbeaa", sum := "8339052d8ac007f6c16d512cf84dbfd357364a2bbe43d4e63db67629e205c25d", func := "clepsydra/clepsydralaw02.ShaSums", spec := "shaSums", unfollowed := true, recurses := true, apart := false }
def ShaSumsSaid : Prop := shaSumsRow.holds Try.pinned (OpenSpec.ofChange shaSumsSpec)

/-- ITS FALSE NEIGHBOUR: 'it returns false'. Refute it at one input. -/
def shaSumsWrong : ChangeSpec := { name := "shaSums", fn := fun _ => fun
  | [d] => { results := [.lit (.bool false)], args := [d] }
  | _ => none }
def ShaSumsWrongFalsely : Prop := shaSumsRow.holds Try.pinned (OpenSpec.ofChange shaSumsWrong)

/-- 'clepsydralaw02.ShaAsked': WHATEVER THE INPUT: true; the input reads as it did. -/
def shaAskedSpec : ChangeSpec := { name := "shaAsked", fn := fun _ => fun
  | [d1, d2, d3] => { results := [.lit (.bool true)], args := [d1, d2, d3] }
  | _ => none }
def shaAskedRow : OpenClaim := { program := "ytiimflmbcgnbeaa", sum := "8339052d8ac007f6c16d512cf84dbfd357364a2bbe43d4e63db67629e205c25d", func := "clepsydra/clepsydralaw02.ShaAsked", spec := "shaAsked", unfollowed := true, recurses := true, apart := false }
def ShaAskedSaid : Prop := shaAskedRow.holds Try.pinned (OpenSpec.ofChange shaAskedSpec)

/-- ITS FALSE NEIGHBOUR: 'it returns false'. Refute it at one input. -/
def shaAskedWrong : ChangeSpec := { name := "shaAsked", fn := fun _ => fun
  | [d1, d2, d3] => { results := [.lit (.bool false)], args := [d1, d2, d3] }
  | _ => none }
def ShaAskedWrongFalsely : Prop := shaAskedRow.holds Try.pinned (OpenSpec.ofChange shaAskedWrong)

/-- 'clepsydralaw02.ShaPieces': WHATEVER THE INPUT: true; the input reads as it did. -/
def shaPiecesSpec : ChangeSpec := { name := "shaPieces", fn := fun _ => fun
  | [d1, d2, d3] => { results := [.lit (.bool true)], args := [d1, d2, d3] }
  | _ => none }
def shaPiecesRow : OpenClaim := { program := "ytiimflmbcgnbeaa", sum := "8339052d8ac007f6c16d512cf84dbfd357364a2bbe43d4e63db67629e205c25d", func := "clepsydra/clepsydralaw02.ShaPieces", spec := "shaPieces", unfollowed := true, recurses := true, apart := false }
def ShaPiecesSaid : Prop := shaPiecesRow.holds Try.pinned (OpenSpec.ofChange shaPiecesSpec)

/-- ITS FALSE NEIGHBOUR: 'it returns false'. Refute it at one input. -/
def shaPiecesWrong : ChangeSpec := { name := "shaPieces", fn := fun _ => fun
  | [d1, d2, d3] => { results := [.lit (.bool false)], args := [d1, d2, d3] }
  | _ => none }
def ShaPiecesWrongFalsely : Prop := shaPiecesRow.holds Try.pinned (OpenSpec.ofChange shaPiecesWrong)

/-- 'clepsydralaw02.ShaTakes': WHATEVER THE INPUT: true; the input reads as it did. -/
def shaTakesSpec : ChangeSpec := { name := "shaTakes", fn := fun _ => fun
  | [d1, d2] => { results := [.lit (.bool true)], args := [d1, d2] }
  | _ => none }
def shaTakesRow : OpenClaim := { program := "ytiimflmbcgnbeaa", sum := "8339052d8ac007f6c16d512cf84dbfd357364a2bbe43d4e63db67629e205c25d", func := "clepsydra/clepsydralaw02.ShaTakes", spec := "shaTakes", unfollowed := true, recurses := true, apart := false }
def ShaTakesSaid : Prop := shaTakesRow.holds Try.pinned (OpenSpec.ofChange shaTakesSpec)

/-- ITS FALSE NEIGHBOUR: 'it returns false'. Refute it at one input. -/
def shaTakesWrong : ChangeSpec := { name := "shaTakes", fn := fun _ => fun
  | [d1, d2] => { results := [.lit (.bool false)], args := [d1, d2] }
  | _ => none }
def ShaTakesWrongFalsely : Prop := shaTakesRow.holds Try.pinned (OpenSpec.ofChange shaTakesWrong)

/-- 'clepsydralaw02.ShaNobody': WHATEVER THE INPUT: true; the input reads as it did. -/
def shaNobodySpec : ChangeSpec := { name := "shaNobody", fn := fun _ => fun
  | [d] => { results := [.lit (.bool true)], args := [d] }
  | _ => none }
def shaNobodyRow : OpenClaim := { program := "ytiimflmbcgnbeaa", sum := "8339052d8ac007f6c16d512cf84dbfd357364a2bbe43d4e63db67629e205c25d", func := "clepsydra/clepsydralaw02.ShaNobody", spec := "shaNobody", unfollowed := true, recurses := true, apart := false }
def ShaNobodySaid : Prop := shaNobodyRow.holds Try.pinned (OpenSpec.ofChange shaNobodySpec)

/-- ITS FALSE NEIGHBOUR: 'it returns false'. Refute it at one input. -/
def shaNobodyWrong : ChangeSpec := { name := "shaNobody", fn := fun _ => fun
  | [d] => { results := [.lit (.bool false)], args := [d] }
  | _ => none }
def ShaNobodyWrongFalsely : Prop := shaNobodyRow.holds Try.pinned (OpenSpec.ofChange shaNobodyWrong)

/-- 'clepsydralaw02.ShaKeyed': WHATEVER THE INPUT: true; the input reads as it did. -/
def shaKeyedSpec : ChangeSpec := { name := "shaKeyed", fn := fun _ => fun
  | [d1, d2, d3] => { results := [.lit (.bool true)], args := [d1, d2, d3] }
  | _ => none }
def shaKeyedRow : OpenClaim := { program := "ytiimflmbcgnbeaa", sum := "8339052d8ac007f6c16d512cf84dbfd357364a2bbe43d4e63db67629e205c25d", func := "clepsydra/clepsydralaw02.ShaKeyed", spec := "shaKeyed", unfollowed := true, recurses := true, apart := false }
def ShaKeyedSaid : Prop := shaKeyedRow.holds Try.pinned (OpenSpec.ofChange shaKeyedSpec)

/-- ITS FALSE NEIGHBOUR: 'it returns false'. Refute it at one input. -/
def shaKeyedWrong : ChangeSpec := { name := "shaKeyed", fn := fun _ => fun
  | [d1, d2, d3] => { results := [.lit (.bool false)], args := [d1, d2, d3] }
  | _ => none }
def ShaKeyedWrongFalsely : Prop := shaKeyedRow.holds Try.pinned (OpenSpec.ofChange shaKeyedWrong)

/-- 'clepsydralaw02.ShaExpands': WHATEVER THE INPUT: true; the input reads as it did. -/
def shaExpandsSpec : ChangeSpec := { name := "shaExpands", fn := fun _ => fun
  | [d1, d2] => { results := [.lit (.bool true)], args := [d1, d2] }
  | _ => none }
def shaExpandsRow : OpenClaim := { program := "ytiimflmbcgnbeaa", sum := "8339052d8ac007f6c16d512cf84dbfd357364a2bbe43d4e63db67629e205c25d", func := "clepsydra/clepsydralaw02.ShaExpands", spec := "shaExpands", unfollowed := true, recurses := true, apart := false }
def ShaExpandsSaid : Prop := shaExpandsRow.holds Try.pinned (OpenSpec.ofChange shaExpandsSpec)

/-- ITS FALSE NEIGHBOUR: 'it returns false'. Refute it at one input. -/
def shaExpandsWrong : ChangeSpec := { name := "shaExpands", fn := fun _ => fun
  | [d1, d2] => { results := [.lit (.bool false)], args := [d1, d2] }
  | _ => none }
def ShaExpandsWrongFalsely : Prop := shaExpandsRow.holds Try.pinned (OpenSpec.ofChange shaExpandsWrong)

/-- 'clepsydralaw02.ShaBegins': WHATEVER THE INPUT: true; the input reads as it did. -/
def shaBeginsSpec : ChangeSpec := { name := "shaBegins", fn := fun _ => fun
  | [d1, d2, d3] => { results := [.lit (.bool true)], args := [d1, d2, d3] }
  | _ => none }
def shaBeginsRow : OpenClaim := { program := "ytiimflmbcgnbeaa", sum := "8339052d8ac007f6c16d512cf84dbfd357364a2bbe43d4e63db67629e205c25d", func := "clepsydra/clepsydralaw02.ShaBegins", spec := "shaBegins", unfollowed := true, recurses := true, apart := false }
def ShaBeginsSaid : Prop := shaBeginsRow.holds Try.pinned (OpenSpec.ofChange shaBeginsSpec)

/-- ITS FALSE NEIGHBOUR: 'it returns false'. Refute it at one input. -/
def shaBeginsWrong : ChangeSpec := { name := "shaBegins", fn := fun _ => fun
  | [d1, d2, d3] => { results := [.lit (.bool false)], args := [d1, d2, d3] }
  | _ => none }
def ShaBeginsWrongFalsely : Prop := shaBeginsRow.holds Try.pinned (OpenSpec.ofChange shaBeginsWrong)

/-- 'clepsydralaw11.KeysLists': WHATEVER THE INPUT: true; the input reads as it did. -/
def keysListsSpec : ChangeSpec := { name := "keysLists", fn := fun _ => fun
  | [d1, d2, d3, d4, d5, d6, d7] => { results := [.lit (.bool true)], args := [d1, d2, d3, d4, d5, d6, d7] }
  | _ => none }
def keysListsRow : OpenClaim := { program := "ytiimflmbcgnbeaa", sum := "8339052d8ac007f6c16d512cf84dbfd357364a2bbe43d4e63db67629e205c25d", func := "clepsydra/clepsydralaw11.KeysLists", spec := "keysLists", unfollowed := true, recurses := true, apart := false }
def KeysListsSaid : Prop := keysListsRow.holds Try.pinned (OpenSpec.ofChange keysListsSpec)

/-- ITS FALSE NEIGHBOUR: 'it returns false'. Refute it at one input. -/
def keysListsWrong : ChangeSpec := { name := "keysLists", fn := fun _ => fun
  | [d1, d2, d3, d4, d5, d6, d7] => { results := [.lit (.bool false)], args := [d1, d2, d3, d4, d5, d6, d7] }
  | _ => none }
def KeysListsWrongFalsely : Prop := keysListsRow.holds Try.pinned (OpenSpec.ofChange keysListsWrong)

/-- 'clepsydralaw11.KeysLeads': WHATEVER THE INPUT: true; the input reads as it did. -/
def keysLeadsSpec : ChangeSpec := { name := "keysLeads", fn := fun _ => fun
  | [d1, d2, d3, d4, d5, d6, d7] => { results := [.lit (.bool true)], args := [d1, d2, d3, d4, d5, d6, d7] }
  | _ => none }
def keysLeadsRow : OpenClaim := { program := "ytiimflmbcgnbeaa", sum := "8339052d8ac007f6c16d512cf84dbfd357364a2bbe43d4e63db67629e205c25d", func := "clepsydra/clepsydralaw11.KeysLeads", spec := "keysLeads", unfollowed := true, recurses := true, apart := false }
def KeysLeadsSaid : Prop := keysLeadsRow.holds Try.pinned (OpenSpec.ofChange keysLeadsSpec)

/-- ITS FALSE NEIGHBOUR: 'it returns false'. Refute it at one input. -/
def keysLeadsWrong : ChangeSpec := { name := "keysLeads", fn := fun _ => fun
  | [d1, d2, d3, d4, d5, d6, d7] => { results := [.lit (.bool false)], args := [d1, d2, d3, d4, d5, d6, d7] }
  | _ => none }
def KeysLeadsWrongFalsely : Prop := keysLeadsRow.holds Try.pinned (OpenSpec.ofChange keysLeadsWrong)

/-- 'clepsydralaw11.KeysParts': WHATEVER THE INPUT: true; the input reads as it did. -/
def keysPartsSpec : ChangeSpec := { name := "keysParts", fn := fun _ => fun
  | [d1, d2, d3, d4, d5, d6] => { results := [.lit (.bool true)], args := [d1, d2, d3, d4, d5, d6] }
  | _ => none }
def keysPartsRow : OpenClaim := { program := "ytiimflmbcgnbeaa", sum := "8339052d8ac007f6c16d512cf84dbfd357364a2bbe43d4e63db67629e205c25d", func := "clepsydra/clepsydralaw11.KeysParts", spec := "keysParts", unfollowed := true, recurses := true, apart := false }
def KeysPartsSaid : Prop := keysPartsRow.holds Try.pinned (OpenSpec.ofChange keysPartsSpec)

/-- ITS FALSE NEIGHBOUR: 'it returns false'. Refute it at one input. -/
def keysPartsWrong : ChangeSpec := { name := "keysParts", fn := fun _ => fun
  | [d1, d2, d3, d4, d5, d6] => { results := [.lit (.bool false)], args := [d1, d2, d3, d4, d5, d6] }
  | _ => none }
def KeysPartsWrongFalsely : Prop := keysPartsRow.holds Try.pinned (OpenSpec.ofChange keysPartsWrong)

/-- 'clepsydralaw11.KeysSeals': WHATEVER THE INPUT: true; the input reads as it did. -/
def keysSealsSpec : ChangeSpec := { name := "keysSeals", fn := fun _ => fun
  | [d1, d2, d3, d4, d5, d6] => { results := [.lit (.bool true)], args := [d1, d2, d3, d4, d5, d6] }
  | _ => none }
def keysSealsRow : OpenClaim := { program := "ytiimflmbcgnbeaa", sum := "8339052d8ac007f6c16d512cf84dbfd357364a2bbe43d4e63db67629e205c25d", func := "clepsydra/clepsydralaw11.KeysSeals", spec := "keysSeals", unfollowed := true, recurses := true, apart := false }
def KeysSealsSaid : Prop := keysSealsRow.holds Try.pinned (OpenSpec.ofChange keysSealsSpec)

/-- ITS FALSE NEIGHBOUR: 'it returns false'. Refute it at one input. -/
def keysSealsWrong : ChangeSpec := { name := "keysSeals", fn := fun _ => fun
  | [d1, d2, d3, d4, d5, d6] => { results := [.lit (.bool false)], args := [d1, d2, d3, d4, d5, d6] }
  | _ => none }
def KeysSealsWrongFalsely : Prop := keysSealsRow.holds Try.pinned (OpenSpec.ofChange keysSealsWrong)

/-- 'clepsydralaw11.KeysSealed': WHATEVER THE INPUT: true; the input reads as it did. -/
def keysSealedSpec : ChangeSpec := { name := "keysSealed", fn := fun _ => fun
  | [d1, d2, d3, d4, d5, d6] => { results := [.lit (.bool true)], args := [d1, d2, d3, d4, d5, d6] }
  | _ => none }
def keysSealedRow : OpenClaim := { program := "ytiimflmbcgnbeaa", sum := "8339052d8ac007f6c16d512cf84dbfd357364a2bbe43d4e63db67629e205c25d", func := "clepsydra/clepsydralaw11.KeysSealed", spec := "keysSealed", unfollowed := true, recurses := true, apart := false }
def KeysSealedSaid : Prop := keysSealedRow.holds Try.pinned (OpenSpec.ofChange keysSealedSpec)

/-- ITS FALSE NEIGHBOUR: 'it returns false'. Refute it at one input. -/
def keysSealedWrong : ChangeSpec := { name := "keysSealed", fn := fun _ => fun
  | [d1, d2, d3, d4, d5, d6] => { results := [.lit (.bool false)], args := [d1, d2, d3, d4, d5, d6] }
  | _ => none }
def KeysSealedWrongFalsely : Prop := keysSealedRow.holds Try.pinned (OpenSpec.ofChange keysSealedWrong)

/-- 'clepsydralaw11.KeysMakes': WHATEVER THE INPUT: true; the input reads as it did. -/
def keysMakesSpec : ChangeSpec := { name := "keysMakes", fn := fun _ => fun
  | [d1, d2, d3, d4, d5] => { results := [.lit (.bool true)], args := [d1, d2, d3, d4, d5] }
  | _ => none }
def keysMakesRow : OpenClaim := { program := "ytiimflmbcgnbeaa", sum := "8339052d8ac007f6c16d512cf84dbfd357364a2bbe43d4e63db67629e205c25d", func := "clepsydra/clepsydralaw11.KeysMakes", spec := "keysMakes", unfollowed := true, recurses := true, apart := false }
def KeysMakesSaid : Prop := keysMakesRow.holds Try.pinned (OpenSpec.ofChange keysMakesSpec)

/-- ITS FALSE NEIGHBOUR: 'it returns false'. Refute it at one input. -/
def keysMakesWrong : ChangeSpec := { name := "keysMakes", fn := fun _ => fun
  | [d1, d2, d3, d4, d5] => { results := [.lit (.bool false)], args := [d1, d2, d3, d4, d5] }
  | _ => none }
def KeysMakesWrongFalsely : Prop := keysMakesRow.holds Try.pinned (OpenSpec.ofChange keysMakesWrong)

/- THE SECOND FORM. 'bulk': how many values and letters a reading holds, each counted each time it is reached (what is shared counts as often as it is met; a slice's spare places count too). A statement '..UptoSaid' is the law's where the arguments, and the package variables that the reading takes, are together of bulk at most 1048576: NARROWER than '..Said'. Prove '..Said' where nothing that the law and all that it calls make is longer than what came in: it says more and counts as full. Else prove '..UptoSaid'. A law counts once. -/
mutual
def uptoBulk {H : Type} : DataW H → Nat
  | .lit (.string bytes) => bytes.length + 1
  | .lit _ => 1
  | .nil => 1
  | .ptr d => uptoBulk d + 1
  | .slice elems spare => uptoBulkAll elems + uptoBulkAll spare + 1
  | .agg parts => uptoBulkAll parts + 1
  | .iface _ d => uptoBulk d + 1
  | .map entries => uptoBulkEntries entries + 1
  | .held _ => 1
def uptoBulkAll {H : Type} : List (DataW H) → Nat
  | [] => 0
  | d :: r => uptoBulk d + uptoBulkAll r
def uptoBulkEntries {H : Type} : List (Lit × DataW H) → Nat
  | [] => 0
  | x :: r => uptoBulkEntry x + uptoBulkEntries r
def uptoBulkEntry {H : Type} : Lit × DataW H → Nat
  | (.string bytes, d) => bytes.length + uptoBulk d + 1
  | (_, d) => uptoBulk d + 1
 end
def uptoSmall : (H : Type) → List (DataW H) → Bool := fun _ ds => decide (uptoBulkAll ds ≤ 1048576)
def OpenSpec.upto (s : _root_.Go.ChangeSpec) : _root_.Go.OpenSpec := { _root_.Go.OpenSpec.ofChange s with cond := some uptoSmall }

/-- 'clepsydralaw02.ShaSums', WHERE WHAT IT READS IS OF BULK AT MOST 1048576: true; the input reads as it did. -/
def shaSumsUptoRow : OpenClaim := { program := "ytiimflmbcgnbeaa", sum := "8339052d8ac007f6c16d512cf84dbfd357364a2bbe43d4e63db67629e205c25d", func := "clepsydra/clepsydralaw02.ShaSums", spec := "shaSums", unfollowed := true, recurses := true, apart := false, narrowed := true }
def ShaSumsUptoSaid : Prop := shaSumsUptoRow.holds Try.pinned (OpenSpec.upto shaSumsSpec)

/-- 'clepsydralaw02.ShaAsked', WHERE WHAT IT READS IS OF BULK AT MOST 1048576: true; the input reads as it did. -/
def shaAskedUptoRow : OpenClaim := { program := "ytiimflmbcgnbeaa", sum := "8339052d8ac007f6c16d512cf84dbfd357364a2bbe43d4e63db67629e205c25d", func := "clepsydra/clepsydralaw02.ShaAsked", spec := "shaAsked", unfollowed := true, recurses := true, apart := false, narrowed := true }
def ShaAskedUptoSaid : Prop := shaAskedUptoRow.holds Try.pinned (OpenSpec.upto shaAskedSpec)

/-- 'clepsydralaw02.ShaPieces', WHERE WHAT IT READS IS OF BULK AT MOST 1048576: true; the input reads as it did. -/
def shaPiecesUptoRow : OpenClaim := { program := "ytiimflmbcgnbeaa", sum := "8339052d8ac007f6c16d512cf84dbfd357364a2bbe43d4e63db67629e205c25d", func := "clepsydra/clepsydralaw02.ShaPieces", spec := "shaPieces", unfollowed := true, recurses := true, apart := false, narrowed := true }
def ShaPiecesUptoSaid : Prop := shaPiecesUptoRow.holds Try.pinned (OpenSpec.upto shaPiecesSpec)

/-- 'clepsydralaw02.ShaTakes', WHERE WHAT IT READS IS OF BULK AT MOST 1048576: true; the input reads as it did. -/
def shaTakesUptoRow : OpenClaim := { program := "ytiimflmbcgnbeaa", sum := "8339052d8ac007f6c16d512cf84dbfd357364a2bbe43d4e63db67629e205c25d", func := "clepsydra/clepsydralaw02.ShaTakes", spec := "shaTakes", unfollowed := true, recurses := true, apart := false, narrowed := true }
def ShaTakesUptoSaid : Prop := shaTakesUptoRow.holds Try.pinned (OpenSpec.upto shaTakesSpec)

/-- 'clepsydralaw02.ShaNobody', WHERE WHAT IT READS IS OF BULK AT MOST 1048576: true; the input reads as it did. -/
def shaNobodyUptoRow : OpenClaim := { program := "ytiimflmbcgnbeaa", sum := "8339052d8ac007f6c16d512cf84dbfd357364a2bbe43d4e63db67629e205c25d", func := "clepsydra/clepsydralaw02.ShaNobody", spec := "shaNobody", unfollowed := true, recurses := true, apart := false, narrowed := true }
def ShaNobodyUptoSaid : Prop := shaNobodyUptoRow.holds Try.pinned (OpenSpec.upto shaNobodySpec)

/-- 'clepsydralaw02.ShaKeyed', WHERE WHAT IT READS IS OF BULK AT MOST 1048576: true; the input reads as it did. -/
def shaKeyedUptoRow : OpenClaim := { program := "ytiimflmbcgnbeaa", sum := "8339052d8ac007f6c16d512cf84dbfd357364a2bbe43d4e63db67629e205c25d", func := "clepsydra/clepsydralaw02.ShaKeyed", spec := "shaKeyed", unfollowed := true, recurses := true, apart := false, narrowed := true }
def ShaKeyedUptoSaid : Prop := shaKeyedUptoRow.holds Try.pinned (OpenSpec.upto shaKeyedSpec)

/-- 'clepsydralaw02.ShaExpands', WHERE WHAT IT READS IS OF BULK AT MOST 1048576: true; the input reads as it did. -/
def shaExpandsUptoRow : OpenClaim := { program := "ytiimflmbcgnbeaa", sum := "8339052d8ac007f6c16d512cf84dbfd357364a2bbe43d4e63db67629e205c25d", func := "clepsydra/clepsydralaw02.ShaExpands", spec := "shaExpands", unfollowed := true, recurses := true, apart := false, narrowed := true }
def ShaExpandsUptoSaid : Prop := shaExpandsUptoRow.holds Try.pinned (OpenSpec.upto shaExpandsSpec)

/-- 'clepsydralaw02.ShaBegins', WHERE WHAT IT READS IS OF BULK AT MOST 1048576: true; the input reads as it did. -/
def shaBeginsUptoRow : OpenClaim := { program := "ytiimflmbcgnbeaa", sum := "8339052d8ac007f6c16d512cf84dbfd357364a2bbe43d4e63db67629e205c25d", func := "clepsydra/clepsydralaw02.ShaBegins", spec := "shaBegins", unfollowed := true, recurses := true, apart := false, narrowed := true }
def ShaBeginsUptoSaid : Prop := shaBeginsUptoRow.holds Try.pinned (OpenSpec.upto shaBeginsSpec)

/-- 'clepsydralaw11.KeysLists', WHERE WHAT IT READS IS OF BULK AT MOST 1048576: true; the input reads as it did. -/
def keysListsUptoRow : OpenClaim := { program := "ytiimflmbcgnbeaa", sum := "8339052d8ac007f6c16d512cf84dbfd357364a2bbe43d4e63db67629e205c25d", func := "clepsydra/clepsydralaw11.KeysLists", spec := "keysLists", unfollowed := true, recurses := true, apart := false, narrowed := true }
def KeysListsUptoSaid : Prop := keysListsUptoRow.holds Try.pinned (OpenSpec.upto keysListsSpec)

/-- 'clepsydralaw11.KeysLeads', WHERE WHAT IT READS IS OF BULK AT MOST 1048576: true; the input reads as it did. -/
def keysLeadsUptoRow : OpenClaim := { program := "ytiimflmbcgnbeaa", sum := "8339052d8ac007f6c16d512cf84dbfd357364a2bbe43d4e63db67629e205c25d", func := "clepsydra/clepsydralaw11.KeysLeads", spec := "keysLeads", unfollowed := true, recurses := true, apart := false, narrowed := true }
def KeysLeadsUptoSaid : Prop := keysLeadsUptoRow.holds Try.pinned (OpenSpec.upto keysLeadsSpec)

/-- 'clepsydralaw11.KeysParts', WHERE WHAT IT READS IS OF BULK AT MOST 1048576: true; the input reads as it did. -/
def keysPartsUptoRow : OpenClaim := { program := "ytiimflmbcgnbeaa", sum := "8339052d8ac007f6c16d512cf84dbfd357364a2bbe43d4e63db67629e205c25d", func := "clepsydra/clepsydralaw11.KeysParts", spec := "keysParts", unfollowed := true, recurses := true, apart := false, narrowed := true }
def KeysPartsUptoSaid : Prop := keysPartsUptoRow.holds Try.pinned (OpenSpec.upto keysPartsSpec)

/-- 'clepsydralaw11.KeysSeals', WHERE WHAT IT READS IS OF BULK AT MOST 1048576: true; the input reads as it did. -/
def keysSealsUptoRow : OpenClaim := { program := "ytiimflmbcgnbeaa", sum := "8339052d8ac007f6c16d512cf84dbfd357364a2bbe43d4e63db67629e205c25d", func := "clepsydra/clepsydralaw11.KeysSeals", spec := "keysSeals", unfollowed := true, recurses := true, apart := false, narrowed := true }
def KeysSealsUptoSaid : Prop := keysSealsUptoRow.holds Try.pinned (OpenSpec.upto keysSealsSpec)

/-- 'clepsydralaw11.KeysSealed', WHERE WHAT IT READS IS OF BULK AT MOST 1048576: true; the input reads as it did. -/
def keysSealedUptoRow : OpenClaim := { program := "ytiimflmbcgnbeaa", sum := "8339052d8ac007f6c16d512cf84dbfd357364a2bbe43d4e63db67629e205c25d", func := "clepsydra/clepsydralaw11.KeysSealed", spec := "keysSealed", unfollowed := true, recurses := true, apart := false, narrowed := true }
def KeysSealedUptoSaid : Prop := keysSealedUptoRow.holds Try.pinned (OpenSpec.upto keysSealedSpec)

/-- 'clepsydralaw11.KeysMakes', WHERE WHAT IT READS IS OF BULK AT MOST 1048576: true; the input reads as it did. -/
def keysMakesUptoRow : OpenClaim := { program := "ytiimflmbcgnbeaa", sum := "8339052d8ac007f6c16d512cf84dbfd357364a2bbe43d4e63db67629e205c25d", func := "clepsydra/clepsydralaw11.KeysMakes", spec := "keysMakes", unfollowed := true, recurses := true, apart := false, narrowed := true }
def KeysMakesUptoSaid : Prop := keysMakesUptoRow.holds Try.pinned (OpenSpec.upto keysMakesSpec)

end Rows
end Go.Proofs.Ytiimflmbcgnbeaa
