/-
  No cell of these rows narrows 'for every input' (looked for: loops, veiled, ifaces, maps, wideKeys, modest, calm, conditions, laid).
  DERIVED. THE GIVEN ROWS OF THIS SEAT. 4 by the template 'for every input the law returns true; each argument reads behind the call as it read before'; 0 by the template 'total and deterministic' (their statements: YtkmabfdnekphnaaTotals.lean).
  GIVEN WITH THE SEED: the statements are not yours to turn. If you find one false, say at which input.
  Laid BY PROGRAM, IN A SANDBOX (cutbox-rows.mjs): the forced cells as the released guide's own fill.sh prints them over the translation e1fd0c4368a5199a… (all of the seat's roots in one cut). By AI agents, Wed Nov 11 2026. No macro, syntax, notation, axiom, sorry.
-/
import Derived.Test.YtkmabfdnekphnaaChecked
import GoSem.Claim
import GoSem.ClaimJoined
import GoSem.ClaimMapViews
import Derived.JoinedTies
import Derived.KernelRfl
namespace Go.Proofs.Ytkmabfdnekphnaa
/- THE CELL 'sum', in the pinned program and in every row, IS THE sha256 OF THE DUMP (.gsa) THAT YtkmabfdnekphnaaProg.lean LOADS. Nothing in Lean hashes anything: it is a label: what it is worth is what the hold of that sum in a sandbox is worth. -/
noncomputable def Try.pinned : Pinned := { name := "ytkmabfdnekphnaa", sum := "e1fd0c4368a5199ad80ee5fdbd60909a7bb285e2a8bdec133e80cd00c0aed995", checked := Try.checked }
namespace Rows
def none {H : Type} : Left H := { results := [], args := [] }

/-- 'clepsydralaw12.ValuesOrder': WHATEVER THE INPUT: true; the input reads as it did. -/
def valuesOrderSpec : ChangeSpec := { name := "valuesOrder", fn := fun _ => fun
  | [d1, d2, d3] => { results := [.lit (.bool true)], args := [d1, d2, d3] }
  | _ => none }
def valuesOrderRow : OpenClaim := { program := "ytkmabfdnekphnaa", sum := "e1fd0c4368a5199ad80ee5fdbd60909a7bb285e2a8bdec133e80cd00c0aed995", func := "clepsydra/clepsydralaw12.ValuesOrder", spec := "valuesOrder", apart := false }
def ValuesOrderSaid : Prop := valuesOrderRow.holds Try.pinned (OpenSpec.ofChange valuesOrderSpec)

/-- ITS FALSE NEIGHBOUR: 'it returns false'. Refute it at one input. -/
def valuesOrderWrong : ChangeSpec := { name := "valuesOrder", fn := fun _ => fun
  | [d1, d2, d3] => { results := [.lit (.bool false)], args := [d1, d2, d3] }
  | _ => none }
def ValuesOrderWrongFalsely : Prop := valuesOrderRow.holds Try.pinned (OpenSpec.ofChange valuesOrderWrong)

/-- 'clepsydralaw12.ValuesNewest': WHATEVER THE INPUT: true; the input reads as it did. -/
def valuesNewestSpec : ChangeSpec := { name := "valuesNewest", fn := fun _ => fun
  | [d1, d2] => { results := [.lit (.bool true)], args := [d1, d2] }
  | _ => none }
def valuesNewestRow : OpenClaim := { program := "ytkmabfdnekphnaa", sum := "e1fd0c4368a5199ad80ee5fdbd60909a7bb285e2a8bdec133e80cd00c0aed995", func := "clepsydra/clepsydralaw12.ValuesNewest", spec := "valuesNewest", apart := false }
def ValuesNewestSaid : Prop := valuesNewestRow.holds Try.pinned (OpenSpec.ofChange valuesNewestSpec)

/-- ITS FALSE NEIGHBOUR: 'it returns false'. Refute it at one input. -/
def valuesNewestWrong : ChangeSpec := { name := "valuesNewest", fn := fun _ => fun
  | [d1, d2] => { results := [.lit (.bool false)], args := [d1, d2] }
  | _ => none }
def ValuesNewestWrongFalsely : Prop := valuesNewestRow.holds Try.pinned (OpenSpec.ofChange valuesNewestWrong)

/-- 'clepsydralaw12.ValuesKeeps': WHATEVER THE INPUT: true; the input reads as it did. -/
def valuesKeepsSpec : ChangeSpec := { name := "valuesKeeps", fn := fun _ => fun
  | [d1, d2] => { results := [.lit (.bool true)], args := [d1, d2] }
  | _ => none }
def valuesKeepsRow : OpenClaim := { program := "ytkmabfdnekphnaa", sum := "e1fd0c4368a5199ad80ee5fdbd60909a7bb285e2a8bdec133e80cd00c0aed995", func := "clepsydra/clepsydralaw12.ValuesKeeps", spec := "valuesKeeps", recurses := true, apart := false }
def ValuesKeepsSaid : Prop := valuesKeepsRow.holds Try.pinned (OpenSpec.ofChange valuesKeepsSpec)

/-- ITS FALSE NEIGHBOUR: 'it returns false'. Refute it at one input. -/
def valuesKeepsWrong : ChangeSpec := { name := "valuesKeeps", fn := fun _ => fun
  | [d1, d2] => { results := [.lit (.bool false)], args := [d1, d2] }
  | _ => none }
def ValuesKeepsWrongFalsely : Prop := valuesKeepsRow.holds Try.pinned (OpenSpec.ofChange valuesKeepsWrong)

/-- 'clepsydralaw12.ValuesPairs': WHATEVER THE INPUT: true; the input reads as it did. -/
def valuesPairsSpec : ChangeSpec := { name := "valuesPairs", fn := fun _ => fun
  | [d1, d2, d3, d4] => { results := [.lit (.bool true)], args := [d1, d2, d3, d4] }
  | _ => none }
def valuesPairsRow : OpenClaim := { program := "ytkmabfdnekphnaa", sum := "e1fd0c4368a5199ad80ee5fdbd60909a7bb285e2a8bdec133e80cd00c0aed995", func := "clepsydra/clepsydralaw12.ValuesPairs", spec := "valuesPairs", recurses := true, apart := false }
def ValuesPairsSaid : Prop := valuesPairsRow.holds Try.pinned (OpenSpec.ofChange valuesPairsSpec)

/-- ITS FALSE NEIGHBOUR: 'it returns false'. Refute it at one input. -/
def valuesPairsWrong : ChangeSpec := { name := "valuesPairs", fn := fun _ => fun
  | [d1, d2, d3, d4] => { results := [.lit (.bool false)], args := [d1, d2, d3, d4] }
  | _ => none }
def ValuesPairsWrongFalsely : Prop := valuesPairsRow.holds Try.pinned (OpenSpec.ofChange valuesPairsWrong)

/- THE SECOND FORM. 'bulk': how many values and letters a reading holds, each counted each time it is reached (what is shared counts as often as it is met; a slice's spare places count too). A statement '..UptoSaid' is the law's where the arguments, and the package variables that the reading takes, are together of bulk at most 1048576: NARROWER than '..Said'. Prove '..Said' where nothing that the law and all that it calls make is longer than what came in: it says more and counts as full. Else prove '..UptoSaid'. A law counts once. -/
mutual
def uptoBulk {H : Type} : DataW H → Nat
  | .lit (.string bytes) => bytes.length + 1
  | .lit _ => 1
  | .nil => 1
  | .ptr d => uptoBulk d + 1
  | .slice elems spare => uptoBulkAll elems + uptoBulkAll spare + 1
  | .agg parts => uptoBulkAll parts + 1
  | .iface _ d => uptoBulk d + 1
  | .map entries => uptoBulkEntries entries + 1
  | .held _ => 1
def uptoBulkAll {H : Type} : List (DataW H) → Nat
  | [] => 0
  | d :: r => uptoBulk d + uptoBulkAll r
def uptoBulkEntries {H : Type} : List (Lit × DataW H) → Nat
  | [] => 0
  | x :: r => uptoBulkEntry x + uptoBulkEntries r
def uptoBulkEntry {H : Type} : Lit × DataW H → Nat
  | (.string bytes, d) => bytes.length + uptoBulk d + 1
  | (_, d) => uptoBulk d + 1
 end
def uptoSmall : (H : Type) → List (DataW H) → Bool := fun _ ds => decide (uptoBulkAll ds ≤ 1048576)
def OpenSpec.upto (s : _root_.Go.ChangeSpec) : _root_.Go.OpenSpec := { _root_.Go.OpenSpec.ofChange s with cond := some uptoSmall }

/-- 'clepsydralaw12.ValuesOrder', WHERE WHAT IT READS IS OF BULK AT MOST 1048576: true; the input reads as it did. -/
def valuesOrderUptoRow : OpenClaim := { program := "ytkmabfdnekphnaa", sum := "e1fd0c4368a5199ad80ee5fdbd60909a7bb285e2a8bdec133e80cd00c0aed995", func := "clepsydra/clepsydralaw12.ValuesOrder", spec := "valuesOrder", apart := false, narrowed := true }
def ValuesOrderUptoSaid : Prop := valuesOrderUptoRow.holds Try.pinned (OpenSpec.upto valuesOrderSpec)

/-- 'clepsydralaw12.ValuesNewest', WHERE WHAT IT READS IS OF BULK AT MOST 1048576: true; the input reads as it did. -/
def valuesNewestUptoRow : OpenClaim := { program := "ytkmabfdnekphnaa", sum := "e1fd0c4368a5199ad80ee5fdbd60909a7bb285e2a8bdec133e80cd00c0aed995", func := "clepsydra/clepsydralaw12.ValuesNewest", spec := "valuesNewest", apart := false, narrowed := true }
def ValuesNewestUptoSaid : Prop := valuesNewestUptoRow.holds Try.pinned (OpenSpec.upto valuesNewestSpec)

/-- 'clepsydralaw12.ValuesKeeps', WHERE WHAT IT READS IS OF BULK AT MOST 1048576: true; the input reads as it did. -/
def valuesKeepsUptoRow : OpenClaim := { program := "ytkmabfdnekphnaa", sum := "e1fd0c4368a5199ad80ee5fdbd60909a7bb285e2a8bdec133e80cd00c0aed995", func := "clepsydra/clepsydralaw12.ValuesKeeps", spec := "valuesKeeps", recurses := true, apart := false, narrowed := true }
def ValuesKeepsUptoSaid : Prop := valuesKeepsUptoRow.holds Try.pinned (OpenSpec.upto valuesKeepsSpec)

/-- 'clepsydralaw12.ValuesPairs', WHERE WHAT IT READS IS OF BULK AT MOST 1048576: true; the input reads as it did. -/
def valuesPairsUptoRow : OpenClaim := { program := "ytkmabfdnekphnaa", sum := "e1fd0c4368a5199ad80ee5fdbd60909a7bb285e2a8bdec133e80cd00c0aed995", func := "clepsydra/clepsydralaw12.ValuesPairs", spec := "valuesPairs", recurses := true, apart := false, narrowed := true }
def ValuesPairsUptoSaid : Prop := valuesPairsUptoRow.holds Try.pinned (OpenSpec.upto valuesPairsSpec)

end Rows
end Go.Proofs.Ytkmabfdnekphnaa
