/-
  No cell of these rows narrows 'for every input' (looked for: loops, veiled, ifaces, maps, wideKeys, modest, calm, conditions, laid).
  DERIVED. THE GIVEN ROWS OF THIS SEAT. 6 by the template 'for every input the law returns true; each argument reads behind the call as it read before'; 0 by the template 'total and deterministic' (their statements: YtjcoeianmihojaaTotals.lean).
  GIVEN WITH THE SEED: the statements are not yours to turn. If you find one false, say at which input.
  Laid BY PROGRAM, IN A SANDBOX (cutbox-rows.mjs): the forced cells as the released guide's own fill.sh prints them over the translation f13844db14ad84a8… (all of the seat's roots in one cut). By AI agents, Wed Nov 11 2026. No macro, syntax, notation, axiom, sorry.
-/
import Derived.Test.YtjcoeianmihojaaChecked
import GoSem.Claim
import GoSem.ClaimJoined
import GoSem.ClaimMapViews
import Derived.JoinedTies
import Derived.KernelRfl
namespace Go.Proofs.Ytjcoeianmihojaa
/- THE CELL 'sum', in the pinned program and in every row, IS THE sha256 OF THE DUMP (.gsa) THAT YtjcoeianmihojaaProg.lean LOADS. Nothing in Lean hashes anything: it is a label: what it is worth is what the hold of that sum in a sandbox is worth. -/
noncomputable def Try.pinned : Pinned := { name := "ytjcoeianmihojaa", sum := "f13844db14ad84a86a0167fe5584ef65f64428772fcce5fbcb6cf10facea4ca7", checked := Try.checked }
namespace Rows
def none {H : Type} : Left H := { results := [], args := [] }

/-- 'clepsydralaw16.DiscSlews': WHATEVER THE INPUT: true; the input reads as it did. -/
def discSlewsSpec : ChangeSpec := { name := "discSlews", fn := fun _ => fun
  | [d1, d2] => { results := [.lit (.bool true)], args := [d1, d2] }
  | _ => none }
def discSlewsRow : OpenClaim := { program := "ytjcoeianmihojaa", sum := "f13844db14ad84a86a0167fe5584ef65f64428772fcce5fbcb6cf10facea4ca7", func := "clepsydra/clepsydralaw16.DiscSlews", spec := "discSlews", apart := false }
def DiscSlewsSaid : Prop := discSlewsRow.holds Try.pinned (OpenSpec.ofChange discSlewsSpec)

/-- ITS FALSE NEIGHBOUR: 'it returns false'. Refute it at one input. -/
def discSlewsWrong : ChangeSpec := { name := "discSlews", fn := fun _ => fun
  | [d1, d2] => { results := [.lit (.bool false)], args := [d1, d2] }
  | _ => none }
def DiscSlewsWrongFalsely : Prop := discSlewsRow.holds Try.pinned (OpenSpec.ofChange discSlewsWrong)

/-- 'clepsydralaw16.DiscBounds': WHATEVER THE INPUT: true; the input reads as it did. -/
def discBoundsSpec : ChangeSpec := { name := "discBounds", fn := fun _ => fun
  | [d1, d2, d3] => { results := [.lit (.bool true)], args := [d1, d2, d3] }
  | _ => none }
def discBoundsRow : OpenClaim := { program := "ytjcoeianmihojaa", sum := "f13844db14ad84a86a0167fe5584ef65f64428772fcce5fbcb6cf10facea4ca7", func := "clepsydra/clepsydralaw16.DiscBounds", spec := "discBounds", apart := false }
def DiscBoundsSaid : Prop := discBoundsRow.holds Try.pinned (OpenSpec.ofChange discBoundsSpec)

/-- ITS FALSE NEIGHBOUR: 'it returns false'. Refute it at one input. -/
def discBoundsWrong : ChangeSpec := { name := "discBounds", fn := fun _ => fun
  | [d1, d2, d3] => { results := [.lit (.bool false)], args := [d1, d2, d3] }
  | _ => none }
def DiscBoundsWrongFalsely : Prop := discBoundsRow.holds Try.pinned (OpenSpec.ofChange discBoundsWrong)

/-- 'clepsydralaw16.DiscMoves': WHATEVER THE INPUT: true; the input reads as it did. -/
def discMovesSpec : ChangeSpec := { name := "discMoves", fn := fun _ => fun
  | [d1, d2] => { results := [.lit (.bool true)], args := [d1, d2] }
  | _ => none }
def discMovesRow : OpenClaim := { program := "ytjcoeianmihojaa", sum := "f13844db14ad84a86a0167fe5584ef65f64428772fcce5fbcb6cf10facea4ca7", func := "clepsydra/clepsydralaw16.DiscMoves", spec := "discMoves", apart := false }
def DiscMovesSaid : Prop := discMovesRow.holds Try.pinned (OpenSpec.ofChange discMovesSpec)

/-- ITS FALSE NEIGHBOUR: 'it returns false'. Refute it at one input. -/
def discMovesWrong : ChangeSpec := { name := "discMoves", fn := fun _ => fun
  | [d1, d2] => { results := [.lit (.bool false)], args := [d1, d2] }
  | _ => none }
def DiscMovesWrongFalsely : Prop := discMovesRow.holds Try.pinned (OpenSpec.ofChange discMovesWrong)

/-- 'clepsydralaw16.DiscParts': WHATEVER THE INPUT: true; the input reads as it did. -/
def discPartsSpec : ChangeSpec := { name := "discParts", fn := fun _ => fun
  | [d1, d2, d3] => { results := [.lit (.bool true)], args := [d1, d2, d3] }
  | _ => none }
def discPartsRow : OpenClaim := { program := "ytjcoeianmihojaa", sum := "f13844db14ad84a86a0167fe5584ef65f64428772fcce5fbcb6cf10facea4ca7", func := "clepsydra/clepsydralaw16.DiscParts", spec := "discParts", apart := false }
def DiscPartsSaid : Prop := discPartsRow.holds Try.pinned (OpenSpec.ofChange discPartsSpec)

/-- ITS FALSE NEIGHBOUR: 'it returns false'. Refute it at one input. -/
def discPartsWrong : ChangeSpec := { name := "discParts", fn := fun _ => fun
  | [d1, d2, d3] => { results := [.lit (.bool false)], args := [d1, d2, d3] }
  | _ => none }
def DiscPartsWrongFalsely : Prop := discPartsRow.holds Try.pinned (OpenSpec.ofChange discPartsWrong)

/-- 'clepsydralaw16.DiscTurned': WHATEVER THE INPUT: true; the input reads as it did. -/
def discTurnedSpec : ChangeSpec := { name := "discTurned", fn := fun _ => fun
  | [d1, d2, d3, d4] => { results := [.lit (.bool true)], args := [d1, d2, d3, d4] }
  | _ => none }
def discTurnedRow : OpenClaim := { program := "ytjcoeianmihojaa", sum := "f13844db14ad84a86a0167fe5584ef65f64428772fcce5fbcb6cf10facea4ca7", func := "clepsydra/clepsydralaw16.DiscTurned", spec := "discTurned", apart := false }
def DiscTurnedSaid : Prop := discTurnedRow.holds Try.pinned (OpenSpec.ofChange discTurnedSpec)

/-- ITS FALSE NEIGHBOUR: 'it returns false'. Refute it at one input. -/
def discTurnedWrong : ChangeSpec := { name := "discTurned", fn := fun _ => fun
  | [d1, d2, d3, d4] => { results := [.lit (.bool false)], args := [d1, d2, d3, d4] }
  | _ => none }
def DiscTurnedWrongFalsely : Prop := discTurnedRow.holds Try.pinned (OpenSpec.ofChange discTurnedWrong)

/-- 'clepsydralaw16.DiscGone': WHATEVER THE INPUT: true; the input reads as it did. -/
def discGoneSpec : ChangeSpec := { name := "discGone", fn := fun _ => fun
  | [d1, d2, d3] => { results := [.lit (.bool true)], args := [d1, d2, d3] }
  | _ => none }
def discGoneRow : OpenClaim := { program := "ytjcoeianmihojaa", sum := "f13844db14ad84a86a0167fe5584ef65f64428772fcce5fbcb6cf10facea4ca7", func := "clepsydra/clepsydralaw16.DiscGone", spec := "discGone", apart := false }
def DiscGoneSaid : Prop := discGoneRow.holds Try.pinned (OpenSpec.ofChange discGoneSpec)

/-- ITS FALSE NEIGHBOUR: 'it returns false'. Refute it at one input. -/
def discGoneWrong : ChangeSpec := { name := "discGone", fn := fun _ => fun
  | [d1, d2, d3] => { results := [.lit (.bool false)], args := [d1, d2, d3] }
  | _ => none }
def DiscGoneWrongFalsely : Prop := discGoneRow.holds Try.pinned (OpenSpec.ofChange discGoneWrong)

/- THE SECOND FORM. 'bulk': how many values and letters a reading holds, each counted each time it is reached (what is shared counts as often as it is met; a slice's spare places count too). A statement '..UptoSaid' is the law's where the arguments, and the package variables that the reading takes, are together of bulk at most 1048576: NARROWER than '..Said'. Prove '..Said' where nothing that the law and all that it calls make is longer than what came in: it says more and counts as full. Else prove '..UptoSaid'. A law counts once. -/
mutual
def uptoBulk {H : Type} : DataW H → Nat
  | .lit (.string bytes) => bytes.length + 1
  | .lit _ => 1
  | .nil => 1
  | .ptr d => uptoBulk d + 1
  | .slice elems spare => uptoBulkAll elems + uptoBulkAll spare + 1
  | .agg parts => uptoBulkAll parts + 1
  | .iface _ d => uptoBulk d + 1
  | .map entries => uptoBulkEntries entries + 1
  | .held _ => 1
def uptoBulkAll {H : Type} : List (DataW H) → Nat
  | [] => 0
  | d :: r => uptoBulk d + uptoBulkAll r
def uptoBulkEntries {H : Type} : List (Lit × DataW H) → Nat
  | [] => 0
  | x :: r => uptoBulkEntry x + uptoBulkEntries r
def uptoBulkEntry {H : Type} : Lit × DataW H → Nat
  | (.string bytes, d) => bytes.length + uptoBulk d + 1
  | (_, d) => uptoBulk d + 1
 end
def uptoSmall : (H : Type) → List (DataW H) → Bool := fun _ ds => decide (uptoBulkAll ds ≤ 1048576)
def OpenSpec.upto (s : _root_.Go.ChangeSpec) : _root_.Go.OpenSpec := { _root_.Go.OpenSpec.ofChange s with cond := some uptoSmall }

/-- 'clepsydralaw16.DiscSlews', WHERE WHAT IT READS IS OF BULK AT MOST 1048576: true; the input reads as it did. -/
def discSlewsUptoRow : OpenClaim := { program := "ytjcoeianmihojaa", sum := "f13844db14ad84a86a0167fe5584ef65f64428772fcce5fbcb6cf10facea4ca7", func := "clepsydra/clepsydralaw16.DiscSlews", spec := "discSlews", apart := false, narrowed := true }
def DiscSlewsUptoSaid : Prop := discSlewsUptoRow.holds Try.pinned (OpenSpec.upto discSlewsSpec)

/-- 'clepsydralaw16.DiscBounds', WHERE WHAT IT READS IS OF BULK AT MOST 1048576: true; the input reads as it did. -/
def discBoundsUptoRow : OpenClaim := { program := "ytjcoeianmihojaa", sum := "f13844db14ad84a86a0167fe5584ef65f64428772fcce5fbcb6cf10facea4ca7", func := "clepsydra/clepsydralaw16.DiscBounds", spec := "discBounds", apart := false, narrowed := true }
def DiscBoundsUptoSaid : Prop := discBoundsUptoRow.holds Try.pinned (OpenSpec.upto discBoundsSpec)

/-- 'clepsydralaw16.DiscMoves', WHERE WHAT IT READS IS OF BULK AT MOST 1048576: true; the input reads as it did. -/
def discMovesUptoRow : OpenClaim := { program := "ytjcoeianmihojaa", sum := "f13844db14ad84a86a0167fe5584ef65f64428772fcce5fbcb6cf10facea4ca7", func := "clepsydra/clepsydralaw16.DiscMoves", spec := "discMoves", apart := false, narrowed := true }
def DiscMovesUptoSaid : Prop := discMovesUptoRow.holds Try.pinned (OpenSpec.upto discMovesSpec)

/-- 'clepsydralaw16.DiscParts', WHERE WHAT IT READS IS OF BULK AT MOST 1048576: true; the input reads as it did. -/
def discPartsUptoRow : OpenClaim := { program := "ytjcoeianmihojaa", sum := "f13844db14ad84a86a0167fe5584ef65f64428772fcce5fbcb6cf10facea4ca7", func := "clepsydra/clepsydralaw16.DiscParts", spec := "discParts", apart := false, narrowed := true }
def DiscPartsUptoSaid : Prop := discPartsUptoRow.holds Try.pinned (OpenSpec.upto discPartsSpec)

/-- 'clepsydralaw16.DiscTurned', WHERE WHAT IT READS IS OF BULK AT MOST 1048576: true; the input reads as it did. -/
def discTurnedUptoRow : OpenClaim := { program := "ytjcoeianmihojaa", sum := "f13844db14ad84a86a0167fe5584ef65f64428772fcce5fbcb6cf10facea4ca7", func := "clepsydra/clepsydralaw16.DiscTurned", spec := "discTurned", apart := false, narrowed := true }
def DiscTurnedUptoSaid : Prop := discTurnedUptoRow.holds Try.pinned (OpenSpec.upto discTurnedSpec)

/-- 'clepsydralaw16.DiscGone', WHERE WHAT IT READS IS OF BULK AT MOST 1048576: true; the input reads as it did. -/
def discGoneUptoRow : OpenClaim := { program := "ytjcoeianmihojaa", sum := "f13844db14ad84a86a0167fe5584ef65f64428772fcce5fbcb6cf10facea4ca7", func := "clepsydra/clepsydralaw16.DiscGone", spec := "discGone", apart := false, narrowed := true }
def DiscGoneUptoSaid : Prop := discGoneUptoRow.holds Try.pinned (OpenSpec.upto discGoneSpec)

end Rows
end Go.Proofs.Ytjcoeianmihojaa
