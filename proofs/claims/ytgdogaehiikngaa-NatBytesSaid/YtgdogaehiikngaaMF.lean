/- Texts of this claim, joined: Cvx0, Cvx1, Gd, Ge. -/
import Derived.Test.YtgdogaehiikngaaProg
import Derived.Below
import Derived.Deep.Draws
import Derived.Deep.AppendLies
import Derived.Maps.AppendAt
import Derived.OwnWalk
import Derived.Laws.BytesArg
import Derived.Laws.MakeOwn
import Derived.Laws.OwnMore
import Derived.Deep.OwnRows
import Derived.Tactics
import Derived.Lib.ConvBytes
import Derived.Laws.Slices
import Derived.WalkKit
import Derived.KernelRfl
import Derived.RowKit3
import Derived.Deep.LoopGhost
import Derived.Deep.QuietTactic
import Derived.BigQuiet
import Derived.WideLaws
import Derived.Deep.DeepCutAuto
import Derived.Deep.CutBlock
import Derived.Deep.RegionHeld3
import Derived.Laws.Rows
import Derived.Lib.AppendStr
import Derived.ArgAppend
import Derived.Laws.IdiomCopy
import Derived.OrdersHeld
import Derived.Laws.BitsLemmas
import Derived.RowKit
import Derived.Test.YtgdogaehiikngaaME
import Derived.Test.YtgdogaehiikngaaWWords
import Derived.Test.YtgdogaehiikngaaWLast
import Derived.Test.YtgdogaehiikngaaWTab
import Derived.Test.YtgdogaehiikngaaWFour
import Derived.Test.YtgdogaehiikngaaWQPut
import Derived.Test.YtgdogaehiikngaaWApart
import Derived.Test.YtgdogaehiikngaaWArr
import Derived.Test.YtgdogaehiikngaaWZeros
import Derived.Test.YtgdogaehiikngaaWFoot
import Derived.Test.YtgdogaehiikngaaWKept
import Derived.Test.YtgdogaehiikngaaWShare
import Derived.Test.YtgdogaehiikngaaWN
import Derived.Test.YtgdogaehiikngaaWFootNe
import Derived.Test.YtgdogaehiikngaaWAt
import Derived.Test.YtgdogaehiikngaaWEqStruct
import Derived.Test.YtgdogaehiikngaaWRepsOne
import Derived.Test.YtgdogaehiikngaaWInv
import Derived.Test.YtgdogaehiikngaaWInvWords
import Derived.Test.YtgdogaehiikngaaWGuard
import Derived.Test.YtgdogaehiikngaaWNEv
import Derived.Test.YtgdogaehiikngaaWMore

-- Written by this workplace's program wip/tools/given.py out of the translation. Not trusted: Lean checks it.
namespace Go.Proofs.Ytgdogaehiikngaa.Cv
open Go.RowKit Go.Proofs.YtgdogaehiikngaaW.PrintWords Go.Proofs.YtgdogaehiikngaaW.PrintLast Go.Proofs.YtgdogaehiikngaaW.PrintMore
attribute [local go_sem] max2_int min2_int max_two min_two max_three min_three max_four min_four   -- for this text's walks alone
set_option linter.unusedVariables false
set_option linter.unusedSimpArgs false



def errW : Option Int → Value
  | none => .nilIface
  | some c => .iface 0 (.int .i64 c)
theorem errW_none : errW none = .nilIface := rfl
theorem errW_some (c : Int) : errW (some c) = .iface 0 (.int .i64 c) := rfl

-- the values' own types

end Go.Proofs.Ytgdogaehiikngaa.Cv

-- Written by this workplace's program wip/tools/given.py out of the translation. Not trusted: Lean checks it.
namespace Go.Proofs.Ytgdogaehiikngaa.Cv
open Go.RowKit Go.Proofs.YtgdogaehiikngaaW.PrintWords Go.Proofs.YtgdogaehiikngaaW.PrintLast Go.Proofs.YtgdogaehiikngaaW.PrintMore
attribute [local go_sem] max2_int min2_int max_two min_two max_three min_three max_four min_four   -- for this text's walks alone
set_option linter.unusedVariables false
set_option linter.unusedSimpArgs false

/-! ### nat_Mul: function 16 -/
def nat_Mul.f (l0 : List Int) (l1 : List Int) : Option (List Int) := if okN 262144 l0 ∧ okN 262144 l1 then some (ofN (nI l0 * nI l1)) else none
theorem nat_Mul.calls (A0 : Option Addr) (c0 : Nat) (l0 : List Int) (A1 : Option Addr) (c1 : Nat) (l1 : List Int) (r : List Int) (w : World) (hr0 : Kd.C (Kd.int .u64) w A0 l0.length l0) (hc0 : l0.length ≤ c0) (hr1 : Kd.C (Kd.int .u64) w A1 l1.length l1) (hc1 : l1.length ≤ c1) (h : nat_Mul.f l0 l1 = some r) :
    Calls Try.prog 16 #[.slice A0 l0.length c0, .slice A1 l1.length c1] w fun e w' => ∃ v0_ : Value, e = .returned (v0_) ∧ Kd.R (Kd.int .u64) 41 w' w.heap.size (fun _ => True) v0_ r ∧ Below w.heap.size w w' := by
  exact mul_giv hr0 hc0 hr1 hc1 h

/-! ### nat_Div: function 18 -/
def nat_Div.f (l0 : List Int) (l1 : List Int) : Option (List Int × List Int × Int) := if okN 262144 l0 ∧ okN 262144 l1 then some (divR (nI l0) (nI l1)) else none
theorem nat_Div.calls (A0 : Option Addr) (c0 : Nat) (l0 : List Int) (A1 : Option Addr) (c1 : Nat) (l1 : List Int) (r1 : List Int) (r2 : List Int) (r3 : Int) (w : World) (hr0 : Kd.C (Kd.int .u64) w A0 l0.length l0) (hc0 : l0.length ≤ c0) (hr1 : Kd.C (Kd.int .u64) w A1 l1.length l1) (hc1 : l1.length ≤ c1) (h : nat_Div.f l0 l1 = some (r1, r2, r3)) :
    Calls Try.prog 18 #[.slice A0 l0.length c0, .slice A1 l1.length c1] w fun e w' => ∃ v0_ v1_ : Value, e = .returned (.tuple #[v0_, v1_, .int .i64 r3]) ∧ Kd.R (Kd.int .u64) 41 w' w.heap.size (fun k_ => some k_ ≠ (v1_ : Value).ownBlock) v0_ r1 ∧ Kd.R (Kd.int .u64) 41 w' w.heap.size (fun k_ => some k_ ≠ (v0_ : Value).ownBlock) v1_ r2 ∧ Below w.heap.size w w' := by
  exact div_giv hr0 hc0 hr1 hc1 h

/-! ### nat_Write: function 28 -/
def nat_Write.f (l0 : List Int) (a1 : Int) : Option (List Int × Int) := if okN 262144 l0 then some (writeR (nI l0) a1) else none
theorem nat_Write.calls (A0 : Option Addr) (c0 : Nat) (l0 : List Int) (a1 : Int) (r1 : List Int) (r2 : Int) (w : World) (hr0 : Kd.C (Kd.int .u64) w A0 l0.length l0) (hc0 : l0.length ≤ c0) (h : nat_Write.f l0 a1 = some (r1, r2)) :
    Calls Try.prog 28 #[.slice A0 l0.length c0, .int .i64 a1] w fun e w' => ∃ v0_ : Value, e = .returned (.tuple #[v0_, .int .i64 r2]) ∧ Kd.R (Kd.int .u8) 5 w' w.heap.size (fun _ => True) v0_ r1 ∧ Below w.heap.size w w' := by
  exact write_giv hr0 hc0 h

/-! ### nat_Of: function 32 -/
def nat_Of.f (a0 : Int) : Option (List Int) := if 0 ≤ a0 ∧ a0 < 18446744073709551616 then some (ofN a0.toNat) else none
theorem nat_Of.calls (a0 : Int) (r : List Int) (w : World) (h : nat_Of.f a0 = some r) :
    Calls Try.prog 32 #[.int .u64 a0] w fun e w' => ∃ v0_ : Value, e = .returned (v0_) ∧ Kd.R (Kd.int .u64) 41 w' w.heap.size (fun _ => True) v0_ r ∧ Below w.heap.size w w' := by
  exact of_giv h

/-! ### nat_Cmp: function 36 -/
def nat_Cmp.f (l0 : List Int) (l1 : List Int) : Option (Int) := if okN 262144 l0 ∧ okN 262144 l1 then some (cmpN (nI l0) (nI l1)) else none
theorem nat_Cmp.calls (A0 : Option Addr) (c0 : Nat) (l0 : List Int) (A1 : Option Addr) (c1 : Nat) (l1 : List Int) (r : Int) (w : World) (hr0 : Kd.C (Kd.int .u64) w A0 l0.length l0) (hc0 : l0.length ≤ c0) (hr1 : Kd.C (Kd.int .u64) w A1 l1.length l1) (hc1 : l1.length ≤ c1) (h : nat_Cmp.f l0 l1 = some r) :
    Calls Try.prog 36 #[.slice A0 l0.length c0, .slice A1 l1.length c1] w fun e w' => e = .returned (.int .i64 r) ∧ Drawn0 w w' := by
  exact cmp_giv hr0 hc0 hr1 hc1 h

/-! ### clepsydralaw01_alive: function 13 -/
def clepsydralaw01_alive.f  : Option (Bool) := (nat_Of.f 7).bind fun t101 => ((nat_Of.f 2).bind fun t104 => ((nat_Div.f t101 t104).bind fun bt107 => ((nat_Div.f ([] : List Int) ([] : List Int)).bind fun bt114 => ((nat_Of.f 9223372036854775808).bind fun t121 => ((nat_Of.f 6).bind fun t124 => ((nat_Mul.f t121 t124).bind fun t127 => ((nat_Write.f t127 9).bind fun bt130 => (if bt107.2.2 = 0 then ((nat_Of.f 3).bind fun t134 => ((nat_Cmp.f bt107.1 t134).bind fun t137 => (if t137 = 0 then (if (bt107.2.1.length : Int) = 1 then (if 0 < (bt107.2.1.length : Int) then (if (rd bt107.2.1 0) = 1 then (if bt114.2.2 = 11 then (if bt130.2 = 0 then (if (bt130.1.length : Int) = 9 then (if 0 < (bt130.1.length : Int) then (if (rd bt130.1 0) = 3 then (if 1 < (bt130.1.length : Int) then (some ((rd bt130.1 1) == 0)) else (none)) else (some false)) else (none)) else (some false)) else (some false)) else (some false)) else (some false)) else (none)) else (some false)) else (some false)))) else (some false)))))))))
set_option maxHeartbeats 8000000 in
set_option maxRecDepth 100000 in
theorem clepsydralaw01_alive.calls  (r : Bool) (w : World) (h : clepsydralaw01_alive.f  = some r) (hr_ : r = true) :
    Calls Try.prog 13 #[] w fun e w' => e = .returned (.bool r) ∧ Below w.heap.size w w' := by
  have HTR_ := Aside0.mk hr_
  clear hr_
  have HB := Aside0.mk (Below.refl w.heap.size w)
  have H : ((nat_Of.f 7).bind fun t101 => ((nat_Of.f 2).bind fun t104 => ((nat_Div.f t101 t104).bind fun bt107 => ((nat_Div.f ([] : List Int) ([] : List Int)).bind fun bt114 => ((nat_Of.f 9223372036854775808).bind fun t121 => ((nat_Of.f 6).bind fun t124 => ((nat_Mul.f t121 t124).bind fun t127 => ((nat_Write.f t127 9).bind fun bt130 => (if bt107.2.2 = 0 then ((nat_Of.f 3).bind fun t134 => ((nat_Cmp.f bt107.1 t134).bind fun t137 => (if t137 = 0 then (if (bt107.2.1.length : Int) = 1 then (if 0 < (bt107.2.1.length : Int) then (if (rd bt107.2.1 0) = 1 then (if bt114.2.2 = 11 then (if bt130.2 = 0 then (if (bt130.1.length : Int) = 9 then (if 0 < (bt130.1.length : Int) then (if (rd bt130.1 0) = 3 then (if 1 < (bt130.1.length : Int) then (some ((rd bt130.1 1) == 0)) else (none)) else (some false)) else (none)) else (some false)) else (some false)) else (some false)) else (some false)) else (none)) else (some false)) else (some false)))) else (some false)))))))))) = some r := h
  clear h
  replace H := Option.bind_eq_some_iff.mp H
  obtain ⟨t101, A10, H⟩ := H
  replace H : ((nat_Of.f 2).bind fun t104 => ((nat_Div.f t101 t104).bind fun bt107 => ((nat_Div.f ([] : List Int) ([] : List Int)).bind fun bt114 => ((nat_Of.f 9223372036854775808).bind fun t121 => ((nat_Of.f 6).bind fun t124 => ((nat_Mul.f t121 t124).bind fun t127 => ((nat_Write.f t127 9).bind fun bt130 => (if bt107.2.2 = 0 then ((nat_Of.f 3).bind fun t134 => ((nat_Cmp.f bt107.1 t134).bind fun t137 => (if t137 = 0 then (if (bt107.2.1.length : Int) = 1 then (if 0 < (bt107.2.1.length : Int) then (if (rd bt107.2.1 0) = 1 then (if bt114.2.2 = 11 then (if bt130.2 = 0 then (if (bt130.1.length : Int) = 9 then (if 0 < (bt130.1.length : Int) then (if (rd bt130.1 0) = 3 then (if 1 < (bt130.1.length : Int) then (some ((rd bt130.1 1) == 0)) else (none)) else (some false)) else (none)) else (some false)) else (some false)) else (some false)) else (some false)) else (none)) else (some false)) else (some false)))) else (some false))))))))) = some r := H
  have A1 := Aside0.mk A10
  clear A10
  replace H := Option.bind_eq_some_iff.mp H
  obtain ⟨t104, A20, H⟩ := H
  replace H : ((nat_Div.f t101 t104).bind fun bt107 => ((nat_Div.f ([] : List Int) ([] : List Int)).bind fun bt114 => ((nat_Of.f 9223372036854775808).bind fun t121 => ((nat_Of.f 6).bind fun t124 => ((nat_Mul.f t121 t124).bind fun t127 => ((nat_Write.f t127 9).bind fun bt130 => (if bt107.2.2 = 0 then ((nat_Of.f 3).bind fun t134 => ((nat_Cmp.f bt107.1 t134).bind fun t137 => (if t137 = 0 then (if (bt107.2.1.length : Int) = 1 then (if 0 < (bt107.2.1.length : Int) then (if (rd bt107.2.1 0) = 1 then (if bt114.2.2 = 11 then (if bt130.2 = 0 then (if (bt130.1.length : Int) = 9 then (if 0 < (bt130.1.length : Int) then (if (rd bt130.1 0) = 3 then (if 1 < (bt130.1.length : Int) then (some ((rd bt130.1 1) == 0)) else (none)) else (some false)) else (none)) else (some false)) else (some false)) else (some false)) else (some false)) else (none)) else (some false)) else (some false)))) else (some false)))))))) = some r := H
  have A2 := Aside0.mk A20
  clear A20
  replace H := Option.bind_eq_some_iff.mp H
  obtain ⟨⟨t107, t108, t109⟩, A30, H⟩ := H
  replace H : ((nat_Div.f ([] : List Int) ([] : List Int)).bind fun bt114 => ((nat_Of.f 9223372036854775808).bind fun t121 => ((nat_Of.f 6).bind fun t124 => ((nat_Mul.f t121 t124).bind fun t127 => ((nat_Write.f t127 9).bind fun bt130 => (if t109 = 0 then ((nat_Of.f 3).bind fun t134 => ((nat_Cmp.f t107 t134).bind fun t137 => (if t137 = 0 then (if (t108.length : Int) = 1 then (if 0 < (t108.length : Int) then (if (rd t108 0) = 1 then (if bt114.2.2 = 11 then (if bt130.2 = 0 then (if (bt130.1.length : Int) = 9 then (if 0 < (bt130.1.length : Int) then (if (rd bt130.1 0) = 3 then (if 1 < (bt130.1.length : Int) then (some ((rd bt130.1 1) == 0)) else (none)) else (some false)) else (none)) else (some false)) else (some false)) else (some false)) else (some false)) else (none)) else (some false)) else (some false)))) else (some false))))))) = some r := H
  have A3 := Aside0.mk A30
  clear A30
  replace H := Option.bind_eq_some_iff.mp H
  obtain ⟨⟨t114, t115, t116⟩, A40, H⟩ := H
  replace H : ((nat_Of.f 9223372036854775808).bind fun t121 => ((nat_Of.f 6).bind fun t124 => ((nat_Mul.f t121 t124).bind fun t127 => ((nat_Write.f t127 9).bind fun bt130 => (if t109 = 0 then ((nat_Of.f 3).bind fun t134 => ((nat_Cmp.f t107 t134).bind fun t137 => (if t137 = 0 then (if (t108.length : Int) = 1 then (if 0 < (t108.length : Int) then (if (rd t108 0) = 1 then (if t116 = 11 then (if bt130.2 = 0 then (if (bt130.1.length : Int) = 9 then (if 0 < (bt130.1.length : Int) then (if (rd bt130.1 0) = 3 then (if 1 < (bt130.1.length : Int) then (some ((rd bt130.1 1) == 0)) else (none)) else (some false)) else (none)) else (some false)) else (some false)) else (some false)) else (some false)) else (none)) else (some false)) else (some false)))) else (some false)))))) = some r := H
  have A4 := Aside0.mk A40
  clear A40
  replace H := Option.bind_eq_some_iff.mp H
  obtain ⟨t121, A50, H⟩ := H
  replace H : ((nat_Of.f 6).bind fun t124 => ((nat_Mul.f t121 t124).bind fun t127 => ((nat_Write.f t127 9).bind fun bt130 => (if t109 = 0 then ((nat_Of.f 3).bind fun t134 => ((nat_Cmp.f t107 t134).bind fun t137 => (if t137 = 0 then (if (t108.length : Int) = 1 then (if 0 < (t108.length : Int) then (if (rd t108 0) = 1 then (if t116 = 11 then (if bt130.2 = 0 then (if (bt130.1.length : Int) = 9 then (if 0 < (bt130.1.length : Int) then (if (rd bt130.1 0) = 3 then (if 1 < (bt130.1.length : Int) then (some ((rd bt130.1 1) == 0)) else (none)) else (some false)) else (none)) else (some false)) else (some false)) else (some false)) else (some false)) else (none)) else (some false)) else (some false)))) else (some false))))) = some r := H
  have A5 := Aside0.mk A50
  clear A50
  replace H := Option.bind_eq_some_iff.mp H
  obtain ⟨t124, A60, H⟩ := H
  replace H : ((nat_Mul.f t121 t124).bind fun t127 => ((nat_Write.f t127 9).bind fun bt130 => (if t109 = 0 then ((nat_Of.f 3).bind fun t134 => ((nat_Cmp.f t107 t134).bind fun t137 => (if t137 = 0 then (if (t108.length : Int) = 1 then (if 0 < (t108.length : Int) then (if (rd t108 0) = 1 then (if t116 = 11 then (if bt130.2 = 0 then (if (bt130.1.length : Int) = 9 then (if 0 < (bt130.1.length : Int) then (if (rd bt130.1 0) = 3 then (if 1 < (bt130.1.length : Int) then (some ((rd bt130.1 1) == 0)) else (none)) else (some false)) else (none)) else (some false)) else (some false)) else (some false)) else (some false)) else (none)) else (some false)) else (some false)))) else (some false)))) = some r := H
  have A6 := Aside0.mk A60
  clear A60
  replace H := Option.bind_eq_some_iff.mp H
  obtain ⟨t127, A70, H⟩ := H
  replace H : ((nat_Write.f t127 9).bind fun bt130 => (if t109 = 0 then ((nat_Of.f 3).bind fun t134 => ((nat_Cmp.f t107 t134).bind fun t137 => (if t137 = 0 then (if (t108.length : Int) = 1 then (if 0 < (t108.length : Int) then (if (rd t108 0) = 1 then (if t116 = 11 then (if bt130.2 = 0 then (if (bt130.1.length : Int) = 9 then (if 0 < (bt130.1.length : Int) then (if (rd bt130.1 0) = 3 then (if 1 < (bt130.1.length : Int) then (some ((rd bt130.1 1) == 0)) else (none)) else (some false)) else (none)) else (some false)) else (some false)) else (some false)) else (some false)) else (none)) else (some false)) else (some false)))) else (some false))) = some r := H
  have A7 := Aside0.mk A70
  clear A70
  replace H := Option.bind_eq_some_iff.mp H
  obtain ⟨⟨t130, t131⟩, A80, H⟩ := H
  replace H : (if t109 = 0 then ((nat_Of.f 3).bind fun t134 => ((nat_Cmp.f t107 t134).bind fun t137 => (if t137 = 0 then (if (t108.length : Int) = 1 then (if 0 < (t108.length : Int) then (if (rd t108 0) = 1 then (if t116 = 11 then (if t131 = 0 then (if (t130.length : Int) = 9 then (if 0 < (t130.length : Int) then (if (rd t130 0) = 3 then (if 1 < (t130.length : Int) then (some ((rd t130 1) == 0)) else (none)) else (some false)) else (none)) else (some false)) else (some false)) else (some false)) else (some false)) else (none)) else (some false)) else (some false)))) else (some false)) = some r := H
  have A8 := Aside0.mk A80
  clear A80
  by_cases c9 : t109 = 0
  · rw [if_pos c9] at H
    have c9b0 : (t109 == 0) = true := beq_iff_eq.mpr c9
    have c9b1 : (t109 != 0) = false := bne_eq_false_iff_eq.mpr c9
    clear c9
    replace H := Option.bind_eq_some_iff.mp H
    obtain ⟨t134, A100, H⟩ := H
    replace H : ((nat_Cmp.f t107 t134).bind fun t137 => (if t137 = 0 then (if (t108.length : Int) = 1 then (if 0 < (t108.length : Int) then (if (rd t108 0) = 1 then (if t116 = 11 then (if t131 = 0 then (if (t130.length : Int) = 9 then (if 0 < (t130.length : Int) then (if (rd t130 0) = 3 then (if 1 < (t130.length : Int) then (some ((rd t130 1) == 0)) else (none)) else (some false)) else (none)) else (some false)) else (some false)) else (some false)) else (some false)) else (none)) else (some false)) else (some false))) = some r := H
    have A10 := Aside0.mk A100
    clear A100
    replace H := Option.bind_eq_some_iff.mp H
    obtain ⟨t137, A110, H⟩ := H
    replace H : (if t137 = 0 then (if (t108.length : Int) = 1 then (if 0 < (t108.length : Int) then (if (rd t108 0) = 1 then (if t116 = 11 then (if t131 = 0 then (if (t130.length : Int) = 9 then (if 0 < (t130.length : Int) then (if (rd t130 0) = 3 then (if 1 < (t130.length : Int) then (some ((rd t130 1) == 0)) else (none)) else (some false)) else (none)) else (some false)) else (some false)) else (some false)) else (some false)) else (none)) else (some false)) else (some false)) = some r := H
    have A11 := Aside0.mk A110
    clear A110
    by_cases c12 : t137 = 0
    · rw [if_pos c12] at H
      have c12b0 : (t137 == 0) = true := beq_iff_eq.mpr c12
      have c12b1 : (t137 != 0) = false := bne_eq_false_iff_eq.mpr c12
      clear c12
      by_cases c13 : (t108.length : Int) = 1
      · rw [if_pos c13] at H
        have c13b0 : ((t108.length : Int) == 1) = true := beq_iff_eq.mpr c13
        have c13b1 : ((t108.length : Int) != 1) = false := bne_eq_false_iff_eq.mpr c13
        clear c13
        by_cases c14 : 0 < (t108.length : Int)
        · rw [if_pos c14] at H
          have c14b0 : decide (0 < (t108.length : Int)) = true := decide_eq_true c14
          have c14b1 : decide (0 < t108.length) = true := decide_eq_true (by omega)
          clear c14
          by_cases c15 : (rd t108 0) = 1
          · rw [if_pos c15] at H
            have c15b0 : ((rd t108 0) == 1) = true := beq_iff_eq.mpr c15
            have c15b1 : ((rd t108 0) != 1) = false := bne_eq_false_iff_eq.mpr c15
            clear c15
            by_cases c16 : t116 = 11
            · rw [if_pos c16] at H
              have c16b0 : (t116 == 11) = true := beq_iff_eq.mpr c16
              have c16b1 : (t116 != 11) = false := bne_eq_false_iff_eq.mpr c16
              clear c16
              by_cases c17 : t131 = 0
              · rw [if_pos c17] at H
                have c17b0 : (t131 == 0) = true := beq_iff_eq.mpr c17
                have c17b1 : (t131 != 0) = false := bne_eq_false_iff_eq.mpr c17
                clear c17
                by_cases c18 : (t130.length : Int) = 9
                · rw [if_pos c18] at H
                  have c18b0 : ((t130.length : Int) == 9) = true := beq_iff_eq.mpr c18
                  have c18b1 : ((t130.length : Int) != 9) = false := bne_eq_false_iff_eq.mpr c18
                  clear c18
                  by_cases c19 : 0 < (t130.length : Int)
                  · rw [if_pos c19] at H
                    have c19b0 : decide (0 < (t130.length : Int)) = true := decide_eq_true c19
                    have c19b1 : decide (0 < t130.length) = true := decide_eq_true (by omega)
                    clear c19
                    by_cases c20 : (rd t130 0) = 3
                    · rw [if_pos c20] at H
                      have c20b0 : ((rd t130 0) == 3) = true := beq_iff_eq.mpr c20
                      have c20b1 : ((rd t130 0) != 3) = false := bne_eq_false_iff_eq.mpr c20
                      clear c20
                      by_cases c21 : 1 < (t130.length : Int)
                      · rw [if_pos c21] at H
                        have c21b0 : decide (1 < (t130.length : Int)) = true := decide_eq_true c21
                        have c21b1 : decide (1 < t130.length) = true := decide_eq_true (by omega)
                        clear c21
                        obtain rfl := Option.some.inj H
                        simp only [Option.some.injEq, Prod.mk.injEq] at H
                        obtain ⟨rfl⟩ := H
                        go_enter Try.func13, Try.ntmps13
                        go_wp2_with (first | ((with_reducible refine gate_callee (f := 32) rfl ?_); refine goesL_ (some 10) rfl rfl Try.func32 (by kernel_rfl) rfl #[.int .u64 7] rfl (by (try simp only [List.map_toArray, List.map_cons, List.map_nil]); first | done | rfl | (simp only [List.length_drop, List.length_take]; rfl)) ?_; (with_reducible refine (nat_Of.calls 7 t101 _ A1.out).mono ?_); rintro e w22 ⟨v102, rfl, ho0, hb⟩; refine ⟨_, rfl, ?_⟩; have n0_ := Aside0.mk (Kd.R_lower ho0 (below_size (by repeat (first | (with_reducible first | exact HB.out | apply below_alloc | apply pw_below_drewN | apply below_drew1) | exact HB.out)))); have n1_ := Aside0.mk (below_step (by repeat (first | (with_reducible first | exact HB.out | apply below_alloc | apply pw_below_drewN | apply below_drew1) | exact HB.out)) hb); clear HB; have HO103 := n0_; have HB := n1_; clear n0_ n1_; (try clear hb); (try clear hb2); (try clear hk); (try clear hi); (try clear ho0)) | ((with_reducible refine gate_callee (f := 32) rfl ?_); refine goesL_ (some 11) rfl rfl Try.func32 (by kernel_rfl) rfl #[.int .u64 2] rfl (by (try simp only [List.map_toArray, List.map_cons, List.map_nil]); first | done | rfl | (simp only [List.length_drop, List.length_take]; rfl)) ?_; (with_reducible refine (nat_Of.calls 2 t104 _ A2.out).mono ?_); rintro e w23 ⟨v105, rfl, ho0, hb⟩; refine ⟨_, rfl, ?_⟩; have n0_ := Aside0.mk (Kd.R_elder' (by (with_reducible repeat (first | apply Kd.R_alloc | apply Kd.R_drewN | apply Kd.R_drew)); exact HO103.out) (Kd.R_base ho0) hb); have n1_ := Aside0.mk (Kd.R_lower (Kd.R_new' ho0 (Kd.R_lt (by (with_reducible repeat (first | apply Kd.R_alloc | apply Kd.R_drewN | apply Kd.R_drew)); exact HO103.out))) (below_size (by repeat (first | (with_reducible first | exact HB.out | apply below_alloc | apply pw_below_drewN | apply below_drew1) | exact HB.out)))); have n2_ := Aside0.mk (below_step (by repeat (first | (with_reducible first | exact HB.out | apply below_alloc | apply pw_below_drewN | apply below_drew1) | exact HB.out)) hb); clear HO103; clear HB; have HO103 := n0_; have HO106 := n1_; have HB := n2_; clear n0_ n1_ n2_; (try clear hb); (try clear hb2); (try clear hk); (try clear hi); (try clear ho0); obtain ⟨Ao24, co24, eo24⟩ := Kd.R_slice HO103.out; subst eo24; obtain ⟨Ao25, co25, eo25⟩ := Kd.R_slice HO106.out; subst eo25) | ((with_reducible refine gate_callee (f := 18) rfl ?_); refine goesL_ (some 12) rfl rfl Try.func18 (by kernel_rfl) rfl #[.slice Ao24 t101.length co24, .slice Ao25 t104.length co25] rfl (by (try simp only [List.map_toArray, List.map_cons, List.map_nil]); first | done | rfl | (simp only [List.length_drop, List.length_take]; rfl)) ?_; (with_reducible refine (nat_Div.calls _ _ t101 _ _ t104 t107 t108 t109 _ ?side1 ?side2 ?side3 ?side4 A3.out).mono ?_); (case side1 => repeat (first | exact (Kd.R_reads' HO103.out).2.2 | (with_reducible refine Kd.C_alloc ?_ _) | (with_reducible refine Kd.C_drewN ?_ _) | (with_reducible refine Kd.C_drew ?_))); (case side2 => exact (Kd.R_reads' HO103.out).2.1); (case side3 => repeat (first | exact (Kd.R_reads' HO106.out).2.2 | (with_reducible refine Kd.C_alloc ?_ _) | (with_reducible refine Kd.C_drewN ?_ _) | (with_reducible refine Kd.C_drew ?_))); (case side4 => exact (Kd.R_reads' HO106.out).2.1); rintro e w26 ⟨v110, v112, rfl, ho0, ho1, hb⟩; refine ⟨_, rfl, ?_⟩; have n0_ := Aside0.mk (Kd.R_mono (Kd.R_told (Kd.R_told (Kd.R_old (by (with_reducible repeat (first | apply Kd.R_alloc | apply Kd.R_drewN | apply Kd.R_drew)); exact HO103.out) hb) (Kd.R_base ho0)) (Kd.R_base ho1)) (fun _ h_ => h_.1)); have n1_ := Aside0.mk (Kd.R_mono (Kd.R_told (Kd.R_told (Kd.R_old (by (with_reducible repeat (first | apply Kd.R_alloc | apply Kd.R_drewN | apply Kd.R_drew)); exact HO106.out) hb) (Kd.R_base ho0)) (Kd.R_base ho1)) (fun _ h_ => h_.1)); have n2_ := Aside0.mk (Kd.R_lower (Kd.R_new' (Kd.R_new' ho0 (Kd.R_lt (by (with_reducible repeat (first | apply Kd.R_alloc | apply Kd.R_drewN | apply Kd.R_drew)); exact HO103.out))) (Kd.R_lt (by (with_reducible repeat (first | apply Kd.R_alloc | apply Kd.R_drewN | apply Kd.R_drew)); exact HO106.out))) (below_size (by repeat (first | (with_reducible first | exact HB.out | apply below_alloc | apply pw_below_drewN | apply below_drew1) | exact HB.out)))); have n3_ := Aside0.mk (Kd.R_lower (Kd.R_new' (Kd.R_new' ho1 (Kd.R_lt (by (with_reducible repeat (first | apply Kd.R_alloc | apply Kd.R_drewN | apply Kd.R_drew)); exact HO103.out))) (Kd.R_lt (by (with_reducible repeat (first | apply Kd.R_alloc | apply Kd.R_drewN | apply Kd.R_drew)); exact HO106.out))) (below_size (by repeat (first | (with_reducible first | exact HB.out | apply below_alloc | apply pw_below_drewN | apply below_drew1) | exact HB.out)))); have n4_ := Aside0.mk (below_step (by repeat (first | (with_reducible first | exact HB.out | apply below_alloc | apply pw_below_drewN | apply below_drew1) | exact HB.out)) hb); clear HO103; clear HO106; clear HB; have HO103 := n0_; have HO106 := n1_; have HO111 := n2_; have HO113 := n3_; have HB := n4_; clear n0_ n1_ n2_ n3_ n4_; (try clear hb); (try clear hb2); (try clear hk); (try clear hi); (try clear ho0); (try clear ho1)) | ((with_reducible refine gate_callee (f := 18) rfl ?_); refine goesL_ (some 17) rfl rfl Try.func18 (by kernel_rfl) rfl #[.slice none 0 0, .slice none 0 0] rfl (by (try simp only [List.map_toArray, List.map_cons, List.map_nil]); first | done | rfl | (simp only [List.length_drop, List.length_take]; rfl)) ?_; (refine (nat_Div.calls _ _ ([] : List Int) _ _ ([] : List Int) t114 t115 t116 _ ?side1 ?side2 ?side3 ?side4 A4.out).mono ?_); (case side1 => exact Kd.C_nil _ _); (case side2 => exact Nat.le_refl _); (case side3 => exact Kd.C_nil _ _); (case side4 => exact Nat.le_refl _); rintro e w27 ⟨v117, v119, rfl, ho0, ho1, hb⟩; refine ⟨_, rfl, ?_⟩; have n0_ := Aside0.mk (Kd.R_mono (Kd.R_told (Kd.R_told (Kd.R_old (by (with_reducible repeat (first | apply Kd.R_alloc | apply Kd.R_drewN | apply Kd.R_drew)); exact HO103.out) hb) (Kd.R_base ho0)) (Kd.R_base ho1)) (fun _ h_ => h_.1)); have n1_ := Aside0.mk (Kd.R_mono (Kd.R_told (Kd.R_told (Kd.R_old (by (with_reducible repeat (first | apply Kd.R_alloc | apply Kd.R_drewN | apply Kd.R_drew)); exact HO106.out) hb) (Kd.R_base ho0)) (Kd.R_base ho1)) (fun _ h_ => h_.1)); have n2_ := Aside0.mk (Kd.R_mono (Kd.R_told (Kd.R_told (Kd.R_old (by (with_reducible repeat (first | apply Kd.R_alloc | apply Kd.R_drewN | apply Kd.R_drew)); exact HO111.out) hb) (Kd.R_base ho0)) (Kd.R_base ho1)) (fun _ h_ => h_.1)); have n3_ := Aside0.mk (Kd.R_mono (Kd.R_told (Kd.R_told (Kd.R_old (by (with_reducible repeat (first | apply Kd.R_alloc | apply Kd.R_drewN | apply Kd.R_drew)); exact HO113.out) hb) (Kd.R_base ho0)) (Kd.R_base ho1)) (fun _ h_ => h_.1)); have n4_ := Aside0.mk (Kd.R_lower (Kd.R_new' (Kd.R_new' (Kd.R_new' (Kd.R_new' ho0 (Kd.R_lt (by (with_reducible repeat (first | apply Kd.R_alloc | apply Kd.R_drewN | apply Kd.R_drew)); exact HO103.out))) (Kd.R_lt (by (with_reducible repeat (first | apply Kd.R_alloc | apply Kd.R_drewN | apply Kd.R_drew)); exact HO106.out))) (Kd.R_lt (by (with_reducible repeat (first | apply Kd.R_alloc | apply Kd.R_drewN | apply Kd.R_drew)); exact HO111.out))) (Kd.R_lt (by (with_reducible repeat (first | apply Kd.R_alloc | apply Kd.R_drewN | apply Kd.R_drew)); exact HO113.out))) (below_size (by repeat (first | (with_reducible first | exact HB.out | apply below_alloc | apply pw_below_drewN | apply below_drew1) | exact HB.out)))); have n5_ := Aside0.mk (Kd.R_lower (Kd.R_new' (Kd.R_new' (Kd.R_new' (Kd.R_new' ho1 (Kd.R_lt (by (with_reducible repeat (first | apply Kd.R_alloc | apply Kd.R_drewN | apply Kd.R_drew)); exact HO103.out))) (Kd.R_lt (by (with_reducible repeat (first | apply Kd.R_alloc | apply Kd.R_drewN | apply Kd.R_drew)); exact HO106.out))) (Kd.R_lt (by (with_reducible repeat (first | apply Kd.R_alloc | apply Kd.R_drewN | apply Kd.R_drew)); exact HO111.out))) (Kd.R_lt (by (with_reducible repeat (first | apply Kd.R_alloc | apply Kd.R_drewN | apply Kd.R_drew)); exact HO113.out))) (below_size (by repeat (first | (with_reducible first | exact HB.out | apply below_alloc | apply pw_below_drewN | apply below_drew1) | exact HB.out)))); have n6_ := Aside0.mk (below_step (by repeat (first | (with_reducible first | exact HB.out | apply below_alloc | apply pw_below_drewN | apply below_drew1) | exact HB.out)) hb); clear HO103; clear HO106; clear HO111; clear HO113; clear HB; have HO103 := n0_; have HO106 := n1_; have HO111 := n2_; have HO113 := n3_; have HO118 := n4_; have HO120 := n5_; have HB := n6_; clear n0_ n1_ n2_ n3_ n4_ n5_ n6_; (try clear hb); (try clear hb2); (try clear hk); (try clear hi); (try clear ho0); (try clear ho1)) | ((with_reducible refine gate_callee (f := 32) rfl ?_); refine goesL_ (some 22) rfl rfl Try.func32 (by kernel_rfl) rfl #[.int .u64 9223372036854775808] rfl (by (try simp only [List.map_toArray, List.map_cons, List.map_nil]); first | done | rfl | (simp only [List.length_drop, List.length_take]; rfl)) ?_; (with_reducible refine (nat_Of.calls 9223372036854775808 t121 _ A5.out).mono ?_); rintro e w28 ⟨v122, rfl, ho0, hb⟩; refine ⟨_, rfl, ?_⟩; have n0_ := Aside0.mk (Kd.R_elder' (by (with_reducible repeat (first | apply Kd.R_alloc | apply Kd.R_drewN | apply Kd.R_drew)); exact HO103.out) (Kd.R_base ho0) hb); have n1_ := Aside0.mk (Kd.R_elder' (by (with_reducible repeat (first | apply Kd.R_alloc | apply Kd.R_drewN | apply Kd.R_drew)); exact HO106.out) (Kd.R_base ho0) hb); have n2_ := Aside0.mk (Kd.R_elder' (by (with_reducible repeat (first | apply Kd.R_alloc | apply Kd.R_drewN | apply Kd.R_drew)); exact HO111.out) (Kd.R_base ho0) hb); have n3_ := Aside0.mk (Kd.R_elder' (by (with_reducible repeat (first | apply Kd.R_alloc | apply Kd.R_drewN | apply Kd.R_drew)); exact HO113.out) (Kd.R_base ho0) hb); have n4_ := Aside0.mk (Kd.R_elder' (by (with_reducible repeat (first | apply Kd.R_alloc | apply Kd.R_drewN | apply Kd.R_drew)); exact HO118.out) (Kd.R_base ho0) hb); have n5_ := Aside0.mk (Kd.R_elder' (by (with_reducible repeat (first | apply Kd.R_alloc | apply Kd.R_drewN | apply Kd.R_drew)); exact HO120.out) (Kd.R_base ho0) hb); have n6_ := Aside0.mk (Kd.R_lower (Kd.R_new' (Kd.R_new' (Kd.R_new' (Kd.R_new' (Kd.R_new' (Kd.R_new' ho0 (Kd.R_lt (by (with_reducible repeat (first | apply Kd.R_alloc | apply Kd.R_drewN | apply Kd.R_drew)); exact HO103.out))) (Kd.R_lt (by (with_reducible repeat (first | apply Kd.R_alloc | apply Kd.R_drewN | apply Kd.R_drew)); exact HO106.out))) (Kd.R_lt (by (with_reducible repeat (first | apply Kd.R_alloc | apply Kd.R_drewN | apply Kd.R_drew)); exact HO111.out))) (Kd.R_lt (by (with_reducible repeat (first | apply Kd.R_alloc | apply Kd.R_drewN | apply Kd.R_drew)); exact HO113.out))) (Kd.R_lt (by (with_reducible repeat (first | apply Kd.R_alloc | apply Kd.R_drewN | apply Kd.R_drew)); exact HO118.out))) (Kd.R_lt (by (with_reducible repeat (first | apply Kd.R_alloc | apply Kd.R_drewN | apply Kd.R_drew)); exact HO120.out))) (below_size (by repeat (first | (with_reducible first | exact HB.out | apply below_alloc | apply pw_below_drewN | apply below_drew1) | exact HB.out)))); have n7_ := Aside0.mk (below_step (by repeat (first | (with_reducible first | exact HB.out | apply below_alloc | apply pw_below_drewN | apply below_drew1) | exact HB.out)) hb); clear HO103; clear HO106; clear HO111; clear HO113; clear HO118; clear HO120; clear HB; have HO103 := n0_; have HO106 := n1_; have HO111 := n2_; have HO113 := n3_; have HO118 := n4_; have HO120 := n5_; have HO123 := n6_; have HB := n7_; clear n0_ n1_ n2_ n3_ n4_ n5_ n6_ n7_; (try clear hb); (try clear hb2); (try clear hk); (try clear hi); (try clear ho0)) | ((with_reducible refine gate_callee (f := 32) rfl ?_); refine goesL_ (some 23) rfl rfl Try.func32 (by kernel_rfl) rfl #[.int .u64 6] rfl (by (try simp only [List.map_toArray, List.map_cons, List.map_nil]); first | done | rfl | (simp only [List.length_drop, List.length_take]; rfl)) ?_; (with_reducible refine (nat_Of.calls 6 t124 _ A6.out).mono ?_); rintro e w29 ⟨v125, rfl, ho0, hb⟩; refine ⟨_, rfl, ?_⟩; have n0_ := Aside0.mk (Kd.R_elder' (by (with_reducible repeat (first | apply Kd.R_alloc | apply Kd.R_drewN | apply Kd.R_drew)); exact HO103.out) (Kd.R_base ho0) hb); have n1_ := Aside0.mk (Kd.R_elder' (by (with_reducible repeat (first | apply Kd.R_alloc | apply Kd.R_drewN | apply Kd.R_drew)); exact HO106.out) (Kd.R_base ho0) hb); have n2_ := Aside0.mk (Kd.R_elder' (by (with_reducible repeat (first | apply Kd.R_alloc | apply Kd.R_drewN | apply Kd.R_drew)); exact HO111.out) (Kd.R_base ho0) hb); have n3_ := Aside0.mk (Kd.R_elder' (by (with_reducible repeat (first | apply Kd.R_alloc | apply Kd.R_drewN | apply Kd.R_drew)); exact HO113.out) (Kd.R_base ho0) hb); have n4_ := Aside0.mk (Kd.R_elder' (by (with_reducible repeat (first | apply Kd.R_alloc | apply Kd.R_drewN | apply Kd.R_drew)); exact HO118.out) (Kd.R_base ho0) hb); have n5_ := Aside0.mk (Kd.R_elder' (by (with_reducible repeat (first | apply Kd.R_alloc | apply Kd.R_drewN | apply Kd.R_drew)); exact HO120.out) (Kd.R_base ho0) hb); have n6_ := Aside0.mk (Kd.R_elder' (by (with_reducible repeat (first | apply Kd.R_alloc | apply Kd.R_drewN | apply Kd.R_drew)); exact HO123.out) (Kd.R_base ho0) hb); have n7_ := Aside0.mk (Kd.R_lower (Kd.R_new' (Kd.R_new' (Kd.R_new' (Kd.R_new' (Kd.R_new' (Kd.R_new' (Kd.R_new' ho0 (Kd.R_lt (by (with_reducible repeat (first | apply Kd.R_alloc | apply Kd.R_drewN | apply Kd.R_drew)); exact HO103.out))) (Kd.R_lt (by (with_reducible repeat (first | apply Kd.R_alloc | apply Kd.R_drewN | apply Kd.R_drew)); exact HO106.out))) (Kd.R_lt (by (with_reducible repeat (first | apply Kd.R_alloc | apply Kd.R_drewN | apply Kd.R_drew)); exact HO111.out))) (Kd.R_lt (by (with_reducible repeat (first | apply Kd.R_alloc | apply Kd.R_drewN | apply Kd.R_drew)); exact HO113.out))) (Kd.R_lt (by (with_reducible repeat (first | apply Kd.R_alloc | apply Kd.R_drewN | apply Kd.R_drew)); exact HO118.out))) (Kd.R_lt (by (with_reducible repeat (first | apply Kd.R_alloc | apply Kd.R_drewN | apply Kd.R_drew)); exact HO120.out))) (Kd.R_lt (by (with_reducible repeat (first | apply Kd.R_alloc | apply Kd.R_drewN | apply Kd.R_drew)); exact HO123.out))) (below_size (by repeat (first | (with_reducible first | exact HB.out | apply below_alloc | apply pw_below_drewN | apply below_drew1) | exact HB.out)))); have n8_ := Aside0.mk (below_step (by repeat (first | (with_reducible first | exact HB.out | apply below_alloc | apply pw_below_drewN | apply below_drew1) | exact HB.out)) hb); clear HO103; clear HO106; clear HO111; clear HO113; clear HO118; clear HO120; clear HO123; clear HB; have HO103 := n0_; have HO106 := n1_; have HO111 := n2_; have HO113 := n3_; have HO118 := n4_; have HO120 := n5_; have HO123 := n6_; have HO126 := n7_; have HB := n8_; clear n0_ n1_ n2_ n3_ n4_ n5_ n6_ n7_ n8_; (try clear hb); (try clear hb2); (try clear hk); (try clear hi); (try clear ho0); obtain ⟨Ao30, co30, eo30⟩ := Kd.R_slice HO123.out; subst eo30; obtain ⟨Ao31, co31, eo31⟩ := Kd.R_slice HO126.out; subst eo31) | ((with_reducible refine gate_callee (f := 16) rfl ?_); refine goesL_ (some 24) rfl rfl Try.func16 (by kernel_rfl) rfl #[.slice Ao30 t121.length co30, .slice Ao31 t124.length co31] rfl (by (try simp only [List.map_toArray, List.map_cons, List.map_nil]); first | done | rfl | (simp only [List.length_drop, List.length_take]; rfl)) ?_; (with_reducible refine (nat_Mul.calls _ _ t121 _ _ t124 t127 _ ?side1 ?side2 ?side3 ?side4 A7.out).mono ?_); (case side1 => repeat (first | exact (Kd.R_reads' HO123.out).2.2 | (with_reducible refine Kd.C_alloc ?_ _) | (with_reducible refine Kd.C_drewN ?_ _) | (with_reducible refine Kd.C_drew ?_))); (case side2 => exact (Kd.R_reads' HO123.out).2.1); (case side3 => repeat (first | exact (Kd.R_reads' HO126.out).2.2 | (with_reducible refine Kd.C_alloc ?_ _) | (with_reducible refine Kd.C_drewN ?_ _) | (with_reducible refine Kd.C_drew ?_))); (case side4 => exact (Kd.R_reads' HO126.out).2.1); rintro e w32 ⟨v128, rfl, ho0, hb⟩; refine ⟨_, rfl, ?_⟩; have n0_ := Aside0.mk (Kd.R_elder' (by (with_reducible repeat (first | apply Kd.R_alloc | apply Kd.R_drewN | apply Kd.R_drew)); exact HO103.out) (Kd.R_base ho0) hb); have n1_ := Aside0.mk (Kd.R_elder' (by (with_reducible repeat (first | apply Kd.R_alloc | apply Kd.R_drewN | apply Kd.R_drew)); exact HO106.out) (Kd.R_base ho0) hb); have n2_ := Aside0.mk (Kd.R_elder' (by (with_reducible repeat (first | apply Kd.R_alloc | apply Kd.R_drewN | apply Kd.R_drew)); exact HO111.out) (Kd.R_base ho0) hb); have n3_ := Aside0.mk (Kd.R_elder' (by (with_reducible repeat (first | apply Kd.R_alloc | apply Kd.R_drewN | apply Kd.R_drew)); exact HO113.out) (Kd.R_base ho0) hb); have n4_ := Aside0.mk (Kd.R_elder' (by (with_reducible repeat (first | apply Kd.R_alloc | apply Kd.R_drewN | apply Kd.R_drew)); exact HO118.out) (Kd.R_base ho0) hb); have n5_ := Aside0.mk (Kd.R_elder' (by (with_reducible repeat (first | apply Kd.R_alloc | apply Kd.R_drewN | apply Kd.R_drew)); exact HO120.out) (Kd.R_base ho0) hb); have n6_ := Aside0.mk (Kd.R_elder' (by (with_reducible repeat (first | apply Kd.R_alloc | apply Kd.R_drewN | apply Kd.R_drew)); exact HO123.out) (Kd.R_base ho0) hb); have n7_ := Aside0.mk (Kd.R_elder' (by (with_reducible repeat (first | apply Kd.R_alloc | apply Kd.R_drewN | apply Kd.R_drew)); exact HO126.out) (Kd.R_base ho0) hb); have n8_ := Aside0.mk (Kd.R_lower (Kd.R_new' (Kd.R_new' (Kd.R_new' (Kd.R_new' (Kd.R_new' (Kd.R_new' (Kd.R_new' (Kd.R_new' ho0 (Kd.R_lt (by (with_reducible repeat (first | apply Kd.R_alloc | apply Kd.R_drewN | apply Kd.R_drew)); exact HO103.out))) (Kd.R_lt (by (with_reducible repeat (first | apply Kd.R_alloc | apply Kd.R_drewN | apply Kd.R_drew)); exact HO106.out))) (Kd.R_lt (by (with_reducible repeat (first | apply Kd.R_alloc | apply Kd.R_drewN | apply Kd.R_drew)); exact HO111.out))) (Kd.R_lt (by (with_reducible repeat (first | apply Kd.R_alloc | apply Kd.R_drewN | apply Kd.R_drew)); exact HO113.out))) (Kd.R_lt (by (with_reducible repeat (first | apply Kd.R_alloc | apply Kd.R_drewN | apply Kd.R_drew)); exact HO118.out))) (Kd.R_lt (by (with_reducible repeat (first | apply Kd.R_alloc | apply Kd.R_drewN | apply Kd.R_drew)); exact HO120.out))) (Kd.R_lt (by (with_reducible repeat (first | apply Kd.R_alloc | apply Kd.R_drewN | apply Kd.R_drew)); exact HO123.out))) (Kd.R_lt (by (with_reducible repeat (first | apply Kd.R_alloc | apply Kd.R_drewN | apply Kd.R_drew)); exact HO126.out))) (below_size (by repeat (first | (with_reducible first | exact HB.out | apply below_alloc | apply pw_below_drewN | apply below_drew1) | exact HB.out)))); have n9_ := Aside0.mk (below_step (by repeat (first | (with_reducible first | exact HB.out | apply below_alloc | apply pw_below_drewN | apply below_drew1) | exact HB.out)) hb); clear HO103; clear HO106; clear HO111; clear HO113; clear HO118; clear HO120; clear HO123; clear HO126; clear HB; have HO103 := n0_; have HO106 := n1_; have HO111 := n2_; have HO113 := n3_; have HO118 := n4_; have HO120 := n5_; have HO123 := n6_; have HO126 := n7_; have HO129 := n8_; have HB := n9_; clear n0_ n1_ n2_ n3_ n4_ n5_ n6_ n7_ n8_ n9_; (try clear hb); (try clear hb2); (try clear hk); (try clear hi); (try clear ho0); obtain ⟨Ao33, co33, eo33⟩ := Kd.R_slice HO129.out; subst eo33) | ((with_reducible refine gate_callee (f := 28) rfl ?_); refine goesL_ (some 25) rfl rfl Try.func28 (by kernel_rfl) rfl #[.slice Ao33 t127.length co33, .int .i64 9] rfl (by (try simp only [List.map_toArray, List.map_cons, List.map_nil]); first | done | rfl | (simp only [List.length_drop, List.length_take]; rfl)) ?_; (with_reducible refine (nat_Write.calls _ _ t127 9 t130 t131 _ ?side1 ?side2 A8.out).mono ?_); (case side1 => repeat (first | exact (Kd.R_reads' HO129.out).2.2 | (with_reducible refine Kd.C_alloc ?_ _) | (with_reducible refine Kd.C_drewN ?_ _) | (with_reducible refine Kd.C_drew ?_))); (case side2 => exact (Kd.R_reads' HO129.out).2.1); rintro e w34 ⟨v132, rfl, ho0, hb⟩; refine ⟨_, rfl, ?_⟩; have n0_ := Aside0.mk (Kd.R_below (by (with_reducible repeat (first | apply Kd.R_alloc | apply Kd.R_drewN | apply Kd.R_drew)); exact HO103.out) hb); have n1_ := Aside0.mk (Kd.R_below (by (with_reducible repeat (first | apply Kd.R_alloc | apply Kd.R_drewN | apply Kd.R_drew)); exact HO106.out) hb); have n2_ := Aside0.mk (Kd.R_below (by (with_reducible repeat (first | apply Kd.R_alloc | apply Kd.R_drewN | apply Kd.R_drew)); exact HO111.out) hb); have n3_ := Aside0.mk (Kd.R_below (by (with_reducible repeat (first | apply Kd.R_alloc | apply Kd.R_drewN | apply Kd.R_drew)); exact HO113.out) hb); have n4_ := Aside0.mk (Kd.R_below (by (with_reducible repeat (first | apply Kd.R_alloc | apply Kd.R_drewN | apply Kd.R_drew)); exact HO118.out) hb); have n5_ := Aside0.mk (Kd.R_below (by (with_reducible repeat (first | apply Kd.R_alloc | apply Kd.R_drewN | apply Kd.R_drew)); exact HO120.out) hb); have n6_ := Aside0.mk (Kd.R_below (by (with_reducible repeat (first | apply Kd.R_alloc | apply Kd.R_drewN | apply Kd.R_drew)); exact HO123.out) hb); have n7_ := Aside0.mk (Kd.R_below (by (with_reducible repeat (first | apply Kd.R_alloc | apply Kd.R_drewN | apply Kd.R_drew)); exact HO126.out) hb); have n8_ := Aside0.mk (Kd.R_below (by (with_reducible repeat (first | apply Kd.R_alloc | apply Kd.R_drewN | apply Kd.R_drew)); exact HO129.out) hb); have n9_ := Aside0.mk (Kd.R_lower ho0 (below_size (by repeat (first | (with_reducible first | exact HB.out | apply below_alloc | apply pw_below_drewN | apply below_drew1) | exact HB.out)))); have n10_ := Aside0.mk (below_step (by repeat (first | (with_reducible first | exact HB.out | apply below_alloc | apply pw_below_drewN | apply below_drew1) | exact HB.out)) hb); clear HO103; clear HO106; clear HO111; clear HO113; clear HO118; clear HO120; clear HO123; clear HO126; clear HO129; clear HB; have HO103 := n0_; have HO106 := n1_; have HO111 := n2_; have HO113 := n3_; have HO118 := n4_; have HO120 := n5_; have HO123 := n6_; have HO126 := n7_; have HO129 := n8_; have HO133 := n9_; have HB := n10_; clear n0_ n1_ n2_ n3_ n4_ n5_ n6_ n7_ n8_ n9_ n10_; (try clear hb); (try clear hb2); (try clear hk); (try clear hi); (try clear ho0)) | (go_at_call 32; (with_reducible refine (nat_Of.calls 3 t134 _ A10.out).mono ?_); rintro e w35 ⟨v135, rfl, ho0, hb⟩; have n0_ := Aside0.mk (Kd.R_elder' (by (with_reducible repeat (first | apply Kd.R_alloc | apply Kd.R_drewN | apply Kd.R_drew)); exact HO103.out) (Kd.R_base ho0) hb); have n1_ := Aside0.mk (Kd.R_elder' (by (with_reducible repeat (first | apply Kd.R_alloc | apply Kd.R_drewN | apply Kd.R_drew)); exact HO106.out) (Kd.R_base ho0) hb); have n2_ := Aside0.mk (Kd.R_elder' (by (with_reducible repeat (first | apply Kd.R_alloc | apply Kd.R_drewN | apply Kd.R_drew)); exact HO111.out) (Kd.R_base ho0) hb); have n3_ := Aside0.mk (Kd.R_elder' (by (with_reducible repeat (first | apply Kd.R_alloc | apply Kd.R_drewN | apply Kd.R_drew)); exact HO113.out) (Kd.R_base ho0) hb); have n4_ := Aside0.mk (Kd.R_elder' (by (with_reducible repeat (first | apply Kd.R_alloc | apply Kd.R_drewN | apply Kd.R_drew)); exact HO118.out) (Kd.R_base ho0) hb); have n5_ := Aside0.mk (Kd.R_elder' (by (with_reducible repeat (first | apply Kd.R_alloc | apply Kd.R_drewN | apply Kd.R_drew)); exact HO120.out) (Kd.R_base ho0) hb); have n6_ := Aside0.mk (Kd.R_elder' (by (with_reducible repeat (first | apply Kd.R_alloc | apply Kd.R_drewN | apply Kd.R_drew)); exact HO123.out) (Kd.R_base ho0) hb); have n7_ := Aside0.mk (Kd.R_elder' (by (with_reducible repeat (first | apply Kd.R_alloc | apply Kd.R_drewN | apply Kd.R_drew)); exact HO126.out) (Kd.R_base ho0) hb); have n8_ := Aside0.mk (Kd.R_elder' (by (with_reducible repeat (first | apply Kd.R_alloc | apply Kd.R_drewN | apply Kd.R_drew)); exact HO129.out) (Kd.R_base ho0) hb); have n9_ := Aside0.mk (Kd.R_below (by (with_reducible repeat (first | apply Kd.R_alloc | apply Kd.R_drewN | apply Kd.R_drew)); exact HO133.out) hb); have n10_ := Aside0.mk (Kd.R_lower (Kd.R_new' (Kd.R_new' (Kd.R_new' (Kd.R_new' (Kd.R_new' (Kd.R_new' (Kd.R_new' (Kd.R_new' (Kd.R_new' ho0 (Kd.R_lt (by (with_reducible repeat (first | apply Kd.R_alloc | apply Kd.R_drewN | apply Kd.R_drew)); exact HO103.out))) (Kd.R_lt (by (with_reducible repeat (first | apply Kd.R_alloc | apply Kd.R_drewN | apply Kd.R_drew)); exact HO106.out))) (Kd.R_lt (by (with_reducible repeat (first | apply Kd.R_alloc | apply Kd.R_drewN | apply Kd.R_drew)); exact HO111.out))) (Kd.R_lt (by (with_reducible repeat (first | apply Kd.R_alloc | apply Kd.R_drewN | apply Kd.R_drew)); exact HO113.out))) (Kd.R_lt (by (with_reducible repeat (first | apply Kd.R_alloc | apply Kd.R_drewN | apply Kd.R_drew)); exact HO118.out))) (Kd.R_lt (by (with_reducible repeat (first | apply Kd.R_alloc | apply Kd.R_drewN | apply Kd.R_drew)); exact HO120.out))) (Kd.R_lt (by (with_reducible repeat (first | apply Kd.R_alloc | apply Kd.R_drewN | apply Kd.R_drew)); exact HO123.out))) (Kd.R_lt (by (with_reducible repeat (first | apply Kd.R_alloc | apply Kd.R_drewN | apply Kd.R_drew)); exact HO126.out))) (Kd.R_lt (by (with_reducible repeat (first | apply Kd.R_alloc | apply Kd.R_drewN | apply Kd.R_drew)); exact HO129.out))) (below_size (by repeat (first | (with_reducible first | exact HB.out | apply below_alloc | apply pw_below_drewN | apply below_drew1) | exact HB.out)))); have n11_ := Aside0.mk (below_step (by repeat (first | (with_reducible first | exact HB.out | apply below_alloc | apply pw_below_drewN | apply below_drew1) | exact HB.out)) hb); clear HO103; clear HO106; clear HO111; clear HO113; clear HO118; clear HO120; clear HO123; clear HO126; clear HO129; clear HO133; clear HB; have HO103 := n0_; have HO106 := n1_; have HO111 := n2_; have HO113 := n3_; have HO118 := n4_; have HO120 := n5_; have HO123 := n6_; have HO126 := n7_; have HO129 := n8_; have HO133 := n9_; have HO136 := n10_; have HB := n11_; clear n0_ n1_ n2_ n3_ n4_ n5_ n6_ n7_ n8_ n9_ n10_ n11_; (try clear hb); (try clear hb2); (try clear hk); (try clear hi); (try clear ho0); obtain ⟨Ao36, co36, eo36⟩ := Kd.R_slice HO111.out; subst eo36; obtain ⟨Ao37, co37, eo37⟩ := Kd.R_slice HO136.out; subst eo37) | (go_at_call 36; (with_reducible refine (nat_Cmp.calls _ _ t107 _ _ t134 t137 _ ?side1 ?side2 ?side3 ?side4 A11.out).mono ?_); (case side1 => repeat (first | exact (Kd.R_reads' HO111.out).2.2 | (with_reducible refine Kd.C_alloc ?_ _) | (with_reducible refine Kd.C_drewN ?_ _) | (with_reducible refine Kd.C_drew ?_))); (case side2 => exact (Kd.R_reads' HO111.out).2.1); (case side3 => repeat (first | exact (Kd.R_reads' HO136.out).2.2 | (with_reducible refine Kd.C_alloc ?_ _) | (with_reducible refine Kd.C_drewN ?_ _) | (with_reducible refine Kd.C_drew ?_))); (case side4 => exact (Kd.R_reads' HO136.out).2.1); rintro e w' ⟨rfl, ⟨nd, rfl⟩⟩; obtain ⟨Ao38, co38, eo38⟩ := Kd.R_slice HO113.out; subst eo38; have p138 : 0 ≤ (0 : Int) := (by omega); have q138 : 0 < (t108.length : Int) := of_decide_eq_true (by first | (with_reducible assumption) | assumption); obtain ⟨ad138, e138, hx138_0⟩ := Kd.at_int (Kd.R_reads' HO113.out).2.2 0 p138 q138; cases e138; have qi138 : (0 < t108.length) = True := eq_true (by omega); (try rw [show ((0 : Int)).toNat = 0 from rfl] at hx138_0); (try rw [Addr.add_zero'] at hx138_0); replace p138 := eq_true p138; replace q138 := eq_true q138; obtain ⟨Ao39, co39, eo39⟩ := Kd.R_slice HO133.out; subst eo39; have p139 : 0 ≤ (0 : Int) := (by omega); have q139 : 0 < (t130.length : Int) := of_decide_eq_true (by first | (with_reducible assumption) | assumption); obtain ⟨ad139, e139, hx139_0⟩ := Kd.at_int (Kd.R_reads' HO133.out).2.2 0 p139 q139; cases e139; have qi139 : (0 < t130.length) = True := eq_true (by omega); (try rw [show ((0 : Int)).toNat = 0 from rfl] at hx139_0); (try rw [Addr.add_zero'] at hx139_0); replace p139 := eq_true p139; replace q139 := eq_true q139; have p140 : 0 ≤ (1 : Int) := (by omega); have q140 : 1 < (t130.length : Int) := of_decide_eq_true (by first | (with_reducible assumption) | assumption); obtain ⟨ad140, e140, hx140_0⟩ := Kd.at_int (Kd.R_reads' HO133.out).2.2 1 p140 q140; obtain rfl : ad139 = ad140 := (by injection e140); (try simp only [show (1 : Int).toNat = 1 from rfl, Nat.reduceMul, Nat.reduceEqDiff, Go.Addr.add, ↓reduceIte] at hx140_0); have qi140 : (1 < t130.length) = True := eq_true (by omega); (try rw [show ((1 : Int)).toNat = 1 from rfl] at hx140_0); replace p140 := eq_true p140; replace q140 := eq_true q140))
                        go_ret
                        exact ⟨by first | rfl | (simp [errW_none, errW_some] <;> rfl) | (simp [*, errW_none, errW_some] <;> rfl), by repeat (first | (with_reducible first | exact HB.out | apply below_alloc | apply pw_below_drewN | apply below_drew1) | exact HB.out)⟩
                      · rw [if_neg c21] at H
                        exact absurd H (by simp)
                    · rw [if_neg c20] at H
                      have c20b0 : ((rd t130 0) == 3) = false := beq_eq_false_iff_ne.mpr c20
                      have c20b1 : ((rd t130 0) != 3) = true := bne_iff_ne.mpr c20
                      obtain rfl := Option.some.inj H
                      exact absurd HTR_.out (by decide)
                  · rw [if_neg c19] at H
                    exact absurd H (by simp)
                · rw [if_neg c18] at H
                  have c18b0 : ((t130.length : Int) == 9) = false := beq_eq_false_iff_ne.mpr c18
                  have c18b1 : ((t130.length : Int) != 9) = true := bne_iff_ne.mpr c18
                  obtain rfl := Option.some.inj H
                  exact absurd HTR_.out (by decide)
              · rw [if_neg c17] at H
                have c17b0 : (t131 == 0) = false := beq_eq_false_iff_ne.mpr c17
                have c17b1 : (t131 != 0) = true := bne_iff_ne.mpr c17
                obtain rfl := Option.some.inj H
                exact absurd HTR_.out (by decide)
            · rw [if_neg c16] at H
              have c16b0 : (t116 == 11) = false := beq_eq_false_iff_ne.mpr c16
              have c16b1 : (t116 != 11) = true := bne_iff_ne.mpr c16
              obtain rfl := Option.some.inj H
              exact absurd HTR_.out (by decide)
          · rw [if_neg c15] at H
            have c15b0 : ((rd t108 0) == 1) = false := beq_eq_false_iff_ne.mpr c15
            have c15b1 : ((rd t108 0) != 1) = true := bne_iff_ne.mpr c15
            obtain rfl := Option.some.inj H
            exact absurd HTR_.out (by decide)
        · rw [if_neg c14] at H
          exact absurd H (by simp)
      · rw [if_neg c13] at H
        have c13b0 : ((t108.length : Int) == 1) = false := beq_eq_false_iff_ne.mpr c13
        have c13b1 : ((t108.length : Int) != 1) = true := bne_iff_ne.mpr c13
        obtain rfl := Option.some.inj H
        exact absurd HTR_.out (by decide)
    · rw [if_neg c12] at H
      have c12b0 : (t137 == 0) = false := beq_eq_false_iff_ne.mpr c12
      have c12b1 : (t137 != 0) = true := bne_iff_ne.mpr c12
      obtain rfl := Option.some.inj H
      exact absurd HTR_.out (by decide)
  · rw [if_neg c9] at H
    have c9b0 : (t109 == 0) = false := beq_eq_false_iff_ne.mpr c9
    have c9b1 : (t109 != 0) = true := bne_iff_ne.mpr c9
    obtain rfl := Option.some.inj H
    exact absurd HTR_.out (by decide)

end Go.Proofs.Ytgdogaehiikngaa.Cv

/- The fixed calls of layer 1 answer as they must. -/
namespace Go.Proofs.Ytgdogaehiikngaa
set_option linter.unusedSimpArgs false
set_option linter.unusedVariables false
open Go.RowKit Go.Proofs.YtgdogaehiikngaaW.PrintWords Go.Proofs.YtgdogaehiikngaaW.PrintLast Go.Proofs.YtgdogaehiikngaaW.PrintMore

theorem okS {n : Nat} (h : n < 18446744073709551616) : okN 262144 (ofN n) := okN_ofN (Nat.le_trans (ln_small h) (by omega))
theorem alive_pure : Cv.clepsydralaw01_alive.f = some true := by
  have o7 : Cv.nat_Of.f 7 = some (ofN 7) := by unfold Cv.nat_Of.f; rw [if_pos (by omega)]; rfl
  have o2 : Cv.nat_Of.f 2 = some (ofN 2) := by unfold Cv.nat_Of.f; rw [if_pos (by omega)]; rfl
  have o6 : Cv.nat_Of.f 6 = some (ofN 6) := by unfold Cv.nat_Of.f; rw [if_pos (by omega)]; rfl
  have o3 : Cv.nat_Of.f 3 = some (ofN 3) := by unfold Cv.nat_Of.f; rw [if_pos (by omega)]; rfl
  have ob : Cv.nat_Of.f 9223372036854775808 = some (ofN 9223372036854775808) := by unfold Cv.nat_Of.f; rw [if_pos (by omega)]; rfl
  have d1 : Cv.nat_Div.f (ofN 7) (ofN 2) = some (ofN 3, ofN 1, 0) := by unfold Cv.nat_Div.f; rw [if_pos ⟨okS (by omega), okS (by omega)⟩, nI_ofN, nI_ofN]; rfl
  have d2 : Cv.nat_Div.f [] [] = some (ofN 0, ofN 0, 11) := by unfold Cv.nat_Div.f; rw [if_pos ⟨okN_nil _, okN_nil _⟩]; rfl
  have m1 : Cv.nat_Mul.f (ofN 9223372036854775808) (ofN 6) = some (ofN 55340232221128654848) := by unfold Cv.nat_Mul.f; rw [if_pos ⟨okS (by omega), okS (by omega)⟩, nI_ofN, nI_ofN]
  have hb : blen 55340232221128654848 ≤ 72 := blen_le.2 (by decide)
  have w1 : Cv.nat_Write.f (ofN 55340232221128654848) 9 = some (beB 55340232221128654848 9, 0) := by
    unfold Cv.nat_Write.f
    rw [if_pos (okN_ofN (ln_le.2 (Nat.lt_of_lt_of_le (show 55340232221128654848 < 18446744073709551616 ^ 2 by decide) (Nat.pow_le_pow_right (by omega) (by omega))))), nI_ofN]
    unfold writeR
    rw [if_neg (by omega), if_neg (by omega)]; rfl
  have c1 : Cv.nat_Cmp.f (ofN 3) (ofN 3) = some 0 := by unfold Cv.nat_Cmp.f; rw [if_pos ⟨okS (by omega), okS (by omega)⟩, cmpN_eq rfl]
  have e1 : ofN 1 = [1] := by unfold ofN; rw [limbs_pos (by omega), show 1 / 18446744073709551616 = 0 by decide, limbs_zero]; rfl
  have hl : (beB 55340232221128654848 9).length = 9 := beB_length _ _
  have r0 : rd (beB 55340232221128654848 9) 0 = 3 := by decide
  have r1 : rd (beB 55340232221128654848 9) 1 = 0 := by decide
  unfold Cv.clepsydralaw01_alive.f
  simp only [o7, o2, o6, o3, ob, d1, d2, m1, w1, Option.bind_some, c1, e1, hl, r0, r1, if_true]
  rfl
theorem alive_giv {r : Bool} {w : World} (h : some true = some r) : Calls Try.prog 13 #[] w fun e w' => e = .returned (.bool r) ∧ Below w.heap.size w w' := by
  obtain rfl := Option.some.inj h
  exact Cv.clepsydralaw01_alive.calls _ _ alive_pure rfl

/-- what a law's arguments are -/
theorem okL {l : List Int} {m : Nat} (h : l.length ≤ m) (hw : ∀ x ∈ l, (Lit.int .u64 x).wf = true) : okN m l := by
  refine ⟨h, fun x hx => ?_⟩
  have := hw x hx
  have e : IntKind.u64.min ≤ x ∧ x ≤ IntKind.u64.max := by simpa [Lit.wf] using this
  have e0 : IntKind.u64.min = 0 := rfl
  have e1 : IntKind.u64.max = 18446744073709551615 := rfl
  omega
theorem i64_wf {x : Int} (h : (Lit.int .i64 x).wf = true) : -9223372036854775808 ≤ x ∧ x ≤ 9223372036854775807 := by
  have e : IntKind.i64.min ≤ x ∧ x ≤ IntKind.i64.max := by simpa [Lit.wf] using h
  have e0 : IntKind.i64.min = -9223372036854775808 := rfl
  have e1 : IntKind.i64.max = 9223372036854775807 := rfl
  omega
theorem okB_wf {l : List Int} (hw : ∀ x ∈ l, (Lit.int .u8 x).wf = true) : okB l := by
  intro x hx
  have := hw x hx
  have e : IntKind.u8.min ≤ x ∧ x ≤ IntKind.u8.max := by simpa [Lit.wf] using this
  have e0 : IntKind.u8.min = 0 := rfl
  have e1 : IntKind.u8.max = 255 := rfl
  omega
end Go.Proofs.Ytgdogaehiikngaa

/- Small facts for the laws of layer 1. -/
namespace Go.Proofs.Ytgdogaehiikngaa
set_option linter.unusedSimpArgs false
set_option linter.unusedVariables false
open Go.RowKit

theorem ok {n m : Nat} (h : ln n ≤ m) (hm : m ≤ 262144) : okN 262144 (ofN n) := okN_ofN (Nat.le_trans h hm)
theorem ofN_inj {a b : Nat} (h : ofN a = ofN b) : a = b := by rw [← nI_ofN a, h, nI_ofN]
theorem cmpN_neg (a b : Nat) : cmpN a b = -cmpN b a := by unfold cmpN; split <;> split <;> (try split) <;> omega
theorem cmpN_add (a b c : Nat) : cmpN (a + c) (b + c) = cmpN a b := by unfold cmpN; split <;> split <;> (try split) <;> (try split) <;> omega
end Go.Proofs.Ytgdogaehiikngaa
