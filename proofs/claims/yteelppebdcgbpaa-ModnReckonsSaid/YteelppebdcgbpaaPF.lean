/- Texts of this claim, joined: what its laws use. -/
import Derived.Test.YteelppebdcgbpaaPE
import Derived.SizedLaws
import Derived.ChangeSlices
namespace Go.Proofs.Yteelppebdcgbpaa.Cv
open Go.RowKit Go.Proofs.YteelppebdcgbpaaW.PrintWords Go.Proofs.YteelppebdcgbpaaW.PrintLast Go.Proofs.YteelppebdcgbpaaW.PrintMore
attribute [local go_sem] max2_int min2_int max_two min_two max_three min_three max_four min_four   -- for this text's walks alone
set_option linter.unusedVariables false
set_option linter.unusedSimpArgs false
def modn_Mod.f (l0 : List Int) (l1 : List Int) : Option (List Int × Int) := if okN 262144 l0 ∧ okN 262144 l1 then some (modR (nI l0) (nI l1)) else none
theorem modn_Mod.calls (A0 : Option Addr) (c0 : Nat) (l0 : List Int) (A1 : Option Addr) (c1 : Nat) (l1 : List Int) (r1 : List Int) (r2 : Int) (w : World) (hr0 : Kd.C (Kd.int .u64) w A0 l0.length l0) (hc0 : l0.length ≤ c0) (hr1 : Kd.C (Kd.int .u64) w A1 l1.length l1) (hc1 : l1.length ≤ c1) (h : modn_Mod.f l0 l1 = some (r1, r2)) :
    Calls Try.prog 13 #[.slice A0 l0.length c0, .slice A1 l1.length c1] w fun e w' => ∃ v0_ : Value, e = .returned (.tuple #[v0_, .int .i64 r2]) ∧ Kd.R (Kd.int .u64) 35 w' w.heap.size (fun _ => True) v0_ r1 ∧ Below w.heap.size w w' := by
  exact mod_giv hr0 hc0 hr1 hc1 h
def modn_Pow.f (l0 : List Int) (l1 : List Int) (l2 : List Int) : Option (List Int × Int) := if okN 4096 l0 ∧ okN 4096 l1 ∧ okN 1024 l2 then some (powR (nI l0) (nI l1) (nI l2)) else none
theorem modn_Pow.calls (A0 : Option Addr) (c0 : Nat) (l0 : List Int) (A1 : Option Addr) (c1 : Nat) (l1 : List Int) (A2 : Option Addr) (c2 : Nat) (l2 : List Int) (r1 : List Int) (r2 : Int) (w : World) (hr0 : Kd.C (Kd.int .u64) w A0 l0.length l0) (hc0 : l0.length ≤ c0) (hr1 : Kd.C (Kd.int .u64) w A1 l1.length l1) (hc1 : l1.length ≤ c1) (hr2 : Kd.C (Kd.int .u64) w A2 l2.length l2) (hc2 : l2.length ≤ c2) (h : modn_Pow.f l0 l1 l2 = some (r1, r2)) :
    Calls Try.prog 18 #[.slice A0 l0.length c0, .slice A1 l1.length c1, .slice A2 l2.length c2] w fun e w' => ∃ v0_ : Value, e = .returned (.tuple #[v0_, .int .i64 r2]) ∧ Kd.R (Kd.int .u64) 35 w' w.heap.size (fun _ => True) v0_ r1 ∧ Below w.heap.size w w' := by
  exact pow_giv hr0 hc0 hr1 hc1 hr2 hc2 h
def modn_Inverse.f (l0 : List Int) (l1 : List Int) : Option (List Int × Int) := if okN 65536 l0 ∧ okN 65536 l1 then some (invR (nI l0) (nI l1)) else none
theorem modn_Inverse.calls (A0 : Option Addr) (c0 : Nat) (l0 : List Int) (A1 : Option Addr) (c1 : Nat) (l1 : List Int) (r1 : List Int) (r2 : Int) (w : World) (hr0 : Kd.C (Kd.int .u64) w A0 l0.length l0) (hc0 : l0.length ≤ c0) (hr1 : Kd.C (Kd.int .u64) w A1 l1.length l1) (hc1 : l1.length ≤ c1) (h : modn_Inverse.f l0 l1 = some (r1, r2)) :
    Calls Try.prog 20 #[.slice A0 l0.length c0, .slice A1 l1.length c1] w fun e w' => ∃ v0_ : Value, e = .returned (.tuple #[v0_, .int .i64 r2]) ∧ Kd.R (Kd.int .u64) 35 w' w.heap.size (fun _ => True) v0_ r1 ∧ Below w.heap.size w w' := by
  exact inverse_giv hr0 hc0 hr1 hc1 h
def modn_Gcd.f (l0 : List Int) (l1 : List Int) : Option (List Int) := if okN 262144 l0 ∧ okN 262144 l1 then some (ofN (Nat.gcd (nI l0) (nI l1))) else none
theorem modn_Gcd.calls (A0 : Option Addr) (c0 : Nat) (l0 : List Int) (A1 : Option Addr) (c1 : Nat) (l1 : List Int) (r : List Int) (w : World) (hr0 : Kd.C (Kd.int .u64) w A0 l0.length l0) (hc0 : l0.length ≤ c0) (hr1 : Kd.C (Kd.int .u64) w A1 l1.length l1) (hc1 : l1.length ≤ c1) (h : modn_Gcd.f l0 l1 = some r) :
    Calls Try.prog 22 #[.slice A0 l0.length c0, .slice A1 l1.length c1] w fun e w' => ∃ v0_ : Value, e = .returned (v0_) ∧ Kd.R (Kd.int .u64) 35 w' w.heap.size (fun _ => True) v0_ r ∧ Below w.heap.size w w' := by
  exact gcd_giv hr0 hc0 hr1 hc1 h
def nat_Of.f (a0 : Int) : Option (List Int) := if 0 ≤ a0 ∧ a0 < 18446744073709551616 then some (ofN a0.toNat) else none
theorem nat_Of.calls (a0 : Int) (r : List Int) (w : World) (h : nat_Of.f a0 = some r) :
    Calls Try.prog 27 #[.int .u64 a0] w fun e w' => ∃ v0_ : Value, e = .returned (v0_) ∧ Kd.R (Kd.int .u64) 35 w' w.heap.size (fun _ => True) v0_ r ∧ Below w.heap.size w w' := by
  exact of_giv h
def nat_Cmp.f (l0 : List Int) (l1 : List Int) : Option (Int) := if okN 262144 l0 ∧ okN 262144 l1 then some (cmpN (nI l0) (nI l1)) else none
theorem nat_Cmp.calls (A0 : Option Addr) (c0 : Nat) (l0 : List Int) (A1 : Option Addr) (c1 : Nat) (l1 : List Int) (r : Int) (w : World) (hr0 : Kd.C (Kd.int .u64) w A0 l0.length l0) (hc0 : l0.length ≤ c0) (hr1 : Kd.C (Kd.int .u64) w A1 l1.length l1) (hc1 : l1.length ≤ c1) (h : nat_Cmp.f l0 l1 = some r) :
    Calls Try.prog 28 #[.slice A0 l0.length c0, .slice A1 l1.length c1] w fun e w' => e = .returned (.int .i64 r) ∧ Drawn0 w w' := by
  exact cmp_giv hr0 hc0 hr1 hc1 h
def modn_Tells.f (l0 : List Int) (a1 : Int) : Option (Bool) := if okN 1024 l0 ∧ 0 ≤ a1 ∧ a1 < 18446744073709551616 then some (tellsN (nI l0) a1.toNat) else none
theorem modn_Tells.calls (A0 : Option Addr) (c0 : Nat) (l0 : List Int) (a1 : Int) (r : Bool) (w : World) (hr0 : Kd.C (Kd.int .u64) w A0 l0.length l0) (hc0 : l0.length ≤ c0) (h : modn_Tells.f l0 a1 = some r) :
    Calls Try.prog 29 #[.slice A0 l0.length c0, .int .u64 a1] w fun e w' => e = .returned (.bool r) ∧ Below w.heap.size w w' := by
  exact tells_giv hr0 hc0 h
def modn_Sure.f (a0 : Int) : Option (Bool) := if 0 ≤ a0 ∧ a0 < 4294967296 then some (sureN a0.toNat) else none
theorem modn_Sure.calls (a0 : Int) (r : Bool) (w : World) (h : modn_Sure.f a0 = some r) :
    Calls Try.prog 33 #[.int .u32 a0] w fun e w' => e = .returned (.bool r) ∧ Drawn0 w w' := by
  exact sure_giv h
def clepsydralaw03_alive.f  : Option (Bool) := (nat_Of.f 3).bind fun t101 => ((nat_Of.f 5).bind fun t104 => ((nat_Of.f 7).bind fun t107 => ((modn_Pow.f t101 t104 t107).bind fun bt110 => ((nat_Of.f 3).bind fun t114 => ((nat_Of.f 7).bind fun t117 => ((modn_Inverse.f t114 t117).bind fun bt120 => ((nat_Of.f 3).bind fun t124 => ((modn_Mod.f t124 ([] : List Int)).bind fun bt127 => (if bt110.2 = 0 then ((nat_Of.f 5).bind fun t131 => ((nat_Cmp.f bt110.1 t131).bind fun t134 => (if t134 = 0 then (if bt120.2 = 0 then ((nat_Of.f 5).bind fun t135 => ((nat_Cmp.f bt120.1 t135).bind fun t138 => (if t138 = 0 then (if bt127.2 = 11 then ((nat_Of.f 12).bind fun t139 => ((nat_Of.f 18).bind fun t142 => ((modn_Gcd.f t139 t142).bind fun t145 => ((nat_Of.f 6).bind fun t148 => ((nat_Cmp.f t145 t148).bind fun t151 => (if t151 = 0 then ((nat_Of.f 9).bind fun t152 => ((modn_Tells.f t152 2).bind fun t155 => (if t155 = true then ((modn_Sure.f 7).bind fun t156 => (some t156)) else (some false)))) else (some false))))))) else (some false)) else (some false)))) else (some false)) else (some false)))) else (some false))))))))))
set_option maxHeartbeats 8000000 in
set_option maxRecDepth 100000 in
theorem clepsydralaw03_alive.calls  (r : Bool) (w : World) (h : clepsydralaw03_alive.f  = some r) (hr_ : r = true) :
    Calls Try.prog 12 #[] w fun e w' => e = .returned (.bool r) ∧ Below w.heap.size w w' := by
  have HTR_ := Aside0.mk hr_
  clear hr_
  have HB := Aside0.mk (Below.refl w.heap.size w)
  have H : ((nat_Of.f 3).bind fun t101 => ((nat_Of.f 5).bind fun t104 => ((nat_Of.f 7).bind fun t107 => ((modn_Pow.f t101 t104 t107).bind fun bt110 => ((nat_Of.f 3).bind fun t114 => ((nat_Of.f 7).bind fun t117 => ((modn_Inverse.f t114 t117).bind fun bt120 => ((nat_Of.f 3).bind fun t124 => ((modn_Mod.f t124 ([] : List Int)).bind fun bt127 => (if bt110.2 = 0 then ((nat_Of.f 5).bind fun t131 => ((nat_Cmp.f bt110.1 t131).bind fun t134 => (if t134 = 0 then (if bt120.2 = 0 then ((nat_Of.f 5).bind fun t135 => ((nat_Cmp.f bt120.1 t135).bind fun t138 => (if t138 = 0 then (if bt127.2 = 11 then ((nat_Of.f 12).bind fun t139 => ((nat_Of.f 18).bind fun t142 => ((modn_Gcd.f t139 t142).bind fun t145 => ((nat_Of.f 6).bind fun t148 => ((nat_Cmp.f t145 t148).bind fun t151 => (if t151 = 0 then ((nat_Of.f 9).bind fun t152 => ((modn_Tells.f t152 2).bind fun t155 => (if t155 = true then ((modn_Sure.f 7).bind fun t156 => (some t156)) else (some false)))) else (some false))))))) else (some false)) else (some false)))) else (some false)) else (some false)))) else (some false))))))))))) = some r := h
  clear h
  replace H := Option.bind_eq_some_iff.mp H
  obtain ⟨t101, A10, H⟩ := H
  replace H : ((nat_Of.f 5).bind fun t104 => ((nat_Of.f 7).bind fun t107 => ((modn_Pow.f t101 t104 t107).bind fun bt110 => ((nat_Of.f 3).bind fun t114 => ((nat_Of.f 7).bind fun t117 => ((modn_Inverse.f t114 t117).bind fun bt120 => ((nat_Of.f 3).bind fun t124 => ((modn_Mod.f t124 ([] : List Int)).bind fun bt127 => (if bt110.2 = 0 then ((nat_Of.f 5).bind fun t131 => ((nat_Cmp.f bt110.1 t131).bind fun t134 => (if t134 = 0 then (if bt120.2 = 0 then ((nat_Of.f 5).bind fun t135 => ((nat_Cmp.f bt120.1 t135).bind fun t138 => (if t138 = 0 then (if bt127.2 = 11 then ((nat_Of.f 12).bind fun t139 => ((nat_Of.f 18).bind fun t142 => ((modn_Gcd.f t139 t142).bind fun t145 => ((nat_Of.f 6).bind fun t148 => ((nat_Cmp.f t145 t148).bind fun t151 => (if t151 = 0 then ((nat_Of.f 9).bind fun t152 => ((modn_Tells.f t152 2).bind fun t155 => (if t155 = true then ((modn_Sure.f 7).bind fun t156 => (some t156)) else (some false)))) else (some false))))))) else (some false)) else (some false)))) else (some false)) else (some false)))) else (some false)))))))))) = some r := H
  have A1 := Aside0.mk A10
  clear A10
  replace H := Option.bind_eq_some_iff.mp H
  obtain ⟨t104, A20, H⟩ := H
  replace H : ((nat_Of.f 7).bind fun t107 => ((modn_Pow.f t101 t104 t107).bind fun bt110 => ((nat_Of.f 3).bind fun t114 => ((nat_Of.f 7).bind fun t117 => ((modn_Inverse.f t114 t117).bind fun bt120 => ((nat_Of.f 3).bind fun t124 => ((modn_Mod.f t124 ([] : List Int)).bind fun bt127 => (if bt110.2 = 0 then ((nat_Of.f 5).bind fun t131 => ((nat_Cmp.f bt110.1 t131).bind fun t134 => (if t134 = 0 then (if bt120.2 = 0 then ((nat_Of.f 5).bind fun t135 => ((nat_Cmp.f bt120.1 t135).bind fun t138 => (if t138 = 0 then (if bt127.2 = 11 then ((nat_Of.f 12).bind fun t139 => ((nat_Of.f 18).bind fun t142 => ((modn_Gcd.f t139 t142).bind fun t145 => ((nat_Of.f 6).bind fun t148 => ((nat_Cmp.f t145 t148).bind fun t151 => (if t151 = 0 then ((nat_Of.f 9).bind fun t152 => ((modn_Tells.f t152 2).bind fun t155 => (if t155 = true then ((modn_Sure.f 7).bind fun t156 => (some t156)) else (some false)))) else (some false))))))) else (some false)) else (some false)))) else (some false)) else (some false)))) else (some false))))))))) = some r := H
  have A2 := Aside0.mk A20
  clear A20
  replace H := Option.bind_eq_some_iff.mp H
  obtain ⟨t107, A30, H⟩ := H
  replace H : ((modn_Pow.f t101 t104 t107).bind fun bt110 => ((nat_Of.f 3).bind fun t114 => ((nat_Of.f 7).bind fun t117 => ((modn_Inverse.f t114 t117).bind fun bt120 => ((nat_Of.f 3).bind fun t124 => ((modn_Mod.f t124 ([] : List Int)).bind fun bt127 => (if bt110.2 = 0 then ((nat_Of.f 5).bind fun t131 => ((nat_Cmp.f bt110.1 t131).bind fun t134 => (if t134 = 0 then (if bt120.2 = 0 then ((nat_Of.f 5).bind fun t135 => ((nat_Cmp.f bt120.1 t135).bind fun t138 => (if t138 = 0 then (if bt127.2 = 11 then ((nat_Of.f 12).bind fun t139 => ((nat_Of.f 18).bind fun t142 => ((modn_Gcd.f t139 t142).bind fun t145 => ((nat_Of.f 6).bind fun t148 => ((nat_Cmp.f t145 t148).bind fun t151 => (if t151 = 0 then ((nat_Of.f 9).bind fun t152 => ((modn_Tells.f t152 2).bind fun t155 => (if t155 = true then ((modn_Sure.f 7).bind fun t156 => (some t156)) else (some false)))) else (some false))))))) else (some false)) else (some false)))) else (some false)) else (some false)))) else (some false)))))))) = some r := H
  have A3 := Aside0.mk A30
  clear A30
  replace H := Option.bind_eq_some_iff.mp H
  obtain ⟨⟨t110, t111⟩, A40, H⟩ := H
  replace H : ((nat_Of.f 3).bind fun t114 => ((nat_Of.f 7).bind fun t117 => ((modn_Inverse.f t114 t117).bind fun bt120 => ((nat_Of.f 3).bind fun t124 => ((modn_Mod.f t124 ([] : List Int)).bind fun bt127 => (if t111 = 0 then ((nat_Of.f 5).bind fun t131 => ((nat_Cmp.f t110 t131).bind fun t134 => (if t134 = 0 then (if bt120.2 = 0 then ((nat_Of.f 5).bind fun t135 => ((nat_Cmp.f bt120.1 t135).bind fun t138 => (if t138 = 0 then (if bt127.2 = 11 then ((nat_Of.f 12).bind fun t139 => ((nat_Of.f 18).bind fun t142 => ((modn_Gcd.f t139 t142).bind fun t145 => ((nat_Of.f 6).bind fun t148 => ((nat_Cmp.f t145 t148).bind fun t151 => (if t151 = 0 then ((nat_Of.f 9).bind fun t152 => ((modn_Tells.f t152 2).bind fun t155 => (if t155 = true then ((modn_Sure.f 7).bind fun t156 => (some t156)) else (some false)))) else (some false))))))) else (some false)) else (some false)))) else (some false)) else (some false)))) else (some false))))))) = some r := H
  have A4 := Aside0.mk A40
  clear A40
  replace H := Option.bind_eq_some_iff.mp H
  obtain ⟨t114, A50, H⟩ := H
  replace H : ((nat_Of.f 7).bind fun t117 => ((modn_Inverse.f t114 t117).bind fun bt120 => ((nat_Of.f 3).bind fun t124 => ((modn_Mod.f t124 ([] : List Int)).bind fun bt127 => (if t111 = 0 then ((nat_Of.f 5).bind fun t131 => ((nat_Cmp.f t110 t131).bind fun t134 => (if t134 = 0 then (if bt120.2 = 0 then ((nat_Of.f 5).bind fun t135 => ((nat_Cmp.f bt120.1 t135).bind fun t138 => (if t138 = 0 then (if bt127.2 = 11 then ((nat_Of.f 12).bind fun t139 => ((nat_Of.f 18).bind fun t142 => ((modn_Gcd.f t139 t142).bind fun t145 => ((nat_Of.f 6).bind fun t148 => ((nat_Cmp.f t145 t148).bind fun t151 => (if t151 = 0 then ((nat_Of.f 9).bind fun t152 => ((modn_Tells.f t152 2).bind fun t155 => (if t155 = true then ((modn_Sure.f 7).bind fun t156 => (some t156)) else (some false)))) else (some false))))))) else (some false)) else (some false)))) else (some false)) else (some false)))) else (some false)))))) = some r := H
  have A5 := Aside0.mk A50
  clear A50
  replace H := Option.bind_eq_some_iff.mp H
  obtain ⟨t117, A60, H⟩ := H
  replace H : ((modn_Inverse.f t114 t117).bind fun bt120 => ((nat_Of.f 3).bind fun t124 => ((modn_Mod.f t124 ([] : List Int)).bind fun bt127 => (if t111 = 0 then ((nat_Of.f 5).bind fun t131 => ((nat_Cmp.f t110 t131).bind fun t134 => (if t134 = 0 then (if bt120.2 = 0 then ((nat_Of.f 5).bind fun t135 => ((nat_Cmp.f bt120.1 t135).bind fun t138 => (if t138 = 0 then (if bt127.2 = 11 then ((nat_Of.f 12).bind fun t139 => ((nat_Of.f 18).bind fun t142 => ((modn_Gcd.f t139 t142).bind fun t145 => ((nat_Of.f 6).bind fun t148 => ((nat_Cmp.f t145 t148).bind fun t151 => (if t151 = 0 then ((nat_Of.f 9).bind fun t152 => ((modn_Tells.f t152 2).bind fun t155 => (if t155 = true then ((modn_Sure.f 7).bind fun t156 => (some t156)) else (some false)))) else (some false))))))) else (some false)) else (some false)))) else (some false)) else (some false)))) else (some false))))) = some r := H
  have A6 := Aside0.mk A60
  clear A60
  replace H := Option.bind_eq_some_iff.mp H
  obtain ⟨⟨t120, t121⟩, A70, H⟩ := H
  replace H : ((nat_Of.f 3).bind fun t124 => ((modn_Mod.f t124 ([] : List Int)).bind fun bt127 => (if t111 = 0 then ((nat_Of.f 5).bind fun t131 => ((nat_Cmp.f t110 t131).bind fun t134 => (if t134 = 0 then (if t121 = 0 then ((nat_Of.f 5).bind fun t135 => ((nat_Cmp.f t120 t135).bind fun t138 => (if t138 = 0 then (if bt127.2 = 11 then ((nat_Of.f 12).bind fun t139 => ((nat_Of.f 18).bind fun t142 => ((modn_Gcd.f t139 t142).bind fun t145 => ((nat_Of.f 6).bind fun t148 => ((nat_Cmp.f t145 t148).bind fun t151 => (if t151 = 0 then ((nat_Of.f 9).bind fun t152 => ((modn_Tells.f t152 2).bind fun t155 => (if t155 = true then ((modn_Sure.f 7).bind fun t156 => (some t156)) else (some false)))) else (some false))))))) else (some false)) else (some false)))) else (some false)) else (some false)))) else (some false)))) = some r := H
  have A7 := Aside0.mk A70
  clear A70
  replace H := Option.bind_eq_some_iff.mp H
  obtain ⟨t124, A80, H⟩ := H
  replace H : ((modn_Mod.f t124 ([] : List Int)).bind fun bt127 => (if t111 = 0 then ((nat_Of.f 5).bind fun t131 => ((nat_Cmp.f t110 t131).bind fun t134 => (if t134 = 0 then (if t121 = 0 then ((nat_Of.f 5).bind fun t135 => ((nat_Cmp.f t120 t135).bind fun t138 => (if t138 = 0 then (if bt127.2 = 11 then ((nat_Of.f 12).bind fun t139 => ((nat_Of.f 18).bind fun t142 => ((modn_Gcd.f t139 t142).bind fun t145 => ((nat_Of.f 6).bind fun t148 => ((nat_Cmp.f t145 t148).bind fun t151 => (if t151 = 0 then ((nat_Of.f 9).bind fun t152 => ((modn_Tells.f t152 2).bind fun t155 => (if t155 = true then ((modn_Sure.f 7).bind fun t156 => (some t156)) else (some false)))) else (some false))))))) else (some false)) else (some false)))) else (some false)) else (some false)))) else (some false))) = some r := H
  have A8 := Aside0.mk A80
  clear A80
  replace H := Option.bind_eq_some_iff.mp H
  obtain ⟨⟨t127, t128⟩, A90, H⟩ := H
  replace H : (if t111 = 0 then ((nat_Of.f 5).bind fun t131 => ((nat_Cmp.f t110 t131).bind fun t134 => (if t134 = 0 then (if t121 = 0 then ((nat_Of.f 5).bind fun t135 => ((nat_Cmp.f t120 t135).bind fun t138 => (if t138 = 0 then (if t128 = 11 then ((nat_Of.f 12).bind fun t139 => ((nat_Of.f 18).bind fun t142 => ((modn_Gcd.f t139 t142).bind fun t145 => ((nat_Of.f 6).bind fun t148 => ((nat_Cmp.f t145 t148).bind fun t151 => (if t151 = 0 then ((nat_Of.f 9).bind fun t152 => ((modn_Tells.f t152 2).bind fun t155 => (if t155 = true then ((modn_Sure.f 7).bind fun t156 => (some t156)) else (some false)))) else (some false))))))) else (some false)) else (some false)))) else (some false)) else (some false)))) else (some false)) = some r := H
  have A9 := Aside0.mk A90
  clear A90
  by_cases c10 : t111 = 0
  · rw [if_pos c10] at H
    have c10b0 : (t111 == 0) = true := beq_iff_eq.mpr c10
    have c10b1 : (t111 != 0) = false := bne_eq_false_iff_eq.mpr c10
    clear c10
    replace H := Option.bind_eq_some_iff.mp H
    obtain ⟨t131, A110, H⟩ := H
    replace H : ((nat_Cmp.f t110 t131).bind fun t134 => (if t134 = 0 then (if t121 = 0 then ((nat_Of.f 5).bind fun t135 => ((nat_Cmp.f t120 t135).bind fun t138 => (if t138 = 0 then (if t128 = 11 then ((nat_Of.f 12).bind fun t139 => ((nat_Of.f 18).bind fun t142 => ((modn_Gcd.f t139 t142).bind fun t145 => ((nat_Of.f 6).bind fun t148 => ((nat_Cmp.f t145 t148).bind fun t151 => (if t151 = 0 then ((nat_Of.f 9).bind fun t152 => ((modn_Tells.f t152 2).bind fun t155 => (if t155 = true then ((modn_Sure.f 7).bind fun t156 => (some t156)) else (some false)))) else (some false))))))) else (some false)) else (some false)))) else (some false)) else (some false))) = some r := H
    have A11 := Aside0.mk A110
    clear A110
    replace H := Option.bind_eq_some_iff.mp H
    obtain ⟨t134, A120, H⟩ := H
    replace H : (if t134 = 0 then (if t121 = 0 then ((nat_Of.f 5).bind fun t135 => ((nat_Cmp.f t120 t135).bind fun t138 => (if t138 = 0 then (if t128 = 11 then ((nat_Of.f 12).bind fun t139 => ((nat_Of.f 18).bind fun t142 => ((modn_Gcd.f t139 t142).bind fun t145 => ((nat_Of.f 6).bind fun t148 => ((nat_Cmp.f t145 t148).bind fun t151 => (if t151 = 0 then ((nat_Of.f 9).bind fun t152 => ((modn_Tells.f t152 2).bind fun t155 => (if t155 = true then ((modn_Sure.f 7).bind fun t156 => (some t156)) else (some false)))) else (some false))))))) else (some false)) else (some false)))) else (some false)) else (some false)) = some r := H
    have A12 := Aside0.mk A120
    clear A120
    by_cases c13 : t134 = 0
    · rw [if_pos c13] at H
      have c13b0 : (t134 == 0) = true := beq_iff_eq.mpr c13
      have c13b1 : (t134 != 0) = false := bne_eq_false_iff_eq.mpr c13
      clear c13
      by_cases c14 : t121 = 0
      · rw [if_pos c14] at H
        have c14b0 : (t121 == 0) = true := beq_iff_eq.mpr c14
        have c14b1 : (t121 != 0) = false := bne_eq_false_iff_eq.mpr c14
        clear c14
        replace H := Option.bind_eq_some_iff.mp H
        obtain ⟨t135, A150, H⟩ := H
        replace H : ((nat_Cmp.f t120 t135).bind fun t138 => (if t138 = 0 then (if t128 = 11 then ((nat_Of.f 12).bind fun t139 => ((nat_Of.f 18).bind fun t142 => ((modn_Gcd.f t139 t142).bind fun t145 => ((nat_Of.f 6).bind fun t148 => ((nat_Cmp.f t145 t148).bind fun t151 => (if t151 = 0 then ((nat_Of.f 9).bind fun t152 => ((modn_Tells.f t152 2).bind fun t155 => (if t155 = true then ((modn_Sure.f 7).bind fun t156 => (some t156)) else (some false)))) else (some false))))))) else (some false)) else (some false))) = some r := H
        have A15 := Aside0.mk A150
        clear A150
        replace H := Option.bind_eq_some_iff.mp H
        obtain ⟨t138, A160, H⟩ := H
        replace H : (if t138 = 0 then (if t128 = 11 then ((nat_Of.f 12).bind fun t139 => ((nat_Of.f 18).bind fun t142 => ((modn_Gcd.f t139 t142).bind fun t145 => ((nat_Of.f 6).bind fun t148 => ((nat_Cmp.f t145 t148).bind fun t151 => (if t151 = 0 then ((nat_Of.f 9).bind fun t152 => ((modn_Tells.f t152 2).bind fun t155 => (if t155 = true then ((modn_Sure.f 7).bind fun t156 => (some t156)) else (some false)))) else (some false))))))) else (some false)) else (some false)) = some r := H
        have A16 := Aside0.mk A160
        clear A160
        by_cases c17 : t138 = 0
        · rw [if_pos c17] at H
          have c17b0 : (t138 == 0) = true := beq_iff_eq.mpr c17
          have c17b1 : (t138 != 0) = false := bne_eq_false_iff_eq.mpr c17
          clear c17
          by_cases c18 : t128 = 11
          · rw [if_pos c18] at H
            have c18b0 : (t128 == 11) = true := beq_iff_eq.mpr c18
            have c18b1 : (t128 != 11) = false := bne_eq_false_iff_eq.mpr c18
            clear c18
            replace H := Option.bind_eq_some_iff.mp H
            obtain ⟨t139, A190, H⟩ := H
            replace H : ((nat_Of.f 18).bind fun t142 => ((modn_Gcd.f t139 t142).bind fun t145 => ((nat_Of.f 6).bind fun t148 => ((nat_Cmp.f t145 t148).bind fun t151 => (if t151 = 0 then ((nat_Of.f 9).bind fun t152 => ((modn_Tells.f t152 2).bind fun t155 => (if t155 = true then ((modn_Sure.f 7).bind fun t156 => (some t156)) else (some false)))) else (some false)))))) = some r := H
            have A19 := Aside0.mk A190
            clear A190
            replace H := Option.bind_eq_some_iff.mp H
            obtain ⟨t142, A200, H⟩ := H
            replace H : ((modn_Gcd.f t139 t142).bind fun t145 => ((nat_Of.f 6).bind fun t148 => ((nat_Cmp.f t145 t148).bind fun t151 => (if t151 = 0 then ((nat_Of.f 9).bind fun t152 => ((modn_Tells.f t152 2).bind fun t155 => (if t155 = true then ((modn_Sure.f 7).bind fun t156 => (some t156)) else (some false)))) else (some false))))) = some r := H
            have A20 := Aside0.mk A200
            clear A200
            replace H := Option.bind_eq_some_iff.mp H
            obtain ⟨t145, A210, H⟩ := H
            replace H : ((nat_Of.f 6).bind fun t148 => ((nat_Cmp.f t145 t148).bind fun t151 => (if t151 = 0 then ((nat_Of.f 9).bind fun t152 => ((modn_Tells.f t152 2).bind fun t155 => (if t155 = true then ((modn_Sure.f 7).bind fun t156 => (some t156)) else (some false)))) else (some false)))) = some r := H
            have A21 := Aside0.mk A210
            clear A210
            replace H := Option.bind_eq_some_iff.mp H
            obtain ⟨t148, A220, H⟩ := H
            replace H : ((nat_Cmp.f t145 t148).bind fun t151 => (if t151 = 0 then ((nat_Of.f 9).bind fun t152 => ((modn_Tells.f t152 2).bind fun t155 => (if t155 = true then ((modn_Sure.f 7).bind fun t156 => (some t156)) else (some false)))) else (some false))) = some r := H
            have A22 := Aside0.mk A220
            clear A220
            replace H := Option.bind_eq_some_iff.mp H
            obtain ⟨t151, A230, H⟩ := H
            replace H : (if t151 = 0 then ((nat_Of.f 9).bind fun t152 => ((modn_Tells.f t152 2).bind fun t155 => (if t155 = true then ((modn_Sure.f 7).bind fun t156 => (some t156)) else (some false)))) else (some false)) = some r := H
            have A23 := Aside0.mk A230
            clear A230
            by_cases c24 : t151 = 0
            · rw [if_pos c24] at H
              have c24b0 : (t151 == 0) = true := beq_iff_eq.mpr c24
              have c24b1 : (t151 != 0) = false := bne_eq_false_iff_eq.mpr c24
              clear c24
              replace H := Option.bind_eq_some_iff.mp H
              obtain ⟨t152, A250, H⟩ := H
              replace H : ((modn_Tells.f t152 2).bind fun t155 => (if t155 = true then ((modn_Sure.f 7).bind fun t156 => (some t156)) else (some false))) = some r := H
              have A25 := Aside0.mk A250
              clear A250
              replace H := Option.bind_eq_some_iff.mp H
              obtain ⟨t155, A260, H⟩ := H
              replace H : (if t155 = true then ((modn_Sure.f 7).bind fun t156 => (some t156)) else (some false)) = some r := H
              have A26 := Aside0.mk A260
              clear A260
              by_cases c27 : t155 = true
              · subst c27
                have H1 : ((modn_Sure.f 7).bind fun t156 => (some t156)) = some r := by rw [if_pos rfl] at H; exact H
                clear H
                have H := H1
                clear H1
                replace H := Option.bind_eq_some_iff.mp H
                obtain ⟨t156, A280, H⟩ := H
                replace H : (some t156) = some r := H
                have A28 := Aside0.mk A280
                clear A280
                obtain rfl := Option.some.inj H
                simp only [Option.some.injEq, Prod.mk.injEq] at H
                obtain ⟨rfl⟩ := H
                go_enter Try.func12, Try.ntmps12
                go_wp2_with (first | ((with_reducible refine gate_callee (f := 27) rfl ?_); refine goesL_ (some 8) rfl rfl Try.func27 (by kernel_rfl) rfl #[.int .u64 3] rfl (by (try simp only [List.map_toArray, List.map_cons, List.map_nil]); first | done | rfl | (simp only [List.length_drop, List.length_take]; rfl)) ?_; (with_reducible refine (nat_Of.calls 3 t101 _ A1.out).mono ?_); rintro e w29 ⟨v102, rfl, ho0, hb⟩; refine ⟨_, rfl, ?_⟩; have n0_ := Aside0.mk (Kd.R_lower ho0 (below_size (by repeat (first | (with_reducible first | exact HB.out | apply below_alloc | apply pw_below_drewN | apply below_drew1) | exact HB.out)))); have n1_ := Aside0.mk (below_step (by repeat (first | (with_reducible first | exact HB.out | apply below_alloc | apply pw_below_drewN | apply below_drew1) | exact HB.out)) hb); clear HB; have HO103 := n0_; have HB := n1_; clear n0_ n1_; (try clear hb); (try clear hb2); (try clear hk); (try clear hi); (try clear ho0)) | ((with_reducible refine gate_callee (f := 27) rfl ?_); refine goesL_ (some 9) rfl rfl Try.func27 (by kernel_rfl) rfl #[.int .u64 5] rfl (by (try simp only [List.map_toArray, List.map_cons, List.map_nil]); first | done | rfl | (simp only [List.length_drop, List.length_take]; rfl)) ?_; (with_reducible refine (nat_Of.calls 5 t104 _ A2.out).mono ?_); rintro e w30 ⟨v105, rfl, ho0, hb⟩; refine ⟨_, rfl, ?_⟩; have n0_ := Aside0.mk (Kd.R_elder' (by (with_reducible repeat (first | apply Kd.R_alloc | apply Kd.R_drewN | apply Kd.R_drew)); exact HO103.out) (Kd.R_base ho0) hb); have n1_ := Aside0.mk (Kd.R_lower (Kd.R_new' ho0 (Kd.R_lt (by (with_reducible repeat (first | apply Kd.R_alloc | apply Kd.R_drewN | apply Kd.R_drew)); exact HO103.out))) (below_size (by repeat (first | (with_reducible first | exact HB.out | apply below_alloc | apply pw_below_drewN | apply below_drew1) | exact HB.out)))); have n2_ := Aside0.mk (below_step (by repeat (first | (with_reducible first | exact HB.out | apply below_alloc | apply pw_below_drewN | apply below_drew1) | exact HB.out)) hb); clear HO103; clear HB; have HO103 := n0_; have HO106 := n1_; have HB := n2_; clear n0_ n1_ n2_; (try clear hb); (try clear hb2); (try clear hk); (try clear hi); (try clear ho0)) | ((with_reducible refine gate_callee (f := 27) rfl ?_); refine goesL_ (some 10) rfl rfl Try.func27 (by kernel_rfl) rfl #[.int .u64 7] rfl (by (try simp only [List.map_toArray, List.map_cons, List.map_nil]); first | done | rfl | (simp only [List.length_drop, List.length_take]; rfl)) ?_; (with_reducible refine (nat_Of.calls 7 t107 _ A3.out).mono ?_); rintro e w31 ⟨v108, rfl, ho0, hb⟩; refine ⟨_, rfl, ?_⟩; have n0_ := Aside0.mk (Kd.R_elder' (by (with_reducible repeat (first | apply Kd.R_alloc | apply Kd.R_drewN | apply Kd.R_drew)); exact HO103.out) (Kd.R_base ho0) hb); have n1_ := Aside0.mk (Kd.R_elder' (by (with_reducible repeat (first | apply Kd.R_alloc | apply Kd.R_drewN | apply Kd.R_drew)); exact HO106.out) (Kd.R_base ho0) hb); have n2_ := Aside0.mk (Kd.R_lower (Kd.R_new' (Kd.R_new' ho0 (Kd.R_lt (by (with_reducible repeat (first | apply Kd.R_alloc | apply Kd.R_drewN | apply Kd.R_drew)); exact HO103.out))) (Kd.R_lt (by (with_reducible repeat (first | apply Kd.R_alloc | apply Kd.R_drewN | apply Kd.R_drew)); exact HO106.out))) (below_size (by repeat (first | (with_reducible first | exact HB.out | apply below_alloc | apply pw_below_drewN | apply below_drew1) | exact HB.out)))); have n3_ := Aside0.mk (below_step (by repeat (first | (with_reducible first | exact HB.out | apply below_alloc | apply pw_below_drewN | apply below_drew1) | exact HB.out)) hb); clear HO103; clear HO106; clear HB; have HO103 := n0_; have HO106 := n1_; have HO109 := n2_; have HB := n3_; clear n0_ n1_ n2_ n3_; (try clear hb); (try clear hb2); (try clear hk); (try clear hi); (try clear ho0); obtain ⟨Ao32, co32, eo32⟩ := Kd.R_slice HO103.out; subst eo32; obtain ⟨Ao33, co33, eo33⟩ := Kd.R_slice HO106.out; subst eo33; obtain ⟨Ao34, co34, eo34⟩ := Kd.R_slice HO109.out; subst eo34) | ((with_reducible refine gate_callee (f := 18) rfl ?_); refine goesL_ (some 11) rfl rfl Try.func18 (by kernel_rfl) rfl #[.slice Ao32 t101.length co32, .slice Ao33 t104.length co33, .slice Ao34 t107.length co34] rfl (by (try simp only [List.map_toArray, List.map_cons, List.map_nil]); first | done | rfl | (simp only [List.length_drop, List.length_take]; rfl)) ?_; (with_reducible refine (modn_Pow.calls _ _ t101 _ _ t104 _ _ t107 t110 t111 _ ?side1 ?side2 ?side3 ?side4 ?side5 ?side6 A4.out).mono ?_); (case side1 => repeat (first | exact (Kd.R_reads' HO103.out).2.2 | (with_reducible refine Kd.C_alloc ?_ _) | (with_reducible refine Kd.C_drewN ?_ _) | (with_reducible refine Kd.C_drew ?_))); (case side2 => exact (Kd.R_reads' HO103.out).2.1); (case side3 => repeat (first | exact (Kd.R_reads' HO106.out).2.2 | (with_reducible refine Kd.C_alloc ?_ _) | (with_reducible refine Kd.C_drewN ?_ _) | (with_reducible refine Kd.C_drew ?_))); (case side4 => exact (Kd.R_reads' HO106.out).2.1); (case side5 => repeat (first | exact (Kd.R_reads' HO109.out).2.2 | (with_reducible refine Kd.C_alloc ?_ _) | (with_reducible refine Kd.C_drewN ?_ _) | (with_reducible refine Kd.C_drew ?_))); (case side6 => exact (Kd.R_reads' HO109.out).2.1); rintro e w35 ⟨v112, rfl, ho0, hb⟩; refine ⟨_, rfl, ?_⟩; have n0_ := Aside0.mk (Kd.R_elder' (by (with_reducible repeat (first | apply Kd.R_alloc | apply Kd.R_drewN | apply Kd.R_drew)); exact HO103.out) (Kd.R_base ho0) hb); have n1_ := Aside0.mk (Kd.R_elder' (by (with_reducible repeat (first | apply Kd.R_alloc | apply Kd.R_drewN | apply Kd.R_drew)); exact HO106.out) (Kd.R_base ho0) hb); have n2_ := Aside0.mk (Kd.R_elder' (by (with_reducible repeat (first | apply Kd.R_alloc | apply Kd.R_drewN | apply Kd.R_drew)); exact HO109.out) (Kd.R_base ho0) hb); have n3_ := Aside0.mk (Kd.R_lower (Kd.R_new' (Kd.R_new' (Kd.R_new' ho0 (Kd.R_lt (by (with_reducible repeat (first | apply Kd.R_alloc | apply Kd.R_drewN | apply Kd.R_drew)); exact HO103.out))) (Kd.R_lt (by (with_reducible repeat (first | apply Kd.R_alloc | apply Kd.R_drewN | apply Kd.R_drew)); exact HO106.out))) (Kd.R_lt (by (with_reducible repeat (first | apply Kd.R_alloc | apply Kd.R_drewN | apply Kd.R_drew)); exact HO109.out))) (below_size (by repeat (first | (with_reducible first | exact HB.out | apply below_alloc | apply pw_below_drewN | apply below_drew1) | exact HB.out)))); have n4_ := Aside0.mk (below_step (by repeat (first | (with_reducible first | exact HB.out | apply below_alloc | apply pw_below_drewN | apply below_drew1) | exact HB.out)) hb); clear HO103; clear HO106; clear HO109; clear HB; have HO103 := n0_; have HO106 := n1_; have HO109 := n2_; have HO113 := n3_; have HB := n4_; clear n0_ n1_ n2_ n3_ n4_; (try clear hb); (try clear hb2); (try clear hk); (try clear hi); (try clear ho0)) | ((with_reducible refine gate_callee (f := 27) rfl ?_); refine goesL_ (some 15) rfl rfl Try.func27 (by kernel_rfl) rfl #[.int .u64 3] rfl (by (try simp only [List.map_toArray, List.map_cons, List.map_nil]); first | done | rfl | (simp only [List.length_drop, List.length_take]; rfl)) ?_; (with_reducible refine (nat_Of.calls 3 t114 _ A5.out).mono ?_); rintro e w36 ⟨v115, rfl, ho0, hb⟩; refine ⟨_, rfl, ?_⟩; have n0_ := Aside0.mk (Kd.R_elder' (by (with_reducible repeat (first | apply Kd.R_alloc | apply Kd.R_drewN | apply Kd.R_drew)); exact HO103.out) (Kd.R_base ho0) hb); have n1_ := Aside0.mk (Kd.R_elder' (by (with_reducible repeat (first | apply Kd.R_alloc | apply Kd.R_drewN | apply Kd.R_drew)); exact HO106.out) (Kd.R_base ho0) hb); have n2_ := Aside0.mk (Kd.R_elder' (by (with_reducible repeat (first | apply Kd.R_alloc | apply Kd.R_drewN | apply Kd.R_drew)); exact HO109.out) (Kd.R_base ho0) hb); have n3_ := Aside0.mk (Kd.R_elder' (by (with_reducible repeat (first | apply Kd.R_alloc | apply Kd.R_drewN | apply Kd.R_drew)); exact HO113.out) (Kd.R_base ho0) hb); have n4_ := Aside0.mk (Kd.R_lower (Kd.R_new' (Kd.R_new' (Kd.R_new' (Kd.R_new' ho0 (Kd.R_lt (by (with_reducible repeat (first | apply Kd.R_alloc | apply Kd.R_drewN | apply Kd.R_drew)); exact HO103.out))) (Kd.R_lt (by (with_reducible repeat (first | apply Kd.R_alloc | apply Kd.R_drewN | apply Kd.R_drew)); exact HO106.out))) (Kd.R_lt (by (with_reducible repeat (first | apply Kd.R_alloc | apply Kd.R_drewN | apply Kd.R_drew)); exact HO109.out))) (Kd.R_lt (by (with_reducible repeat (first | apply Kd.R_alloc | apply Kd.R_drewN | apply Kd.R_drew)); exact HO113.out))) (below_size (by repeat (first | (with_reducible first | exact HB.out | apply below_alloc | apply pw_below_drewN | apply below_drew1) | exact HB.out)))); have n5_ := Aside0.mk (below_step (by repeat (first | (with_reducible first | exact HB.out | apply below_alloc | apply pw_below_drewN | apply below_drew1) | exact HB.out)) hb); clear HO103; clear HO106; clear HO109; clear HO113; clear HB; have HO103 := n0_; have HO106 := n1_; have HO109 := n2_; have HO113 := n3_; have HO116 := n4_; have HB := n5_; clear n0_ n1_ n2_ n3_ n4_ n5_; (try clear hb); (try clear hb2); (try clear hk); (try clear hi); (try clear ho0)) | ((with_reducible refine gate_callee (f := 27) rfl ?_); refine goesL_ (some 16) rfl rfl Try.func27 (by kernel_rfl) rfl #[.int .u64 7] rfl (by (try simp only [List.map_toArray, List.map_cons, List.map_nil]); first | done | rfl | (simp only [List.length_drop, List.length_take]; rfl)) ?_; (with_reducible refine (nat_Of.calls 7 t117 _ A6.out).mono ?_); rintro e w37 ⟨v118, rfl, ho0, hb⟩; refine ⟨_, rfl, ?_⟩; have n0_ := Aside0.mk (Kd.R_elder' (by (with_reducible repeat (first | apply Kd.R_alloc | apply Kd.R_drewN | apply Kd.R_drew)); exact HO103.out) (Kd.R_base ho0) hb); have n1_ := Aside0.mk (Kd.R_elder' (by (with_reducible repeat (first | apply Kd.R_alloc | apply Kd.R_drewN | apply Kd.R_drew)); exact HO106.out) (Kd.R_base ho0) hb); have n2_ := Aside0.mk (Kd.R_elder' (by (with_reducible repeat (first | apply Kd.R_alloc | apply Kd.R_drewN | apply Kd.R_drew)); exact HO109.out) (Kd.R_base ho0) hb); have n3_ := Aside0.mk (Kd.R_elder' (by (with_reducible repeat (first | apply Kd.R_alloc | apply Kd.R_drewN | apply Kd.R_drew)); exact HO113.out) (Kd.R_base ho0) hb); have n4_ := Aside0.mk (Kd.R_elder' (by (with_reducible repeat (first | apply Kd.R_alloc | apply Kd.R_drewN | apply Kd.R_drew)); exact HO116.out) (Kd.R_base ho0) hb); have n5_ := Aside0.mk (Kd.R_lower (Kd.R_new' (Kd.R_new' (Kd.R_new' (Kd.R_new' (Kd.R_new' ho0 (Kd.R_lt (by (with_reducible repeat (first | apply Kd.R_alloc | apply Kd.R_drewN | apply Kd.R_drew)); exact HO103.out))) (Kd.R_lt (by (with_reducible repeat (first | apply Kd.R_alloc | apply Kd.R_drewN | apply Kd.R_drew)); exact HO106.out))) (Kd.R_lt (by (with_reducible repeat (first | apply Kd.R_alloc | apply Kd.R_drewN | apply Kd.R_drew)); exact HO109.out))) (Kd.R_lt (by (with_reducible repeat (first | apply Kd.R_alloc | apply Kd.R_drewN | apply Kd.R_drew)); exact HO113.out))) (Kd.R_lt (by (with_reducible repeat (first | apply Kd.R_alloc | apply Kd.R_drewN | apply Kd.R_drew)); exact HO116.out))) (below_size (by repeat (first | (with_reducible first | exact HB.out | apply below_alloc | apply pw_below_drewN | apply below_drew1) | exact HB.out)))); have n6_ := Aside0.mk (below_step (by repeat (first | (with_reducible first | exact HB.out | apply below_alloc | apply pw_below_drewN | apply below_drew1) | exact HB.out)) hb); clear HO103; clear HO106; clear HO109; clear HO113; clear HO116; clear HB; have HO103 := n0_; have HO106 := n1_; have HO109 := n2_; have HO113 := n3_; have HO116 := n4_; have HO119 := n5_; have HB := n6_; clear n0_ n1_ n2_ n3_ n4_ n5_ n6_; (try clear hb); (try clear hb2); (try clear hk); (try clear hi); (try clear ho0); obtain ⟨Ao38, co38, eo38⟩ := Kd.R_slice HO116.out; subst eo38; obtain ⟨Ao39, co39, eo39⟩ := Kd.R_slice HO119.out; subst eo39) | ((with_reducible refine gate_callee (f := 20) rfl ?_); refine goesL_ (some 17) rfl rfl Try.func20 (by kernel_rfl) rfl #[.slice Ao38 t114.length co38, .slice Ao39 t117.length co39] rfl (by (try simp only [List.map_toArray, List.map_cons, List.map_nil]); first | done | rfl | (simp only [List.length_drop, List.length_take]; rfl)) ?_; (with_reducible refine (modn_Inverse.calls _ _ t114 _ _ t117 t120 t121 _ ?side1 ?side2 ?side3 ?side4 A7.out).mono ?_); (case side1 => repeat (first | exact (Kd.R_reads' HO116.out).2.2 | (with_reducible refine Kd.C_alloc ?_ _) | (with_reducible refine Kd.C_drewN ?_ _) | (with_reducible refine Kd.C_drew ?_))); (case side2 => exact (Kd.R_reads' HO116.out).2.1); (case side3 => repeat (first | exact (Kd.R_reads' HO119.out).2.2 | (with_reducible refine Kd.C_alloc ?_ _) | (with_reducible refine Kd.C_drewN ?_ _) | (with_reducible refine Kd.C_drew ?_))); (case side4 => exact (Kd.R_reads' HO119.out).2.1); rintro e w40 ⟨v122, rfl, ho0, hb⟩; refine ⟨_, rfl, ?_⟩; have n0_ := Aside0.mk (Kd.R_elder' (by (with_reducible repeat (first | apply Kd.R_alloc | apply Kd.R_drewN | apply Kd.R_drew)); exact HO103.out) (Kd.R_base ho0) hb); have n1_ := Aside0.mk (Kd.R_elder' (by (with_reducible repeat (first | apply Kd.R_alloc | apply Kd.R_drewN | apply Kd.R_drew)); exact HO106.out) (Kd.R_base ho0) hb); have n2_ := Aside0.mk (Kd.R_elder' (by (with_reducible repeat (first | apply Kd.R_alloc | apply Kd.R_drewN | apply Kd.R_drew)); exact HO109.out) (Kd.R_base ho0) hb); have n3_ := Aside0.mk (Kd.R_elder' (by (with_reducible repeat (first | apply Kd.R_alloc | apply Kd.R_drewN | apply Kd.R_drew)); exact HO113.out) (Kd.R_base ho0) hb); have n4_ := Aside0.mk (Kd.R_elder' (by (with_reducible repeat (first | apply Kd.R_alloc | apply Kd.R_drewN | apply Kd.R_drew)); exact HO116.out) (Kd.R_base ho0) hb); have n5_ := Aside0.mk (Kd.R_elder' (by (with_reducible repeat (first | apply Kd.R_alloc | apply Kd.R_drewN | apply Kd.R_drew)); exact HO119.out) (Kd.R_base ho0) hb); have n6_ := Aside0.mk (Kd.R_lower (Kd.R_new' (Kd.R_new' (Kd.R_new' (Kd.R_new' (Kd.R_new' (Kd.R_new' ho0 (Kd.R_lt (by (with_reducible repeat (first | apply Kd.R_alloc | apply Kd.R_drewN | apply Kd.R_drew)); exact HO103.out))) (Kd.R_lt (by (with_reducible repeat (first | apply Kd.R_alloc | apply Kd.R_drewN | apply Kd.R_drew)); exact HO106.out))) (Kd.R_lt (by (with_reducible repeat (first | apply Kd.R_alloc | apply Kd.R_drewN | apply Kd.R_drew)); exact HO109.out))) (Kd.R_lt (by (with_reducible repeat (first | apply Kd.R_alloc | apply Kd.R_drewN | apply Kd.R_drew)); exact HO113.out))) (Kd.R_lt (by (with_reducible repeat (first | apply Kd.R_alloc | apply Kd.R_drewN | apply Kd.R_drew)); exact HO116.out))) (Kd.R_lt (by (with_reducible repeat (first | apply Kd.R_alloc | apply Kd.R_drewN | apply Kd.R_drew)); exact HO119.out))) (below_size (by repeat (first | (with_reducible first | exact HB.out | apply below_alloc | apply pw_below_drewN | apply below_drew1) | exact HB.out)))); have n7_ := Aside0.mk (below_step (by repeat (first | (with_reducible first | exact HB.out | apply below_alloc | apply pw_below_drewN | apply below_drew1) | exact HB.out)) hb); clear HO103; clear HO106; clear HO109; clear HO113; clear HO116; clear HO119; clear HB; have HO103 := n0_; have HO106 := n1_; have HO109 := n2_; have HO113 := n3_; have HO116 := n4_; have HO119 := n5_; have HO123 := n6_; have HB := n7_; clear n0_ n1_ n2_ n3_ n4_ n5_ n6_ n7_; (try clear hb); (try clear hb2); (try clear hk); (try clear hi); (try clear ho0)) | ((with_reducible refine gate_callee (f := 27) rfl ?_); refine goesL_ (some 21) rfl rfl Try.func27 (by kernel_rfl) rfl #[.int .u64 3] rfl (by (try simp only [List.map_toArray, List.map_cons, List.map_nil]); first | done | rfl | (simp only [List.length_drop, List.length_take]; rfl)) ?_; (with_reducible refine (nat_Of.calls 3 t124 _ A8.out).mono ?_); rintro e w41 ⟨v125, rfl, ho0, hb⟩; refine ⟨_, rfl, ?_⟩; have n0_ := Aside0.mk (Kd.R_elder' (by (with_reducible repeat (first | apply Kd.R_alloc | apply Kd.R_drewN | apply Kd.R_drew)); exact HO103.out) (Kd.R_base ho0) hb); have n1_ := Aside0.mk (Kd.R_elder' (by (with_reducible repeat (first | apply Kd.R_alloc | apply Kd.R_drewN | apply Kd.R_drew)); exact HO106.out) (Kd.R_base ho0) hb); have n2_ := Aside0.mk (Kd.R_elder' (by (with_reducible repeat (first | apply Kd.R_alloc | apply Kd.R_drewN | apply Kd.R_drew)); exact HO109.out) (Kd.R_base ho0) hb); have n3_ := Aside0.mk (Kd.R_elder' (by (with_reducible repeat (first | apply Kd.R_alloc | apply Kd.R_drewN | apply Kd.R_drew)); exact HO113.out) (Kd.R_base ho0) hb); have n4_ := Aside0.mk (Kd.R_elder' (by (with_reducible repeat (first | apply Kd.R_alloc | apply Kd.R_drewN | apply Kd.R_drew)); exact HO116.out) (Kd.R_base ho0) hb); have n5_ := Aside0.mk (Kd.R_elder' (by (with_reducible repeat (first | apply Kd.R_alloc | apply Kd.R_drewN | apply Kd.R_drew)); exact HO119.out) (Kd.R_base ho0) hb); have n6_ := Aside0.mk (Kd.R_elder' (by (with_reducible repeat (first | apply Kd.R_alloc | apply Kd.R_drewN | apply Kd.R_drew)); exact HO123.out) (Kd.R_base ho0) hb); have n7_ := Aside0.mk (Kd.R_lower (Kd.R_new' (Kd.R_new' (Kd.R_new' (Kd.R_new' (Kd.R_new' (Kd.R_new' (Kd.R_new' ho0 (Kd.R_lt (by (with_reducible repeat (first | apply Kd.R_alloc | apply Kd.R_drewN | apply Kd.R_drew)); exact HO103.out))) (Kd.R_lt (by (with_reducible repeat (first | apply Kd.R_alloc | apply Kd.R_drewN | apply Kd.R_drew)); exact HO106.out))) (Kd.R_lt (by (with_reducible repeat (first | apply Kd.R_alloc | apply Kd.R_drewN | apply Kd.R_drew)); exact HO109.out))) (Kd.R_lt (by (with_reducible repeat (first | apply Kd.R_alloc | apply Kd.R_drewN | apply Kd.R_drew)); exact HO113.out))) (Kd.R_lt (by (with_reducible repeat (first | apply Kd.R_alloc | apply Kd.R_drewN | apply Kd.R_drew)); exact HO116.out))) (Kd.R_lt (by (with_reducible repeat (first | apply Kd.R_alloc | apply Kd.R_drewN | apply Kd.R_drew)); exact HO119.out))) (Kd.R_lt (by (with_reducible repeat (first | apply Kd.R_alloc | apply Kd.R_drewN | apply Kd.R_drew)); exact HO123.out))) (below_size (by repeat (first | (with_reducible first | exact HB.out | apply below_alloc | apply pw_below_drewN | apply below_drew1) | exact HB.out)))); have n8_ := Aside0.mk (below_step (by repeat (first | (with_reducible first | exact HB.out | apply below_alloc | apply pw_below_drewN | apply below_drew1) | exact HB.out)) hb); clear HO103; clear HO106; clear HO109; clear HO113; clear HO116; clear HO119; clear HO123; clear HB; have HO103 := n0_; have HO106 := n1_; have HO109 := n2_; have HO113 := n3_; have HO116 := n4_; have HO119 := n5_; have HO123 := n6_; have HO126 := n7_; have HB := n8_; clear n0_ n1_ n2_ n3_ n4_ n5_ n6_ n7_ n8_; (try clear hb); (try clear hb2); (try clear hk); (try clear hi); (try clear ho0); obtain ⟨Ao42, co42, eo42⟩ := Kd.R_slice HO126.out; subst eo42) | ((with_reducible refine gate_callee (f := 13) rfl ?_); refine goesL_ (some 22) rfl rfl Try.func13 (by kernel_rfl) rfl #[.slice Ao42 t124.length co42, .slice none 0 0] rfl (by (try simp only [List.map_toArray, List.map_cons, List.map_nil]); first | done | rfl | (simp only [List.length_drop, List.length_take]; rfl)) ?_; (refine (modn_Mod.calls _ _ t124 _ _ ([] : List Int) t127 t128 _ ?side1 ?side2 ?side3 ?side4 A9.out).mono ?_); (case side1 => repeat (first | exact (Kd.R_reads' HO126.out).2.2 | (with_reducible refine Kd.C_alloc ?_ _) | (with_reducible refine Kd.C_drewN ?_ _) | (with_reducible refine Kd.C_drew ?_))); (case side2 => exact (Kd.R_reads' HO126.out).2.1); (case side3 => exact Kd.C_nil _ _); (case side4 => exact Nat.le_refl _); rintro e w43 ⟨v129, rfl, ho0, hb⟩; refine ⟨_, rfl, ?_⟩; have n0_ := Aside0.mk (Kd.R_elder' (by (with_reducible repeat (first | apply Kd.R_alloc | apply Kd.R_drewN | apply Kd.R_drew)); exact HO103.out) (Kd.R_base ho0) hb); have n1_ := Aside0.mk (Kd.R_elder' (by (with_reducible repeat (first | apply Kd.R_alloc | apply Kd.R_drewN | apply Kd.R_drew)); exact HO106.out) (Kd.R_base ho0) hb); have n2_ := Aside0.mk (Kd.R_elder' (by (with_reducible repeat (first | apply Kd.R_alloc | apply Kd.R_drewN | apply Kd.R_drew)); exact HO109.out) (Kd.R_base ho0) hb); have n3_ := Aside0.mk (Kd.R_elder' (by (with_reducible repeat (first | apply Kd.R_alloc | apply Kd.R_drewN | apply Kd.R_drew)); exact HO113.out) (Kd.R_base ho0) hb); have n4_ := Aside0.mk (Kd.R_elder' (by (with_reducible repeat (first | apply Kd.R_alloc | apply Kd.R_drewN | apply Kd.R_drew)); exact HO116.out) (Kd.R_base ho0) hb); have n5_ := Aside0.mk (Kd.R_elder' (by (with_reducible repeat (first | apply Kd.R_alloc | apply Kd.R_drewN | apply Kd.R_drew)); exact HO119.out) (Kd.R_base ho0) hb); have n6_ := Aside0.mk (Kd.R_elder' (by (with_reducible repeat (first | apply Kd.R_alloc | apply Kd.R_drewN | apply Kd.R_drew)); exact HO123.out) (Kd.R_base ho0) hb); have n7_ := Aside0.mk (Kd.R_elder' (by (with_reducible repeat (first | apply Kd.R_alloc | apply Kd.R_drewN | apply Kd.R_drew)); exact HO126.out) (Kd.R_base ho0) hb); have n8_ := Aside0.mk (Kd.R_lower (Kd.R_new' (Kd.R_new' (Kd.R_new' (Kd.R_new' (Kd.R_new' (Kd.R_new' (Kd.R_new' (Kd.R_new' ho0 (Kd.R_lt (by (with_reducible repeat (first | apply Kd.R_alloc | apply Kd.R_drewN | apply Kd.R_drew)); exact HO103.out))) (Kd.R_lt (by (with_reducible repeat (first | apply Kd.R_alloc | apply Kd.R_drewN | apply Kd.R_drew)); exact HO106.out))) (Kd.R_lt (by (with_reducible repeat (first | apply Kd.R_alloc | apply Kd.R_drewN | apply Kd.R_drew)); exact HO109.out))) (Kd.R_lt (by (with_reducible repeat (first | apply Kd.R_alloc | apply Kd.R_drewN | apply Kd.R_drew)); exact HO113.out))) (Kd.R_lt (by (with_reducible repeat (first | apply Kd.R_alloc | apply Kd.R_drewN | apply Kd.R_drew)); exact HO116.out))) (Kd.R_lt (by (with_reducible repeat (first | apply Kd.R_alloc | apply Kd.R_drewN | apply Kd.R_drew)); exact HO119.out))) (Kd.R_lt (by (with_reducible repeat (first | apply Kd.R_alloc | apply Kd.R_drewN | apply Kd.R_drew)); exact HO123.out))) (Kd.R_lt (by (with_reducible repeat (first | apply Kd.R_alloc | apply Kd.R_drewN | apply Kd.R_drew)); exact HO126.out))) (below_size (by repeat (first | (with_reducible first | exact HB.out | apply below_alloc | apply pw_below_drewN | apply below_drew1) | exact HB.out)))); have n9_ := Aside0.mk (below_step (by repeat (first | (with_reducible first | exact HB.out | apply below_alloc | apply pw_below_drewN | apply below_drew1) | exact HB.out)) hb); clear HO103; clear HO106; clear HO109; clear HO113; clear HO116; clear HO119; clear HO123; clear HO126; clear HB; have HO103 := n0_; have HO106 := n1_; have HO109 := n2_; have HO113 := n3_; have HO116 := n4_; have HO119 := n5_; have HO123 := n6_; have HO126 := n7_; have HO130 := n8_; have HB := n9_; clear n0_ n1_ n2_ n3_ n4_ n5_ n6_ n7_ n8_ n9_; (try clear hb); (try clear hb2); (try clear hk); (try clear hi); (try clear ho0)) | (go_at_call 27; (with_reducible refine (nat_Of.calls 5 t131 _ A11.out).mono ?_); rintro e w44 ⟨v132, rfl, ho0, hb⟩; have n0_ := Aside0.mk (Kd.R_elder' (by (with_reducible repeat (first | apply Kd.R_alloc | apply Kd.R_drewN | apply Kd.R_drew)); exact HO103.out) (Kd.R_base ho0) hb); have n1_ := Aside0.mk (Kd.R_elder' (by (with_reducible repeat (first | apply Kd.R_alloc | apply Kd.R_drewN | apply Kd.R_drew)); exact HO106.out) (Kd.R_base ho0) hb); have n2_ := Aside0.mk (Kd.R_elder' (by (with_reducible repeat (first | apply Kd.R_alloc | apply Kd.R_drewN | apply Kd.R_drew)); exact HO109.out) (Kd.R_base ho0) hb); have n3_ := Aside0.mk (Kd.R_elder' (by (with_reducible repeat (first | apply Kd.R_alloc | apply Kd.R_drewN | apply Kd.R_drew)); exact HO113.out) (Kd.R_base ho0) hb); have n4_ := Aside0.mk (Kd.R_elder' (by (with_reducible repeat (first | apply Kd.R_alloc | apply Kd.R_drewN | apply Kd.R_drew)); exact HO116.out) (Kd.R_base ho0) hb); have n5_ := Aside0.mk (Kd.R_elder' (by (with_reducible repeat (first | apply Kd.R_alloc | apply Kd.R_drewN | apply Kd.R_drew)); exact HO119.out) (Kd.R_base ho0) hb); have n6_ := Aside0.mk (Kd.R_elder' (by (with_reducible repeat (first | apply Kd.R_alloc | apply Kd.R_drewN | apply Kd.R_drew)); exact HO123.out) (Kd.R_base ho0) hb); have n7_ := Aside0.mk (Kd.R_elder' (by (with_reducible repeat (first | apply Kd.R_alloc | apply Kd.R_drewN | apply Kd.R_drew)); exact HO126.out) (Kd.R_base ho0) hb); have n8_ := Aside0.mk (Kd.R_elder' (by (with_reducible repeat (first | apply Kd.R_alloc | apply Kd.R_drewN | apply Kd.R_drew)); exact HO130.out) (Kd.R_base ho0) hb); have n9_ := Aside0.mk (Kd.R_lower (Kd.R_new' (Kd.R_new' (Kd.R_new' (Kd.R_new' (Kd.R_new' (Kd.R_new' (Kd.R_new' (Kd.R_new' (Kd.R_new' ho0 (Kd.R_lt (by (with_reducible repeat (first | apply Kd.R_alloc | apply Kd.R_drewN | apply Kd.R_drew)); exact HO103.out))) (Kd.R_lt (by (with_reducible repeat (first | apply Kd.R_alloc | apply Kd.R_drewN | apply Kd.R_drew)); exact HO106.out))) (Kd.R_lt (by (with_reducible repeat (first | apply Kd.R_alloc | apply Kd.R_drewN | apply Kd.R_drew)); exact HO109.out))) (Kd.R_lt (by (with_reducible repeat (first | apply Kd.R_alloc | apply Kd.R_drewN | apply Kd.R_drew)); exact HO113.out))) (Kd.R_lt (by (with_reducible repeat (first | apply Kd.R_alloc | apply Kd.R_drewN | apply Kd.R_drew)); exact HO116.out))) (Kd.R_lt (by (with_reducible repeat (first | apply Kd.R_alloc | apply Kd.R_drewN | apply Kd.R_drew)); exact HO119.out))) (Kd.R_lt (by (with_reducible repeat (first | apply Kd.R_alloc | apply Kd.R_drewN | apply Kd.R_drew)); exact HO123.out))) (Kd.R_lt (by (with_reducible repeat (first | apply Kd.R_alloc | apply Kd.R_drewN | apply Kd.R_drew)); exact HO126.out))) (Kd.R_lt (by (with_reducible repeat (first | apply Kd.R_alloc | apply Kd.R_drewN | apply Kd.R_drew)); exact HO130.out))) (below_size (by repeat (first | (with_reducible first | exact HB.out | apply below_alloc | apply pw_below_drewN | apply below_drew1) | exact HB.out)))); have n10_ := Aside0.mk (below_step (by repeat (first | (with_reducible first | exact HB.out | apply below_alloc | apply pw_below_drewN | apply below_drew1) | exact HB.out)) hb); clear HO103; clear HO106; clear HO109; clear HO113; clear HO116; clear HO119; clear HO123; clear HO126; clear HO130; clear HB; have HO103 := n0_; have HO106 := n1_; have HO109 := n2_; have HO113 := n3_; have HO116 := n4_; have HO119 := n5_; have HO123 := n6_; have HO126 := n7_; have HO130 := n8_; have HO133 := n9_; have HB := n10_; clear n0_ n1_ n2_ n3_ n4_ n5_ n6_ n7_ n8_ n9_ n10_; (try clear hb); (try clear hb2); (try clear hk); (try clear hi); (try clear ho0); obtain ⟨Ao45, co45, eo45⟩ := Kd.R_slice HO113.out; subst eo45; obtain ⟨Ao46, co46, eo46⟩ := Kd.R_slice HO133.out; subst eo46) | (go_at_call 28; (with_reducible refine (nat_Cmp.calls _ _ t110 _ _ t131 t134 _ ?side1 ?side2 ?side3 ?side4 A12.out).mono ?_); (case side1 => repeat (first | exact (Kd.R_reads' HO113.out).2.2 | (with_reducible refine Kd.C_alloc ?_ _) | (with_reducible refine Kd.C_drewN ?_ _) | (with_reducible refine Kd.C_drew ?_))); (case side2 => exact (Kd.R_reads' HO113.out).2.1); (case side3 => repeat (first | exact (Kd.R_reads' HO133.out).2.2 | (with_reducible refine Kd.C_alloc ?_ _) | (with_reducible refine Kd.C_drewN ?_ _) | (with_reducible refine Kd.C_drew ?_))); (case side4 => exact (Kd.R_reads' HO133.out).2.1); rintro e w' ⟨rfl, ⟨nd, rfl⟩⟩) | (go_at_call 27; (with_reducible refine (nat_Of.calls 5 t135 _ A15.out).mono ?_); rintro e w47 ⟨v136, rfl, ho0, hb⟩; have n0_ := Aside0.mk (Kd.R_elder' (by (with_reducible repeat (first | apply Kd.R_alloc | apply Kd.R_drewN | apply Kd.R_drew)); exact HO103.out) (Kd.R_base ho0) hb); have n1_ := Aside0.mk (Kd.R_elder' (by (with_reducible repeat (first | apply Kd.R_alloc | apply Kd.R_drewN | apply Kd.R_drew)); exact HO106.out) (Kd.R_base ho0) hb); have n2_ := Aside0.mk (Kd.R_elder' (by (with_reducible repeat (first | apply Kd.R_alloc | apply Kd.R_drewN | apply Kd.R_drew)); exact HO109.out) (Kd.R_base ho0) hb); have n3_ := Aside0.mk (Kd.R_elder' (by (with_reducible repeat (first | apply Kd.R_alloc | apply Kd.R_drewN | apply Kd.R_drew)); exact HO113.out) (Kd.R_base ho0) hb); have n4_ := Aside0.mk (Kd.R_elder' (by (with_reducible repeat (first | apply Kd.R_alloc | apply Kd.R_drewN | apply Kd.R_drew)); exact HO116.out) (Kd.R_base ho0) hb); have n5_ := Aside0.mk (Kd.R_elder' (by (with_reducible repeat (first | apply Kd.R_alloc | apply Kd.R_drewN | apply Kd.R_drew)); exact HO119.out) (Kd.R_base ho0) hb); have n6_ := Aside0.mk (Kd.R_elder' (by (with_reducible repeat (first | apply Kd.R_alloc | apply Kd.R_drewN | apply Kd.R_drew)); exact HO123.out) (Kd.R_base ho0) hb); have n7_ := Aside0.mk (Kd.R_elder' (by (with_reducible repeat (first | apply Kd.R_alloc | apply Kd.R_drewN | apply Kd.R_drew)); exact HO126.out) (Kd.R_base ho0) hb); have n8_ := Aside0.mk (Kd.R_elder' (by (with_reducible repeat (first | apply Kd.R_alloc | apply Kd.R_drewN | apply Kd.R_drew)); exact HO130.out) (Kd.R_base ho0) hb); have n9_ := Aside0.mk (Kd.R_elder' (by (with_reducible repeat (first | apply Kd.R_alloc | apply Kd.R_drewN | apply Kd.R_drew)); exact HO133.out) (Kd.R_base ho0) hb); have n10_ := Aside0.mk (Kd.R_lower (Kd.R_new' (Kd.R_new' (Kd.R_new' (Kd.R_new' (Kd.R_new' (Kd.R_new' (Kd.R_new' (Kd.R_new' (Kd.R_new' (Kd.R_new' ho0 (Kd.R_lt (by (with_reducible repeat (first | apply Kd.R_alloc | apply Kd.R_drewN | apply Kd.R_drew)); exact HO103.out))) (Kd.R_lt (by (with_reducible repeat (first | apply Kd.R_alloc | apply Kd.R_drewN | apply Kd.R_drew)); exact HO106.out))) (Kd.R_lt (by (with_reducible repeat (first | apply Kd.R_alloc | apply Kd.R_drewN | apply Kd.R_drew)); exact HO109.out))) (Kd.R_lt (by (with_reducible repeat (first | apply Kd.R_alloc | apply Kd.R_drewN | apply Kd.R_drew)); exact HO113.out))) (Kd.R_lt (by (with_reducible repeat (first | apply Kd.R_alloc | apply Kd.R_drewN | apply Kd.R_drew)); exact HO116.out))) (Kd.R_lt (by (with_reducible repeat (first | apply Kd.R_alloc | apply Kd.R_drewN | apply Kd.R_drew)); exact HO119.out))) (Kd.R_lt (by (with_reducible repeat (first | apply Kd.R_alloc | apply Kd.R_drewN | apply Kd.R_drew)); exact HO123.out))) (Kd.R_lt (by (with_reducible repeat (first | apply Kd.R_alloc | apply Kd.R_drewN | apply Kd.R_drew)); exact HO126.out))) (Kd.R_lt (by (with_reducible repeat (first | apply Kd.R_alloc | apply Kd.R_drewN | apply Kd.R_drew)); exact HO130.out))) (Kd.R_lt (by (with_reducible repeat (first | apply Kd.R_alloc | apply Kd.R_drewN | apply Kd.R_drew)); exact HO133.out))) (below_size (by repeat (first | (with_reducible first | exact HB.out | apply below_alloc | apply pw_below_drewN | apply below_drew1) | exact HB.out)))); have n11_ := Aside0.mk (below_step (by repeat (first | (with_reducible first | exact HB.out | apply below_alloc | apply pw_below_drewN | apply below_drew1) | exact HB.out)) hb); clear HO103; clear HO106; clear HO109; clear HO113; clear HO116; clear HO119; clear HO123; clear HO126; clear HO130; clear HO133; clear HB; have HO103 := n0_; have HO106 := n1_; have HO109 := n2_; have HO113 := n3_; have HO116 := n4_; have HO119 := n5_; have HO123 := n6_; have HO126 := n7_; have HO130 := n8_; have HO133 := n9_; have HO137 := n10_; have HB := n11_; clear n0_ n1_ n2_ n3_ n4_ n5_ n6_ n7_ n8_ n9_ n10_ n11_; (try clear hb); (try clear hb2); (try clear hk); (try clear hi); (try clear ho0); obtain ⟨Ao48, co48, eo48⟩ := Kd.R_slice HO123.out; subst eo48; obtain ⟨Ao49, co49, eo49⟩ := Kd.R_slice HO137.out; subst eo49) | (go_at_call 28; (with_reducible refine (nat_Cmp.calls _ _ t120 _ _ t135 t138 _ ?side1 ?side2 ?side3 ?side4 A16.out).mono ?_); (case side1 => repeat (first | exact (Kd.R_reads' HO123.out).2.2 | (with_reducible refine Kd.C_alloc ?_ _) | (with_reducible refine Kd.C_drewN ?_ _) | (with_reducible refine Kd.C_drew ?_))); (case side2 => exact (Kd.R_reads' HO123.out).2.1); (case side3 => repeat (first | exact (Kd.R_reads' HO137.out).2.2 | (with_reducible refine Kd.C_alloc ?_ _) | (with_reducible refine Kd.C_drewN ?_ _) | (with_reducible refine Kd.C_drew ?_))); (case side4 => exact (Kd.R_reads' HO137.out).2.1); rintro e w' ⟨rfl, ⟨nd, rfl⟩⟩) | (go_at_call 27; (with_reducible refine (nat_Of.calls 12 t139 _ A19.out).mono ?_); rintro e w50 ⟨v140, rfl, ho0, hb⟩; have n0_ := Aside0.mk (Kd.R_elder' (by (with_reducible repeat (first | apply Kd.R_alloc | apply Kd.R_drewN | apply Kd.R_drew)); exact HO103.out) (Kd.R_base ho0) hb); have n1_ := Aside0.mk (Kd.R_elder' (by (with_reducible repeat (first | apply Kd.R_alloc | apply Kd.R_drewN | apply Kd.R_drew)); exact HO106.out) (Kd.R_base ho0) hb); have n2_ := Aside0.mk (Kd.R_elder' (by (with_reducible repeat (first | apply Kd.R_alloc | apply Kd.R_drewN | apply Kd.R_drew)); exact HO109.out) (Kd.R_base ho0) hb); have n3_ := Aside0.mk (Kd.R_elder' (by (with_reducible repeat (first | apply Kd.R_alloc | apply Kd.R_drewN | apply Kd.R_drew)); exact HO113.out) (Kd.R_base ho0) hb); have n4_ := Aside0.mk (Kd.R_elder' (by (with_reducible repeat (first | apply Kd.R_alloc | apply Kd.R_drewN | apply Kd.R_drew)); exact HO116.out) (Kd.R_base ho0) hb); have n5_ := Aside0.mk (Kd.R_elder' (by (with_reducible repeat (first | apply Kd.R_alloc | apply Kd.R_drewN | apply Kd.R_drew)); exact HO119.out) (Kd.R_base ho0) hb); have n6_ := Aside0.mk (Kd.R_elder' (by (with_reducible repeat (first | apply Kd.R_alloc | apply Kd.R_drewN | apply Kd.R_drew)); exact HO123.out) (Kd.R_base ho0) hb); have n7_ := Aside0.mk (Kd.R_elder' (by (with_reducible repeat (first | apply Kd.R_alloc | apply Kd.R_drewN | apply Kd.R_drew)); exact HO126.out) (Kd.R_base ho0) hb); have n8_ := Aside0.mk (Kd.R_elder' (by (with_reducible repeat (first | apply Kd.R_alloc | apply Kd.R_drewN | apply Kd.R_drew)); exact HO130.out) (Kd.R_base ho0) hb); have n9_ := Aside0.mk (Kd.R_elder' (by (with_reducible repeat (first | apply Kd.R_alloc | apply Kd.R_drewN | apply Kd.R_drew)); exact HO133.out) (Kd.R_base ho0) hb); have n10_ := Aside0.mk (Kd.R_elder' (by (with_reducible repeat (first | apply Kd.R_alloc | apply Kd.R_drewN | apply Kd.R_drew)); exact HO137.out) (Kd.R_base ho0) hb); have n11_ := Aside0.mk (Kd.R_lower (Kd.R_new' (Kd.R_new' (Kd.R_new' (Kd.R_new' (Kd.R_new' (Kd.R_new' (Kd.R_new' (Kd.R_new' (Kd.R_new' (Kd.R_new' (Kd.R_new' ho0 (Kd.R_lt (by (with_reducible repeat (first | apply Kd.R_alloc | apply Kd.R_drewN | apply Kd.R_drew)); exact HO103.out))) (Kd.R_lt (by (with_reducible repeat (first | apply Kd.R_alloc | apply Kd.R_drewN | apply Kd.R_drew)); exact HO106.out))) (Kd.R_lt (by (with_reducible repeat (first | apply Kd.R_alloc | apply Kd.R_drewN | apply Kd.R_drew)); exact HO109.out))) (Kd.R_lt (by (with_reducible repeat (first | apply Kd.R_alloc | apply Kd.R_drewN | apply Kd.R_drew)); exact HO113.out))) (Kd.R_lt (by (with_reducible repeat (first | apply Kd.R_alloc | apply Kd.R_drewN | apply Kd.R_drew)); exact HO116.out))) (Kd.R_lt (by (with_reducible repeat (first | apply Kd.R_alloc | apply Kd.R_drewN | apply Kd.R_drew)); exact HO119.out))) (Kd.R_lt (by (with_reducible repeat (first | apply Kd.R_alloc | apply Kd.R_drewN | apply Kd.R_drew)); exact HO123.out))) (Kd.R_lt (by (with_reducible repeat (first | apply Kd.R_alloc | apply Kd.R_drewN | apply Kd.R_drew)); exact HO126.out))) (Kd.R_lt (by (with_reducible repeat (first | apply Kd.R_alloc | apply Kd.R_drewN | apply Kd.R_drew)); exact HO130.out))) (Kd.R_lt (by (with_reducible repeat (first | apply Kd.R_alloc | apply Kd.R_drewN | apply Kd.R_drew)); exact HO133.out))) (Kd.R_lt (by (with_reducible repeat (first | apply Kd.R_alloc | apply Kd.R_drewN | apply Kd.R_drew)); exact HO137.out))) (below_size (by repeat (first | (with_reducible first | exact HB.out | apply below_alloc | apply pw_below_drewN | apply below_drew1) | exact HB.out)))); have n12_ := Aside0.mk (below_step (by repeat (first | (with_reducible first | exact HB.out | apply below_alloc | apply pw_below_drewN | apply below_drew1) | exact HB.out)) hb); clear HO103; clear HO106; clear HO109; clear HO113; clear HO116; clear HO119; clear HO123; clear HO126; clear HO130; clear HO133; clear HO137; clear HB; have HO103 := n0_; have HO106 := n1_; have HO109 := n2_; have HO113 := n3_; have HO116 := n4_; have HO119 := n5_; have HO123 := n6_; have HO126 := n7_; have HO130 := n8_; have HO133 := n9_; have HO137 := n10_; have HO141 := n11_; have HB := n12_; clear n0_ n1_ n2_ n3_ n4_ n5_ n6_ n7_ n8_ n9_ n10_ n11_ n12_; (try clear hb); (try clear hb2); (try clear hk); (try clear hi); (try clear ho0)) | (go_at_call 27; (with_reducible refine (nat_Of.calls 18 t142 _ A20.out).mono ?_); rintro e w51 ⟨v143, rfl, ho0, hb⟩; have n0_ := Aside0.mk (Kd.R_elder' (by (with_reducible repeat (first | apply Kd.R_alloc | apply Kd.R_drewN | apply Kd.R_drew)); exact HO103.out) (Kd.R_base ho0) hb); have n1_ := Aside0.mk (Kd.R_elder' (by (with_reducible repeat (first | apply Kd.R_alloc | apply Kd.R_drewN | apply Kd.R_drew)); exact HO106.out) (Kd.R_base ho0) hb); have n2_ := Aside0.mk (Kd.R_elder' (by (with_reducible repeat (first | apply Kd.R_alloc | apply Kd.R_drewN | apply Kd.R_drew)); exact HO109.out) (Kd.R_base ho0) hb); have n3_ := Aside0.mk (Kd.R_elder' (by (with_reducible repeat (first | apply Kd.R_alloc | apply Kd.R_drewN | apply Kd.R_drew)); exact HO113.out) (Kd.R_base ho0) hb); have n4_ := Aside0.mk (Kd.R_elder' (by (with_reducible repeat (first | apply Kd.R_alloc | apply Kd.R_drewN | apply Kd.R_drew)); exact HO116.out) (Kd.R_base ho0) hb); have n5_ := Aside0.mk (Kd.R_elder' (by (with_reducible repeat (first | apply Kd.R_alloc | apply Kd.R_drewN | apply Kd.R_drew)); exact HO119.out) (Kd.R_base ho0) hb); have n6_ := Aside0.mk (Kd.R_elder' (by (with_reducible repeat (first | apply Kd.R_alloc | apply Kd.R_drewN | apply Kd.R_drew)); exact HO123.out) (Kd.R_base ho0) hb); have n7_ := Aside0.mk (Kd.R_elder' (by (with_reducible repeat (first | apply Kd.R_alloc | apply Kd.R_drewN | apply Kd.R_drew)); exact HO126.out) (Kd.R_base ho0) hb); have n8_ := Aside0.mk (Kd.R_elder' (by (with_reducible repeat (first | apply Kd.R_alloc | apply Kd.R_drewN | apply Kd.R_drew)); exact HO130.out) (Kd.R_base ho0) hb); have n9_ := Aside0.mk (Kd.R_elder' (by (with_reducible repeat (first | apply Kd.R_alloc | apply Kd.R_drewN | apply Kd.R_drew)); exact HO133.out) (Kd.R_base ho0) hb); have n10_ := Aside0.mk (Kd.R_elder' (by (with_reducible repeat (first | apply Kd.R_alloc | apply Kd.R_drewN | apply Kd.R_drew)); exact HO137.out) (Kd.R_base ho0) hb); have n11_ := Aside0.mk (Kd.R_elder' (by (with_reducible repeat (first | apply Kd.R_alloc | apply Kd.R_drewN | apply Kd.R_drew)); exact HO141.out) (Kd.R_base ho0) hb); have n12_ := Aside0.mk (Kd.R_lower (Kd.R_new' (Kd.R_new' (Kd.R_new' (Kd.R_new' (Kd.R_new' (Kd.R_new' (Kd.R_new' (Kd.R_new' (Kd.R_new' (Kd.R_new' (Kd.R_new' (Kd.R_new' ho0 (Kd.R_lt (by (with_reducible repeat (first | apply Kd.R_alloc | apply Kd.R_drewN | apply Kd.R_drew)); exact HO103.out))) (Kd.R_lt (by (with_reducible repeat (first | apply Kd.R_alloc | apply Kd.R_drewN | apply Kd.R_drew)); exact HO106.out))) (Kd.R_lt (by (with_reducible repeat (first | apply Kd.R_alloc | apply Kd.R_drewN | apply Kd.R_drew)); exact HO109.out))) (Kd.R_lt (by (with_reducible repeat (first | apply Kd.R_alloc | apply Kd.R_drewN | apply Kd.R_drew)); exact HO113.out))) (Kd.R_lt (by (with_reducible repeat (first | apply Kd.R_alloc | apply Kd.R_drewN | apply Kd.R_drew)); exact HO116.out))) (Kd.R_lt (by (with_reducible repeat (first | apply Kd.R_alloc | apply Kd.R_drewN | apply Kd.R_drew)); exact HO119.out))) (Kd.R_lt (by (with_reducible repeat (first | apply Kd.R_alloc | apply Kd.R_drewN | apply Kd.R_drew)); exact HO123.out))) (Kd.R_lt (by (with_reducible repeat (first | apply Kd.R_alloc | apply Kd.R_drewN | apply Kd.R_drew)); exact HO126.out))) (Kd.R_lt (by (with_reducible repeat (first | apply Kd.R_alloc | apply Kd.R_drewN | apply Kd.R_drew)); exact HO130.out))) (Kd.R_lt (by (with_reducible repeat (first | apply Kd.R_alloc | apply Kd.R_drewN | apply Kd.R_drew)); exact HO133.out))) (Kd.R_lt (by (with_reducible repeat (first | apply Kd.R_alloc | apply Kd.R_drewN | apply Kd.R_drew)); exact HO137.out))) (Kd.R_lt (by (with_reducible repeat (first | apply Kd.R_alloc | apply Kd.R_drewN | apply Kd.R_drew)); exact HO141.out))) (below_size (by repeat (first | (with_reducible first | exact HB.out | apply below_alloc | apply pw_below_drewN | apply below_drew1) | exact HB.out)))); have n13_ := Aside0.mk (below_step (by repeat (first | (with_reducible first | exact HB.out | apply below_alloc | apply pw_below_drewN | apply below_drew1) | exact HB.out)) hb); clear HO103; clear HO106; clear HO109; clear HO113; clear HO116; clear HO119; clear HO123; clear HO126; clear HO130; clear HO133; clear HO137; clear HO141; clear HB; have HO103 := n0_; have HO106 := n1_; have HO109 := n2_; have HO113 := n3_; have HO116 := n4_; have HO119 := n5_; have HO123 := n6_; have HO126 := n7_; have HO130 := n8_; have HO133 := n9_; have HO137 := n10_; have HO141 := n11_; have HO144 := n12_; have HB := n13_; clear n0_ n1_ n2_ n3_ n4_ n5_ n6_ n7_ n8_ n9_ n10_ n11_ n12_ n13_; (try clear hb); (try clear hb2); (try clear hk); (try clear hi); (try clear ho0); obtain ⟨Ao52, co52, eo52⟩ := Kd.R_slice HO141.out; subst eo52; obtain ⟨Ao53, co53, eo53⟩ := Kd.R_slice HO144.out; subst eo53) | (go_at_call 22; (with_reducible refine (modn_Gcd.calls _ _ t139 _ _ t142 t145 _ ?side1 ?side2 ?side3 ?side4 A21.out).mono ?_); (case side1 => repeat (first | exact (Kd.R_reads' HO141.out).2.2 | (with_reducible refine Kd.C_alloc ?_ _) | (with_reducible refine Kd.C_drewN ?_ _) | (with_reducible refine Kd.C_drew ?_))); (case side2 => exact (Kd.R_reads' HO141.out).2.1); (case side3 => repeat (first | exact (Kd.R_reads' HO144.out).2.2 | (with_reducible refine Kd.C_alloc ?_ _) | (with_reducible refine Kd.C_drewN ?_ _) | (with_reducible refine Kd.C_drew ?_))); (case side4 => exact (Kd.R_reads' HO144.out).2.1); rintro e w54 ⟨v146, rfl, ho0, hb⟩; have n0_ := Aside0.mk (Kd.R_elder' (by (with_reducible repeat (first | apply Kd.R_alloc | apply Kd.R_drewN | apply Kd.R_drew)); exact HO103.out) (Kd.R_base ho0) hb); have n1_ := Aside0.mk (Kd.R_elder' (by (with_reducible repeat (first | apply Kd.R_alloc | apply Kd.R_drewN | apply Kd.R_drew)); exact HO106.out) (Kd.R_base ho0) hb); have n2_ := Aside0.mk (Kd.R_elder' (by (with_reducible repeat (first | apply Kd.R_alloc | apply Kd.R_drewN | apply Kd.R_drew)); exact HO109.out) (Kd.R_base ho0) hb); have n3_ := Aside0.mk (Kd.R_elder' (by (with_reducible repeat (first | apply Kd.R_alloc | apply Kd.R_drewN | apply Kd.R_drew)); exact HO113.out) (Kd.R_base ho0) hb); have n4_ := Aside0.mk (Kd.R_elder' (by (with_reducible repeat (first | apply Kd.R_alloc | apply Kd.R_drewN | apply Kd.R_drew)); exact HO116.out) (Kd.R_base ho0) hb); have n5_ := Aside0.mk (Kd.R_elder' (by (with_reducible repeat (first | apply Kd.R_alloc | apply Kd.R_drewN | apply Kd.R_drew)); exact HO119.out) (Kd.R_base ho0) hb); have n6_ := Aside0.mk (Kd.R_elder' (by (with_reducible repeat (first | apply Kd.R_alloc | apply Kd.R_drewN | apply Kd.R_drew)); exact HO123.out) (Kd.R_base ho0) hb); have n7_ := Aside0.mk (Kd.R_elder' (by (with_reducible repeat (first | apply Kd.R_alloc | apply Kd.R_drewN | apply Kd.R_drew)); exact HO126.out) (Kd.R_base ho0) hb); have n8_ := Aside0.mk (Kd.R_elder' (by (with_reducible repeat (first | apply Kd.R_alloc | apply Kd.R_drewN | apply Kd.R_drew)); exact HO130.out) (Kd.R_base ho0) hb); have n9_ := Aside0.mk (Kd.R_elder' (by (with_reducible repeat (first | apply Kd.R_alloc | apply Kd.R_drewN | apply Kd.R_drew)); exact HO133.out) (Kd.R_base ho0) hb); have n10_ := Aside0.mk (Kd.R_elder' (by (with_reducible repeat (first | apply Kd.R_alloc | apply Kd.R_drewN | apply Kd.R_drew)); exact HO137.out) (Kd.R_base ho0) hb); have n11_ := Aside0.mk (Kd.R_elder' (by (with_reducible repeat (first | apply Kd.R_alloc | apply Kd.R_drewN | apply Kd.R_drew)); exact HO141.out) (Kd.R_base ho0) hb); have n12_ := Aside0.mk (Kd.R_elder' (by (with_reducible repeat (first | apply Kd.R_alloc | apply Kd.R_drewN | apply Kd.R_drew)); exact HO144.out) (Kd.R_base ho0) hb); have n13_ := Aside0.mk (Kd.R_lower (Kd.R_new' (Kd.R_new' (Kd.R_new' (Kd.R_new' (Kd.R_new' (Kd.R_new' (Kd.R_new' (Kd.R_new' (Kd.R_new' (Kd.R_new' (Kd.R_new' (Kd.R_new' (Kd.R_new' ho0 (Kd.R_lt (by (with_reducible repeat (first | apply Kd.R_alloc | apply Kd.R_drewN | apply Kd.R_drew)); exact HO103.out))) (Kd.R_lt (by (with_reducible repeat (first | apply Kd.R_alloc | apply Kd.R_drewN | apply Kd.R_drew)); exact HO106.out))) (Kd.R_lt (by (with_reducible repeat (first | apply Kd.R_alloc | apply Kd.R_drewN | apply Kd.R_drew)); exact HO109.out))) (Kd.R_lt (by (with_reducible repeat (first | apply Kd.R_alloc | apply Kd.R_drewN | apply Kd.R_drew)); exact HO113.out))) (Kd.R_lt (by (with_reducible repeat (first | apply Kd.R_alloc | apply Kd.R_drewN | apply Kd.R_drew)); exact HO116.out))) (Kd.R_lt (by (with_reducible repeat (first | apply Kd.R_alloc | apply Kd.R_drewN | apply Kd.R_drew)); exact HO119.out))) (Kd.R_lt (by (with_reducible repeat (first | apply Kd.R_alloc | apply Kd.R_drewN | apply Kd.R_drew)); exact HO123.out))) (Kd.R_lt (by (with_reducible repeat (first | apply Kd.R_alloc | apply Kd.R_drewN | apply Kd.R_drew)); exact HO126.out))) (Kd.R_lt (by (with_reducible repeat (first | apply Kd.R_alloc | apply Kd.R_drewN | apply Kd.R_drew)); exact HO130.out))) (Kd.R_lt (by (with_reducible repeat (first | apply Kd.R_alloc | apply Kd.R_drewN | apply Kd.R_drew)); exact HO133.out))) (Kd.R_lt (by (with_reducible repeat (first | apply Kd.R_alloc | apply Kd.R_drewN | apply Kd.R_drew)); exact HO137.out))) (Kd.R_lt (by (with_reducible repeat (first | apply Kd.R_alloc | apply Kd.R_drewN | apply Kd.R_drew)); exact HO141.out))) (Kd.R_lt (by (with_reducible repeat (first | apply Kd.R_alloc | apply Kd.R_drewN | apply Kd.R_drew)); exact HO144.out))) (below_size (by repeat (first | (with_reducible first | exact HB.out | apply below_alloc | apply pw_below_drewN | apply below_drew1) | exact HB.out)))); have n14_ := Aside0.mk (below_step (by repeat (first | (with_reducible first | exact HB.out | apply below_alloc | apply pw_below_drewN | apply below_drew1) | exact HB.out)) hb); clear HO103; clear HO106; clear HO109; clear HO113; clear HO116; clear HO119; clear HO123; clear HO126; clear HO130; clear HO133; clear HO137; clear HO141; clear HO144; clear HB; have HO103 := n0_; have HO106 := n1_; have HO109 := n2_; have HO113 := n3_; have HO116 := n4_; have HO119 := n5_; have HO123 := n6_; have HO126 := n7_; have HO130 := n8_; have HO133 := n9_; have HO137 := n10_; have HO141 := n11_; have HO144 := n12_; have HO147 := n13_; have HB := n14_; clear n0_ n1_ n2_ n3_ n4_ n5_ n6_ n7_ n8_ n9_ n10_ n11_ n12_ n13_ n14_; (try clear hb); (try clear hb2); (try clear hk); (try clear hi); (try clear ho0)) | (go_at_call 27; (with_reducible refine (nat_Of.calls 6 t148 _ A22.out).mono ?_); rintro e w55 ⟨v149, rfl, ho0, hb⟩; have n0_ := Aside0.mk (Kd.R_elder' (by (with_reducible repeat (first | apply Kd.R_alloc | apply Kd.R_drewN | apply Kd.R_drew)); exact HO103.out) (Kd.R_base ho0) hb); have n1_ := Aside0.mk (Kd.R_elder' (by (with_reducible repeat (first | apply Kd.R_alloc | apply Kd.R_drewN | apply Kd.R_drew)); exact HO106.out) (Kd.R_base ho0) hb); have n2_ := Aside0.mk (Kd.R_elder' (by (with_reducible repeat (first | apply Kd.R_alloc | apply Kd.R_drewN | apply Kd.R_drew)); exact HO109.out) (Kd.R_base ho0) hb); have n3_ := Aside0.mk (Kd.R_elder' (by (with_reducible repeat (first | apply Kd.R_alloc | apply Kd.R_drewN | apply Kd.R_drew)); exact HO113.out) (Kd.R_base ho0) hb); have n4_ := Aside0.mk (Kd.R_elder' (by (with_reducible repeat (first | apply Kd.R_alloc | apply Kd.R_drewN | apply Kd.R_drew)); exact HO116.out) (Kd.R_base ho0) hb); have n5_ := Aside0.mk (Kd.R_elder' (by (with_reducible repeat (first | apply Kd.R_alloc | apply Kd.R_drewN | apply Kd.R_drew)); exact HO119.out) (Kd.R_base ho0) hb); have n6_ := Aside0.mk (Kd.R_elder' (by (with_reducible repeat (first | apply Kd.R_alloc | apply Kd.R_drewN | apply Kd.R_drew)); exact HO123.out) (Kd.R_base ho0) hb); have n7_ := Aside0.mk (Kd.R_elder' (by (with_reducible repeat (first | apply Kd.R_alloc | apply Kd.R_drewN | apply Kd.R_drew)); exact HO126.out) (Kd.R_base ho0) hb); have n8_ := Aside0.mk (Kd.R_elder' (by (with_reducible repeat (first | apply Kd.R_alloc | apply Kd.R_drewN | apply Kd.R_drew)); exact HO130.out) (Kd.R_base ho0) hb); have n9_ := Aside0.mk (Kd.R_elder' (by (with_reducible repeat (first | apply Kd.R_alloc | apply Kd.R_drewN | apply Kd.R_drew)); exact HO133.out) (Kd.R_base ho0) hb); have n10_ := Aside0.mk (Kd.R_elder' (by (with_reducible repeat (first | apply Kd.R_alloc | apply Kd.R_drewN | apply Kd.R_drew)); exact HO137.out) (Kd.R_base ho0) hb); have n11_ := Aside0.mk (Kd.R_elder' (by (with_reducible repeat (first | apply Kd.R_alloc | apply Kd.R_drewN | apply Kd.R_drew)); exact HO141.out) (Kd.R_base ho0) hb); have n12_ := Aside0.mk (Kd.R_elder' (by (with_reducible repeat (first | apply Kd.R_alloc | apply Kd.R_drewN | apply Kd.R_drew)); exact HO144.out) (Kd.R_base ho0) hb); have n13_ := Aside0.mk (Kd.R_elder' (by (with_reducible repeat (first | apply Kd.R_alloc | apply Kd.R_drewN | apply Kd.R_drew)); exact HO147.out) (Kd.R_base ho0) hb); have n14_ := Aside0.mk (Kd.R_lower (Kd.R_new' (Kd.R_new' (Kd.R_new' (Kd.R_new' (Kd.R_new' (Kd.R_new' (Kd.R_new' (Kd.R_new' (Kd.R_new' (Kd.R_new' (Kd.R_new' (Kd.R_new' (Kd.R_new' (Kd.R_new' ho0 (Kd.R_lt (by (with_reducible repeat (first | apply Kd.R_alloc | apply Kd.R_drewN | apply Kd.R_drew)); exact HO103.out))) (Kd.R_lt (by (with_reducible repeat (first | apply Kd.R_alloc | apply Kd.R_drewN | apply Kd.R_drew)); exact HO106.out))) (Kd.R_lt (by (with_reducible repeat (first | apply Kd.R_alloc | apply Kd.R_drewN | apply Kd.R_drew)); exact HO109.out))) (Kd.R_lt (by (with_reducible repeat (first | apply Kd.R_alloc | apply Kd.R_drewN | apply Kd.R_drew)); exact HO113.out))) (Kd.R_lt (by (with_reducible repeat (first | apply Kd.R_alloc | apply Kd.R_drewN | apply Kd.R_drew)); exact HO116.out))) (Kd.R_lt (by (with_reducible repeat (first | apply Kd.R_alloc | apply Kd.R_drewN | apply Kd.R_drew)); exact HO119.out))) (Kd.R_lt (by (with_reducible repeat (first | apply Kd.R_alloc | apply Kd.R_drewN | apply Kd.R_drew)); exact HO123.out))) (Kd.R_lt (by (with_reducible repeat (first | apply Kd.R_alloc | apply Kd.R_drewN | apply Kd.R_drew)); exact HO126.out))) (Kd.R_lt (by (with_reducible repeat (first | apply Kd.R_alloc | apply Kd.R_drewN | apply Kd.R_drew)); exact HO130.out))) (Kd.R_lt (by (with_reducible repeat (first | apply Kd.R_alloc | apply Kd.R_drewN | apply Kd.R_drew)); exact HO133.out))) (Kd.R_lt (by (with_reducible repeat (first | apply Kd.R_alloc | apply Kd.R_drewN | apply Kd.R_drew)); exact HO137.out))) (Kd.R_lt (by (with_reducible repeat (first | apply Kd.R_alloc | apply Kd.R_drewN | apply Kd.R_drew)); exact HO141.out))) (Kd.R_lt (by (with_reducible repeat (first | apply Kd.R_alloc | apply Kd.R_drewN | apply Kd.R_drew)); exact HO144.out))) (Kd.R_lt (by (with_reducible repeat (first | apply Kd.R_alloc | apply Kd.R_drewN | apply Kd.R_drew)); exact HO147.out))) (below_size (by repeat (first | (with_reducible first | exact HB.out | apply below_alloc | apply pw_below_drewN | apply below_drew1) | exact HB.out)))); have n15_ := Aside0.mk (below_step (by repeat (first | (with_reducible first | exact HB.out | apply below_alloc | apply pw_below_drewN | apply below_drew1) | exact HB.out)) hb); clear HO103; clear HO106; clear HO109; clear HO113; clear HO116; clear HO119; clear HO123; clear HO126; clear HO130; clear HO133; clear HO137; clear HO141; clear HO144; clear HO147; clear HB; have HO103 := n0_; have HO106 := n1_; have HO109 := n2_; have HO113 := n3_; have HO116 := n4_; have HO119 := n5_; have HO123 := n6_; have HO126 := n7_; have HO130 := n8_; have HO133 := n9_; have HO137 := n10_; have HO141 := n11_; have HO144 := n12_; have HO147 := n13_; have HO150 := n14_; have HB := n15_; clear n0_ n1_ n2_ n3_ n4_ n5_ n6_ n7_ n8_ n9_ n10_ n11_ n12_ n13_ n14_ n15_; (try clear hb); (try clear hb2); (try clear hk); (try clear hi); (try clear ho0); obtain ⟨Ao56, co56, eo56⟩ := Kd.R_slice HO147.out; subst eo56; obtain ⟨Ao57, co57, eo57⟩ := Kd.R_slice HO150.out; subst eo57) | (go_at_call 28; (with_reducible refine (nat_Cmp.calls _ _ t145 _ _ t148 t151 _ ?side1 ?side2 ?side3 ?side4 A23.out).mono ?_); (case side1 => repeat (first | exact (Kd.R_reads' HO147.out).2.2 | (with_reducible refine Kd.C_alloc ?_ _) | (with_reducible refine Kd.C_drewN ?_ _) | (with_reducible refine Kd.C_drew ?_))); (case side2 => exact (Kd.R_reads' HO147.out).2.1); (case side3 => repeat (first | exact (Kd.R_reads' HO150.out).2.2 | (with_reducible refine Kd.C_alloc ?_ _) | (with_reducible refine Kd.C_drewN ?_ _) | (with_reducible refine Kd.C_drew ?_))); (case side4 => exact (Kd.R_reads' HO150.out).2.1); rintro e w' ⟨rfl, ⟨nd, rfl⟩⟩) | (go_at_call 27; (with_reducible refine (nat_Of.calls 9 t152 _ A25.out).mono ?_); rintro e w58 ⟨v153, rfl, ho0, hb⟩; have n0_ := Aside0.mk (Kd.R_elder' (by (with_reducible repeat (first | apply Kd.R_alloc | apply Kd.R_drewN | apply Kd.R_drew)); exact HO103.out) (Kd.R_base ho0) hb); have n1_ := Aside0.mk (Kd.R_elder' (by (with_reducible repeat (first | apply Kd.R_alloc | apply Kd.R_drewN | apply Kd.R_drew)); exact HO106.out) (Kd.R_base ho0) hb); have n2_ := Aside0.mk (Kd.R_elder' (by (with_reducible repeat (first | apply Kd.R_alloc | apply Kd.R_drewN | apply Kd.R_drew)); exact HO109.out) (Kd.R_base ho0) hb); have n3_ := Aside0.mk (Kd.R_elder' (by (with_reducible repeat (first | apply Kd.R_alloc | apply Kd.R_drewN | apply Kd.R_drew)); exact HO113.out) (Kd.R_base ho0) hb); have n4_ := Aside0.mk (Kd.R_elder' (by (with_reducible repeat (first | apply Kd.R_alloc | apply Kd.R_drewN | apply Kd.R_drew)); exact HO116.out) (Kd.R_base ho0) hb); have n5_ := Aside0.mk (Kd.R_elder' (by (with_reducible repeat (first | apply Kd.R_alloc | apply Kd.R_drewN | apply Kd.R_drew)); exact HO119.out) (Kd.R_base ho0) hb); have n6_ := Aside0.mk (Kd.R_elder' (by (with_reducible repeat (first | apply Kd.R_alloc | apply Kd.R_drewN | apply Kd.R_drew)); exact HO123.out) (Kd.R_base ho0) hb); have n7_ := Aside0.mk (Kd.R_elder' (by (with_reducible repeat (first | apply Kd.R_alloc | apply Kd.R_drewN | apply Kd.R_drew)); exact HO126.out) (Kd.R_base ho0) hb); have n8_ := Aside0.mk (Kd.R_elder' (by (with_reducible repeat (first | apply Kd.R_alloc | apply Kd.R_drewN | apply Kd.R_drew)); exact HO130.out) (Kd.R_base ho0) hb); have n9_ := Aside0.mk (Kd.R_elder' (by (with_reducible repeat (first | apply Kd.R_alloc | apply Kd.R_drewN | apply Kd.R_drew)); exact HO133.out) (Kd.R_base ho0) hb); have n10_ := Aside0.mk (Kd.R_elder' (by (with_reducible repeat (first | apply Kd.R_alloc | apply Kd.R_drewN | apply Kd.R_drew)); exact HO137.out) (Kd.R_base ho0) hb); have n11_ := Aside0.mk (Kd.R_elder' (by (with_reducible repeat (first | apply Kd.R_alloc | apply Kd.R_drewN | apply Kd.R_drew)); exact HO141.out) (Kd.R_base ho0) hb); have n12_ := Aside0.mk (Kd.R_elder' (by (with_reducible repeat (first | apply Kd.R_alloc | apply Kd.R_drewN | apply Kd.R_drew)); exact HO144.out) (Kd.R_base ho0) hb); have n13_ := Aside0.mk (Kd.R_elder' (by (with_reducible repeat (first | apply Kd.R_alloc | apply Kd.R_drewN | apply Kd.R_drew)); exact HO147.out) (Kd.R_base ho0) hb); have n14_ := Aside0.mk (Kd.R_elder' (by (with_reducible repeat (first | apply Kd.R_alloc | apply Kd.R_drewN | apply Kd.R_drew)); exact HO150.out) (Kd.R_base ho0) hb); have n15_ := Aside0.mk (Kd.R_lower (Kd.R_new' (Kd.R_new' (Kd.R_new' (Kd.R_new' (Kd.R_new' (Kd.R_new' (Kd.R_new' (Kd.R_new' (Kd.R_new' (Kd.R_new' (Kd.R_new' (Kd.R_new' (Kd.R_new' (Kd.R_new' (Kd.R_new' ho0 (Kd.R_lt (by (with_reducible repeat (first | apply Kd.R_alloc | apply Kd.R_drewN | apply Kd.R_drew)); exact HO103.out))) (Kd.R_lt (by (with_reducible repeat (first | apply Kd.R_alloc | apply Kd.R_drewN | apply Kd.R_drew)); exact HO106.out))) (Kd.R_lt (by (with_reducible repeat (first | apply Kd.R_alloc | apply Kd.R_drewN | apply Kd.R_drew)); exact HO109.out))) (Kd.R_lt (by (with_reducible repeat (first | apply Kd.R_alloc | apply Kd.R_drewN | apply Kd.R_drew)); exact HO113.out))) (Kd.R_lt (by (with_reducible repeat (first | apply Kd.R_alloc | apply Kd.R_drewN | apply Kd.R_drew)); exact HO116.out))) (Kd.R_lt (by (with_reducible repeat (first | apply Kd.R_alloc | apply Kd.R_drewN | apply Kd.R_drew)); exact HO119.out))) (Kd.R_lt (by (with_reducible repeat (first | apply Kd.R_alloc | apply Kd.R_drewN | apply Kd.R_drew)); exact HO123.out))) (Kd.R_lt (by (with_reducible repeat (first | apply Kd.R_alloc | apply Kd.R_drewN | apply Kd.R_drew)); exact HO126.out))) (Kd.R_lt (by (with_reducible repeat (first | apply Kd.R_alloc | apply Kd.R_drewN | apply Kd.R_drew)); exact HO130.out))) (Kd.R_lt (by (with_reducible repeat (first | apply Kd.R_alloc | apply Kd.R_drewN | apply Kd.R_drew)); exact HO133.out))) (Kd.R_lt (by (with_reducible repeat (first | apply Kd.R_alloc | apply Kd.R_drewN | apply Kd.R_drew)); exact HO137.out))) (Kd.R_lt (by (with_reducible repeat (first | apply Kd.R_alloc | apply Kd.R_drewN | apply Kd.R_drew)); exact HO141.out))) (Kd.R_lt (by (with_reducible repeat (first | apply Kd.R_alloc | apply Kd.R_drewN | apply Kd.R_drew)); exact HO144.out))) (Kd.R_lt (by (with_reducible repeat (first | apply Kd.R_alloc | apply Kd.R_drewN | apply Kd.R_drew)); exact HO147.out))) (Kd.R_lt (by (with_reducible repeat (first | apply Kd.R_alloc | apply Kd.R_drewN | apply Kd.R_drew)); exact HO150.out))) (below_size (by repeat (first | (with_reducible first | exact HB.out | apply below_alloc | apply pw_below_drewN | apply below_drew1) | exact HB.out)))); have n16_ := Aside0.mk (below_step (by repeat (first | (with_reducible first | exact HB.out | apply below_alloc | apply pw_below_drewN | apply below_drew1) | exact HB.out)) hb); clear HO103; clear HO106; clear HO109; clear HO113; clear HO116; clear HO119; clear HO123; clear HO126; clear HO130; clear HO133; clear HO137; clear HO141; clear HO144; clear HO147; clear HO150; clear HB; have HO103 := n0_; have HO106 := n1_; have HO109 := n2_; have HO113 := n3_; have HO116 := n4_; have HO119 := n5_; have HO123 := n6_; have HO126 := n7_; have HO130 := n8_; have HO133 := n9_; have HO137 := n10_; have HO141 := n11_; have HO144 := n12_; have HO147 := n13_; have HO150 := n14_; have HO154 := n15_; have HB := n16_; clear n0_ n1_ n2_ n3_ n4_ n5_ n6_ n7_ n8_ n9_ n10_ n11_ n12_ n13_ n14_ n15_ n16_; (try clear hb); (try clear hb2); (try clear hk); (try clear hi); (try clear ho0); obtain ⟨Ao59, co59, eo59⟩ := Kd.R_slice HO154.out; subst eo59) | (go_at_call 29; (with_reducible refine (modn_Tells.calls _ _ t152 2 true _ ?side1 ?side2 A26.out).mono ?_); (case side1 => repeat (first | exact (Kd.R_reads' HO154.out).2.2 | (with_reducible refine Kd.C_alloc ?_ _) | (with_reducible refine Kd.C_drewN ?_ _) | (with_reducible refine Kd.C_drew ?_))); (case side2 => exact (Kd.R_reads' HO154.out).2.1); rintro e w60 ⟨rfl, hb⟩; have n0_ := Aside0.mk (Kd.R_below (by (with_reducible repeat (first | apply Kd.R_alloc | apply Kd.R_drewN | apply Kd.R_drew)); exact HO103.out) hb); have n1_ := Aside0.mk (Kd.R_below (by (with_reducible repeat (first | apply Kd.R_alloc | apply Kd.R_drewN | apply Kd.R_drew)); exact HO106.out) hb); have n2_ := Aside0.mk (Kd.R_below (by (with_reducible repeat (first | apply Kd.R_alloc | apply Kd.R_drewN | apply Kd.R_drew)); exact HO109.out) hb); have n3_ := Aside0.mk (Kd.R_below (by (with_reducible repeat (first | apply Kd.R_alloc | apply Kd.R_drewN | apply Kd.R_drew)); exact HO113.out) hb); have n4_ := Aside0.mk (Kd.R_below (by (with_reducible repeat (first | apply Kd.R_alloc | apply Kd.R_drewN | apply Kd.R_drew)); exact HO116.out) hb); have n5_ := Aside0.mk (Kd.R_below (by (with_reducible repeat (first | apply Kd.R_alloc | apply Kd.R_drewN | apply Kd.R_drew)); exact HO119.out) hb); have n6_ := Aside0.mk (Kd.R_below (by (with_reducible repeat (first | apply Kd.R_alloc | apply Kd.R_drewN | apply Kd.R_drew)); exact HO123.out) hb); have n7_ := Aside0.mk (Kd.R_below (by (with_reducible repeat (first | apply Kd.R_alloc | apply Kd.R_drewN | apply Kd.R_drew)); exact HO126.out) hb); have n8_ := Aside0.mk (Kd.R_below (by (with_reducible repeat (first | apply Kd.R_alloc | apply Kd.R_drewN | apply Kd.R_drew)); exact HO130.out) hb); have n9_ := Aside0.mk (Kd.R_below (by (with_reducible repeat (first | apply Kd.R_alloc | apply Kd.R_drewN | apply Kd.R_drew)); exact HO133.out) hb); have n10_ := Aside0.mk (Kd.R_below (by (with_reducible repeat (first | apply Kd.R_alloc | apply Kd.R_drewN | apply Kd.R_drew)); exact HO137.out) hb); have n11_ := Aside0.mk (Kd.R_below (by (with_reducible repeat (first | apply Kd.R_alloc | apply Kd.R_drewN | apply Kd.R_drew)); exact HO141.out) hb); have n12_ := Aside0.mk (Kd.R_below (by (with_reducible repeat (first | apply Kd.R_alloc | apply Kd.R_drewN | apply Kd.R_drew)); exact HO144.out) hb); have n13_ := Aside0.mk (Kd.R_below (by (with_reducible repeat (first | apply Kd.R_alloc | apply Kd.R_drewN | apply Kd.R_drew)); exact HO147.out) hb); have n14_ := Aside0.mk (Kd.R_below (by (with_reducible repeat (first | apply Kd.R_alloc | apply Kd.R_drewN | apply Kd.R_drew)); exact HO150.out) hb); have n15_ := Aside0.mk (Kd.R_below (by (with_reducible repeat (first | apply Kd.R_alloc | apply Kd.R_drewN | apply Kd.R_drew)); exact HO154.out) hb); have n16_ := Aside0.mk (below_step (by repeat (first | (with_reducible first | exact HB.out | apply below_alloc | apply pw_below_drewN | apply below_drew1) | exact HB.out)) hb); clear HO103; clear HO106; clear HO109; clear HO113; clear HO116; clear HO119; clear HO123; clear HO126; clear HO130; clear HO133; clear HO137; clear HO141; clear HO144; clear HO147; clear HO150; clear HO154; clear HB; have HO103 := n0_; have HO106 := n1_; have HO109 := n2_; have HO113 := n3_; have HO116 := n4_; have HO119 := n5_; have HO123 := n6_; have HO126 := n7_; have HO130 := n8_; have HO133 := n9_; have HO137 := n10_; have HO141 := n11_; have HO144 := n12_; have HO147 := n13_; have HO150 := n14_; have HO154 := n15_; have HB := n16_; clear n0_ n1_ n2_ n3_ n4_ n5_ n6_ n7_ n8_ n9_ n10_ n11_ n12_ n13_ n14_ n15_ n16_; (try clear hb); (try clear hb2); (try clear hk); (try clear hi)) | (go_at_call 33; (with_reducible refine (modn_Sure.calls 7 t156 _ A28.out).mono ?_); rintro e w' ⟨rfl, ⟨nd, rfl⟩⟩))
                go_ret
                exact ⟨by first | rfl | (simp [errW_none, errW_some] <;> rfl) | (simp [*, errW_none, errW_some] <;> rfl), by repeat (first | (with_reducible first | exact HB.out | apply below_alloc | apply pw_below_drewN | apply below_drew1) | exact HB.out)⟩
              · replace c27 := Bool.eq_false_iff.mpr c27
                subst c27
                have H1 : (some false) = some r := by rw [if_neg (show ¬ (false = true) by decide)] at H; exact H
                clear H
                have H := H1
                clear H1
                obtain rfl := Option.some.inj H
                exact absurd HTR_.out (by decide)
            · rw [if_neg c24] at H
              have c24b0 : (t151 == 0) = false := beq_eq_false_iff_ne.mpr c24
              have c24b1 : (t151 != 0) = true := bne_iff_ne.mpr c24
              obtain rfl := Option.some.inj H
              exact absurd HTR_.out (by decide)
          · rw [if_neg c18] at H
            have c18b0 : (t128 == 11) = false := beq_eq_false_iff_ne.mpr c18
            have c18b1 : (t128 != 11) = true := bne_iff_ne.mpr c18
            obtain rfl := Option.some.inj H
            exact absurd HTR_.out (by decide)
        · rw [if_neg c17] at H
          have c17b0 : (t138 == 0) = false := beq_eq_false_iff_ne.mpr c17
          have c17b1 : (t138 != 0) = true := bne_iff_ne.mpr c17
          obtain rfl := Option.some.inj H
          exact absurd HTR_.out (by decide)
      · rw [if_neg c14] at H
        have c14b0 : (t121 == 0) = false := beq_eq_false_iff_ne.mpr c14
        have c14b1 : (t121 != 0) = true := bne_iff_ne.mpr c14
        obtain rfl := Option.some.inj H
        exact absurd HTR_.out (by decide)
    · rw [if_neg c13] at H
      have c13b0 : (t134 == 0) = false := beq_eq_false_iff_ne.mpr c13
      have c13b1 : (t134 != 0) = true := bne_iff_ne.mpr c13
      obtain rfl := Option.some.inj H
      exact absurd HTR_.out (by decide)
  · rw [if_neg c10] at H
    have c10b0 : (t111 == 0) = false := beq_eq_false_iff_ne.mpr c10
    have c10b1 : (t111 != 0) = true := bne_iff_ne.mpr c10
    obtain rfl := Option.some.inj H
    exact absurd HTR_.out (by decide)
end Go.Proofs.Yteelppebdcgbpaa.Cv
namespace Go.Proofs.Yteelppebdcgbpaa.Cv
open Go.RowKit Go.Proofs.YteelppebdcgbpaaW.PrintWords Go.Proofs.YteelppebdcgbpaaW.PrintLast Go.Proofs.YteelppebdcgbpaaW.PrintMore
attribute [local go_sem] max2_int min2_int max_two min_two max_three min_three max_four min_four   -- for this text's walks alone
set_option linter.unusedVariables false
set_option linter.unusedSimpArgs false
end Go.Proofs.Yteelppebdcgbpaa.Cv
namespace Go.Proofs.Yteelppebdcgbpaa
set_option linter.unusedSimpArgs false
set_option linter.unusedVariables false
open Go.RowKit Go.Proofs.YteelppebdcgbpaaW.PrintWords Go.Proofs.YteelppebdcgbpaaW.PrintLast Go.Proofs.YteelppebdcgbpaaW.PrintMore
theorem twos8 : twos 8 = 3 := by
  rw [twos_step (by omega) (by omega), twos_step (by omega) (by omega), twos_step (by omega) (by omega), twos_odd (by omega)]
theorem tells9 : tellsN 9 2 = true := by
  unfold tellsN
  rw [show (9 - 1 : Nat) = 8 from rfl, twos8]
  decide
theorem alive3_pure : Cv.clepsydralaw03_alive.f = some true := by
  have o : ∀ n : Nat, n < 18446744073709551616 → Cv.nat_Of.f (n : Int) = some (ofN n) := fun n h => by unfold Cv.nat_Of.f; rw [if_pos (by omega), Int.toNat_natCast]
  have o3 : Cv.nat_Of.f 3 = some (ofN 3) := o 3 (by omega)
  have o5 : Cv.nat_Of.f 5 = some (ofN 5) := o 5 (by omega)
  have o7 : Cv.nat_Of.f 7 = some (ofN 7) := o 7 (by omega)
  have o12 : Cv.nat_Of.f 12 = some (ofN 12) := o 12 (by omega)
  have o18 : Cv.nat_Of.f 18 = some (ofN 18) := o 18 (by omega)
  have o6 : Cv.nat_Of.f 6 = some (ofN 6) := o 6 (by omega)
  have o9 : Cv.nat_Of.f 9 = some (ofN 9) := o 9 (by omega)
  have s : ∀ n : Nat, n < 18446744073709551616 → ∀ {m}, 1 ≤ m → okN m (ofN n) := fun n h m hm => okN_ofN (Nat.le_trans (ln_small h) hm)
  have p : Cv.modn_Pow.f (ofN 3) (ofN 5) (ofN 7) = some (ofN 5, 0) := by
    unfold Cv.modn_Pow.f
    rw [if_pos ⟨s _ (by omega) (by omega), s _ (by omega) (by omega), s _ (by omega) (by omega)⟩, nI_ofN, nI_ofN, nI_ofN, powR_pos (by omega)]; rfl
  have i : Cv.modn_Inverse.f (ofN 3) (ofN 7) = some (ofN 5, 0) := by
    unfold Cv.modn_Inverse.f
    rw [if_pos ⟨s _ (by omega) (by omega), s _ (by omega) (by omega)⟩, nI_ofN, nI_ofN, invR_pos (by omega) (by decide), invN_eq (x := 5) (by omega) (by decide)]
  have m : Cv.modn_Mod.f (ofN 3) [] = some ([], 11) := by
    unfold Cv.modn_Mod.f
    rw [if_pos ⟨s _ (by omega) (by omega), okN_nil _⟩]
    unfold modR
    rw [show nI [] = 0 from rfl, if_pos rfl, if_pos rfl, ofN_zero]
  have g : Cv.modn_Gcd.f (ofN 12) (ofN 18) = some (ofN 6) := by
    unfold Cv.modn_Gcd.f
    rw [if_pos ⟨s _ (by omega) (by omega), s _ (by omega) (by omega)⟩, nI_ofN, nI_ofN]; rfl
  have t : Cv.modn_Tells.f (ofN 9) 2 = some true := by
    unfold Cv.modn_Tells.f
    rw [if_pos ⟨s _ (by omega) (by omega), by omega, by omega⟩, nI_ofN]
    exact congrArg some tells9
  have u : Cv.modn_Sure.f 7 = some true := by
    unfold Cv.modn_Sure.f
    rw [if_pos ⟨by omega, by omega⟩]; decide
  have c : ∀ n : Nat, n < 18446744073709551616 → Cv.nat_Cmp.f (ofN n) (ofN n) = some 0 := fun n h => by unfold Cv.nat_Cmp.f; rw [if_pos ⟨s _ h (by omega), s _ h (by omega)⟩, cmpN_eq rfl]
  have c5 := c 5 (by omega)
  have c6 := c 6 (by omega)
  unfold Cv.clepsydralaw03_alive.f
  simp only [o3, o5, o7, o12, o18, o6, o9, p, i, m, g, t, u, c5, c6, Option.bind_some, if_true]
theorem alive3_giv {r : Bool} {w : World} (h : some true = some r) : Calls Try.prog 12 #[] w fun e w' => e = .returned (.bool r) ∧ Below w.heap.size w w' := by
  obtain rfl := Option.some.inj h
  exact Cv.clepsydralaw03_alive.calls _ _ alive3_pure rfl
end Go.Proofs.Yteelppebdcgbpaa
namespace Go.Proofs.Yteelppebdcgbpaa
set_option linter.unusedSimpArgs false
set_option linter.unusedVariables false
open Go.RowKit
theorem cong_start1 (n a : Nat) : Cong n a 0 n := ⟨-1, by simp⟩
theorem cong_start2 (m x : Nat) : Cong m x (1 % m) (x % m) := by
  have h1 := Nat.div_add_mod x m
  have h2 := Nat.div_add_mod 1 m
  refine ⟨(x / m : Nat) - (1 / m : Nat) * x, ?_⟩
  have h1' : ((x % m : Nat) : Int) = x - m * (x / m : Nat) := by
    have : ((m * (x / m) + x % m : Nat) : Int) = x := by rw [h1]
    rw [← this]; push_cast; omega
  have h2' : ((1 % m : Nat) : Int) = 1 - m * (1 / m : Nat) := by
    have : ((m * (1 / m) + 1 % m : Nat) : Int) = (1 : Nat) := by rw [h2]
    rw [← Int.natCast_one, ← this]; push_cast; omega
  rw [h1', h2']
  grind
end Go.Proofs.Yteelppebdcgbpaa
namespace Go.Proofs.Yteelppebdcgbpaa
set_option linter.unusedSimpArgs false
set_option linter.unusedVariables false
open Go.RowKit Go.Proofs.YteelppebdcgbpaaW.PrintWords Go.Proofs.YteelppebdcgbpaaW.PrintLast Go.Proofs.YteelppebdcgbpaaW.PrintMore
theorem dl_of_ln {n m : Nat} (h : ln n ≤ m) : D.ln n ≤ 4 * m := by
  rw [D.ln_le, D.wpow, show 16 * (4 * m) = 64 * m by omega, ← wpow]
  exact ln_le.1 h
theorem dl_mono {a b : Nat} (h : a ≤ b) : D.ln a ≤ D.ln b := D.ln_mono h
theorem dl_mod {a b k : Nat} (h0 : 0 < b) (h : D.ln b ≤ k) : D.ln (a % b) ≤ k := Nat.le_trans (D.ln_mono (Nat.le_of_lt (Nat.mod_lt a h0))) h
theorem ofD_small {n : Nat} (h0 : 0 < n) (h : n < 65536) : ofD n = [(n : Int)] := by
  unfold ofD
  rw [D.dgs_pos (by omega), Nat.div_eq_of_lt h, D.dgs_zero, Nat.mod_eq_of_lt h]; rfl
theorem ofD_one : ofD 1 = [1] := ofD_small (by omega) (by omega)
theorem dl_small {n : Nat} (h : n < 65536) : D.ln n ≤ 1 := D.ln_small h
theorem rp {a b : Nat} (ha : D.ln a ≤ 65536) (hb : D.ln b ≤ 65536) (h : 0 < b) : Cr.clepsydraref03_parted.f (ofD a) (ofD b) = some (ofD (a / b), ofD (a % b)) := by
  unfold Cr.clepsydraref03_parted.f
  rw [if_pos ⟨okD_ofD ha, okD_ofD hb, by rw [dI_ofD]; exact h⟩, dI_ofD, dI_ofD]
theorem rt {a b n : Nat} (hb : D.ln b ≤ 65536) (hn : D.ln n ≤ 65536) (h : a < n) : Cr.clepsydraref03_times.f (ofD a) (ofD b) (ofD n) = some (ofD (a * b % n)) := by
  have hl := dl_mono (Nat.le_of_lt h)
  unfold Cr.clepsydraref03_times.f
  rw [if_pos ⟨okD_ofD (by omega), okD_ofD hb, okD_ofD hn, by rw [dI_ofD, dI_ofD]; exact h, by rw [ofD_length, ofD_length]; omega⟩, dI_ofD, dI_ofD, dI_ofD]
theorem rb {a : Nat} (ha : D.ln a ≤ 65536) (i : Nat) (hi : i ≤ 4611686018427387904) : Cr.clepsydraref03_bit.f (ofD a) (i : Int) = some ((a / 2 ^ i % 2 : Nat) : Int) := by
  unfold Cr.clepsydraref03_bit.f
  rw [if_pos ⟨okD_ofD (by omega), by omega, by omega⟩, dI_ofD, Int.toNat_natCast]
theorem rc {a b : Nat} (ha : D.ln a ≤ 65536) (hb : D.ln b ≤ 65536) : Cr.clepsydraref03_cmp.f (ofD a) (ofD b) = some (cmpN a b) := by
  unfold Cr.clepsydraref03_cmp.f
  rw [if_pos ⟨okD_ofD (by omega), okD_ofD (by omega)⟩, dI_ofD, dI_ofD]
theorem len0 (n : Nat) : ((ofD n).length : Int) = 0 ↔ n = 0 := by
  rw [ofD_length]
  constructor
  · intro h
    rcases Nat.eq_zero_or_pos n with h0 | h0
    · exact h0
    · have := D.ln_pos (show n ≠ 0 by omega); omega
  · rintro rfl; rw [D.ln_zero]; rfl
theorem power_l0R {m x e : Nat} (hm : 0 < m) (hx : x < m) (hl : D.ln m ≤ 65536) (he : D.ln e ≤ 65536) : ∀ (j k : Nat), j < k → j ≤ 16777216 →
    Cr.clepsydraref03_power.l0 k (ofD x) (ofD e) (ofD m) (ofD (powM x (e / 2 ^ j) m)) ((j : Int) - 1) = some (ofD (powM x e m)) := by
  intro j
  induction j with
  | zero =>
    intro k hk _
    obtain ⟨k, rfl⟩ : ∃ q, k = q + 1 := ⟨k - 1, by omega⟩
    simp only [Cr.clepsydraref03_power.l0]
    rw [if_neg (by omega), Nat.pow_zero, Nat.div_one]
  | succ j ih =>
    intro k hk hj
    obtain ⟨k, rfl⟩ : ∃ q, k = q + 1 := ⟨k - 1, by omega⟩
    have lp : ∀ f, D.ln (powM x f m) ≤ 65536 := fun f => dl_mod hm hl
    have lx : D.ln x ≤ 65536 := Nat.le_trans (dl_mono (Nat.le_of_lt hx)) hl
    have ej : ((j + 1 : Nat) : Int) - 1 = (j : Int) := by omega
    have hw : wrap64 ((j : Int) - 1) = (j : Int) - 1 := wr (by omega) (by omega)
    simp only [Cr.clepsydraref03_power.l0]
    rw [ej, if_pos (by omega), rt (lp _) hl (powM_lt hm), Option.bind_some, powM_sq, rb he j (by omega), Option.bind_some, hw]
    have hs := half_split e j
    have hb := Nat.mod_lt (e / 2 ^ j) (show 0 < 2 by omega)
    clear hw
    by_cases h1 : e / 2 ^ j % 2 = 1
    · rw [if_pos (by rw [h1]; rfl), rt lx hl (powM_lt hm), Option.bind_some]
      have e1 : powM x (2 * (e / 2 ^ (j + 1))) m * x % m = powM x (e / 2 ^ j) m := by
        have := powM_add x (2 * (e / 2 ^ (j + 1))) 1 m
        rw [powM_one, Nat.mod_eq_of_lt hx] at this
        rw [this, hs, h1]
      rw [e1]
      exact ih k (by omega) (by omega)
    · have h0 : e / 2 ^ j % 2 = 0 := by omega
      rw [if_neg (by rw [h0]; decide)]
      have e1 : powM x (2 * (e / 2 ^ (j + 1))) m = powM x (e / 2 ^ j) m := by rw [hs, h0]; rfl
      rw [e1]
      exact ih k (by omega) (by omega)
theorem power_pureR {m x e : Nat} (hm : 0 < m) (hx : x < m) (hl : D.ln m ≤ 65536) (he : D.ln e ≤ 65536) (k : Nat) (hk : 16 * D.ln e < k) : Cr.clepsydraref03_power.f k (ofD x) (ofD e) (ofD m) = some (ofD (powM x e m)) := by
  unfold Cr.clepsydraref03_power.f
  have h1 : 1 < 65536 := by omega
  rw [← ofD_one, rp (Nat.le_trans (dl_small h1) (by omega)) hl hm, Option.bind_some, ofD_length]
  have e1 : wrap64 (16 * ((D.ln e : Nat) : Int)) = ((16 * D.ln e : Nat) : Int) := by unfold wrap64; omega
  have e2 : wrap64 (((16 * D.ln e : Nat) : Int) - 1) = ((16 * D.ln e : Nat) : Int) - 1 := by unfold wrap64; omega
  rw [e1, e2]
  clear e1 e2
  have h := power_l0R (e := e) hm hx hl he (16 * D.ln e) k hk (by omega)
  have hlt : e < 2 ^ (16 * D.ln e) := by rw [← D.wpow]; exact D.lt_ln e
  rw [Nat.div_eq_of_lt hlt] at h
  simp only
  rw [show powM x 0 m = 1 % m by unfold powM; rw [Nat.pow_zero]] at h
  exact h
section
variable {a b c : List Int}
theorem mod_pureR (ha : okN 4096 a) (hb : okN 4096 b) (k : Nat) (hk : 50000 ≤ k) : Cr.clepsydraref03_Mod.f k a b = some (modR (nI a) (nI b)) := by
  have la := dl_of_ln (ln_nI ha)
  have lb := dl_of_ln (ln_nI hb)
  unfold Cr.clepsydraref03_Mod.f
  rw [digits_pureR hb (by omega) k (by omega), Option.bind_some]
  by_cases h0 : nI b = 0
  · rw [if_pos ((len0 _).2 h0), h0]; unfold modR; rw [if_pos rfl, if_pos rfl, ofN_zero]
  · have hp : 0 < nI b := by omega
    rw [if_neg (fun h => h0 ((len0 _).1 h)), digits_pureR ha (by omega) k (by omega), Option.bind_some, rp (by omega) (by omega) hp, Option.bind_some]
    simp only
    have := dl_mod (a := nI a) hp lb
    rw [number_pureR _ (by omega) k (by omega), Option.bind_some, modR_pos hp]
theorem mul_pureR (ha : okN 4096 a) (hb : okN 4096 b) (hc : okN 4096 c) (k : Nat) (hk : 50000 ≤ k) : Cr.clepsydraref03_Mul.f k a b c = some (modR (nI a * nI b) (nI c)) := by
  have la := dl_of_ln (ln_nI ha)
  have lb := dl_of_ln (ln_nI hb)
  have lc := dl_of_ln (ln_nI hc)
  unfold Cr.clepsydraref03_Mul.f
  rw [digits_pureR hc (by omega) k (by omega), Option.bind_some]
  by_cases h0 : nI c = 0
  · rw [if_pos ((len0 _).2 h0), h0]; unfold modR; rw [if_pos rfl, if_pos rfl, ofN_zero]
  · have hp : 0 < nI c := by omega
    rw [if_neg (fun h => h0 ((len0 _).1 h)), digits_pureR ha (by omega) k (by omega), Option.bind_some, rp (by omega) (by omega) hp, Option.bind_some]
    simp only
    rw [digits_pureR hb (by omega) k (by omega), Option.bind_some, rt (by omega) (by omega) (Nat.mod_lt _ hp), Option.bind_some]
    have := dl_mod (a := nI a % nI c * nI b) hp lc
    rw [number_pureR _ (by omega) k (by omega), Option.bind_some, modR_pos hp, Nat.mod_mul_mod]
theorem pow_pureR (ha : okN 4096 a) (hb : okN 4096 b) (hc : okN 4096 c) (k : Nat) (hk : 500000 ≤ k) : Cr.clepsydraref03_Pow.f k a b c = some (powR (nI a) (nI b) (nI c)) := by
  have la := dl_of_ln (ln_nI ha)
  have lb := dl_of_ln (ln_nI hb)
  have lc := dl_of_ln (ln_nI hc)
  unfold Cr.clepsydraref03_Pow.f
  rw [digits_pureR hc (by omega) k (by omega), Option.bind_some]
  by_cases h0 : nI c = 0
  · rw [if_pos ((len0 _).2 h0), h0]; unfold powR; rw [if_pos rfl, if_pos rfl, ofN_zero]
  · have hp : 0 < nI c := by omega
    rw [if_neg (fun h => h0 ((len0 _).1 h)), digits_pureR ha (by omega) k (by omega), Option.bind_some, rp (by omega) (by omega) hp, Option.bind_some]
    simp only
    rw [digits_pureR hb (by omega) k (by omega), Option.bind_some, power_pureR hp (Nat.mod_lt _ hp) (by omega) (by omega) k (by omega), Option.bind_some, powM_mod]
    have : D.ln (powM (nI a) (nI b) (nI c)) ≤ 4 * 4096 := dl_mod hp lc
    rw [number_pureR _ (by omega) k (by omega), Option.bind_some, powR_pos h0]
end
theorem gcd_fR {K : Nat} (hK : K ≤ 65536) : ∀ (y x : Nat), D.ln x ≤ K → D.ln y ≤ K → ∃ k0, ∀ k, k0 ≤ k → Cr.clepsydraref03_gcd.f k (ofD x) (ofD y) = some (ofD (Nat.gcd x y)) := by
  intro y
  induction y using Nat.strongRecOn with
  | ind y ih =>
    intro x hx hy
    by_cases h0 : y = 0
    · refine ⟨1, fun k hk => ?_⟩
      obtain ⟨k, rfl⟩ : ∃ q, k = q + 1 := ⟨k - 1, by omega⟩
      simp only [Cr.clepsydraref03_gcd.f]
      rw [if_pos ((len0 _).2 h0), h0, Nat.gcd_zero_right]
    · have hp : 0 < y := by omega
      obtain ⟨k0, h⟩ := ih (x % y) (Nat.mod_lt x hp) y hy (dl_mod hp hy)
      refine ⟨k0 + 1, fun k hk => ?_⟩
      obtain ⟨k, rfl⟩ : ∃ q, k = q + 1 := ⟨k - 1, by omega⟩
      simp only [Cr.clepsydraref03_gcd.f]
      rw [if_neg (fun h => h0 ((len0 _).1 h)), rp (by omega) (by omega) hp, Option.bind_some]
      simp only
      have e : Nat.gcd y (x % y) = Nat.gcd x y := by rw [Nat.gcd_comm x y, Nat.gcd_rec y x, Nat.gcd_comm y]
      rw [h k (by omega), e, Option.bind_some]
theorem gcd_pureR {a b : List Int} (ha : okN 4096 a) (hb : okN 4096 b) : ∃ k0, ∀ k, k0 ≤ k → Cr.clepsydraref03_Gcd.f k a b = some (ofN (Nat.gcd (nI a) (nI b))) := by
  have la := dl_of_ln (ln_nI ha)
  have lb := dl_of_ln (ln_nI hb)
  obtain ⟨k0, h⟩ := gcd_fR (K := 16384) (by omega) (nI b) (nI a) la lb
  have lg : D.ln (Nat.gcd (nI a) (nI b)) ≤ 16384 := by
    rcases Nat.eq_zero_or_pos (nI b) with h0 | h0
    · rw [h0, Nat.gcd_zero_right]; exact la
    · exact Nat.le_trans (dl_mono (Nat.gcd_le_right _ h0)) lb
  refine ⟨k0 + 50000, fun k hk => ?_⟩
  unfold Cr.clepsydraref03_Gcd.f
  rw [digits_pureR ha (by omega) k (by omega), Option.bind_some, digits_pureR hb (by omega) k (by omega), Option.bind_some, h k (by omega), Option.bind_some, number_pureR _ (by omega) k (by omega), Option.bind_some]
theorem subM_mod {l s m : Nat} (hl : l < m) (hs : s < m) : (l + m - s) % m = subM l s m := by
  unfold subM
  split
  · exact Nat.mod_eq_of_lt (by omega)
  · rw [Nat.mod_eq_sub_mod (by omega), show l + m - s - m = l - s by omega]; exact Nat.mod_eq_of_lt (by omega)
theorem inverse_l0R {n a G K : Nat} (hn : 0 < n) (hK : K ≤ 16384) (hl : D.ln n ≤ K) : ∀ (r o l x : Nat), D.ln o ≤ K → D.ln r ≤ K → l < n → x < n → Cong n a l o → Cong n a x r → Nat.gcd o r = G →
    ∃ k0, ∀ k, k0 ≤ k → Cr.clepsydraref03_Inverse.l0 k (ofD n) (ofD r) (ofD o) (ofD l) (ofD x) = some (if G = 1 then (ofN (invN a n), 0) else ([], 30)) := by
  intro r
  induction r using Nat.strongRecOn with
  | ind r ih =>
    intro o l x ho hr hlt hxt c1 c2 hg
    have hln : ∀ y, y < n → D.ln y ≤ K := fun y hy => Nat.le_trans (D.ln_mono (Nat.le_of_lt hy)) hl
    by_cases h0 : r = 0
    · refine ⟨D.ln l + 2, fun k hk => ?_⟩
      obtain ⟨k, rfl⟩ : ∃ q, k = q + 1 := ⟨k - 1, by omega⟩
      rw [h0, Nat.gcd_zero_right] at hg
      have hlen : ¬ ((ofD r).length : Int) > 0 := by rw [ofD_length, h0, D.ln_zero]; decide
      have hL := hln l hlt
      simp only [Cr.clepsydraref03_Inverse.l0]
      rw [if_neg hlen, ← ofD_one, rc (by omega) (Nat.le_trans (dl_small (by omega)) (by omega)), Option.bind_some]
      by_cases h1 : o = 1
      · rw [cmpN_eq h1, if_pos rfl, number_pureR _ (by omega) k (by omega), Option.bind_some, if_pos (by omega), invN_eq hlt (cong_gcd c1 h1)]
      · have : cmpN o 1 ≠ 0 := by
          unfold cmpN; split
          · omega
          · rw [if_pos (by omega)]; omega
        rw [if_neg this, if_neg (by omega)]
    · have hp : 0 < r := by omega
      have hm : o / r * x % n < n := Nat.mod_lt _ hn
      have hs := subM_lt hlt hm
      obtain ⟨k0, h⟩ := ih (o % r) (Nat.mod_lt o hp) r x (subM l (o / r * x % n) n) hr (dl_mod hp hr) hxt hs c2 (c1.next c2 hp hn)
        (by rw [← hg, Nat.gcd_comm o r, Nat.gcd_rec r o, Nat.gcd_comm r])
      refine ⟨k0 + 100000, fun k hk => ?_⟩
      obtain ⟨k, rfl⟩ : ∃ q, k = q + 1 := ⟨k - 1, by omega⟩
      have hlen : ((ofD r).length : Int) > 0 := by rw [ofD_length]; have := D.ln_pos h0; omega
      have lq : D.ln (o / r) ≤ K := Nat.le_trans (D.ln_div o r) ho
      have hL := hln l hlt
      have hX := hln x hxt
      have hM := hln _ hm
      obtain ⟨p, hp1, hp2, hp3, hp4⟩ := plus_pureR (D.dgs_b64 l) (D.dgs_b64 n) (M := K) hL hl (by omega) k (by omega)
      rw [D.nv_dgs, D.nv_dgs] at hp4
      simp only [Cr.clepsydraref03_Inverse.l0]
      rw [if_pos hlen, rp (by omega) (by omega) hp, Option.bind_some, rp (by omega) (by omega) hn, Option.bind_some, ofD_eq l, ofD_eq n, hp1, Option.bind_some, ← ofD_eq n]
      simp only
      rw [rt (by omega) (by omega) (Nat.mod_lt _ hn), Option.bind_some, Nat.mod_mul_mod, ofD_eq (o / r * x % n), minus_pureR hp2 (D.dgs_b64 _) (by omega) (by rw [hp4, D.nv_dgs]; omega) k (by omega), Option.bind_some, hp4, D.nv_dgs]
      have lsum : D.ln (l + n - o / r * x % n) ≤ K + 1 := Nat.le_trans (D.ln_mono (Nat.sub_le _ _)) (D.ln_add l n K hL hl)
      rw [rp (by omega) (by omega) hn, Option.bind_some, subM_mod hlt hm]
      exact h k (by omega)
theorem inverse_pureR {a n : List Int} (ha : okN 4096 a) (hn : okN 4096 n) : ∃ k0, ∀ k, k0 ≤ k → Cr.clepsydraref03_Inverse.f k a n = some (invR (nI a) (nI n)) := by
  have la := dl_of_ln (ln_nI ha)
  have lb := dl_of_ln (ln_nI hn)
  obtain ⟨m, hm⟩ : ∃ m, nI n = m := ⟨_, rfl⟩
  obtain ⟨x, hx⟩ : ∃ x, nI a = x := ⟨_, rfl⟩
  rw [hm] at lb
  rw [hx] at la
  rcases Nat.eq_zero_or_pos m with h0 | h0
  · refine ⟨50000, fun k hk => ?_⟩
    unfold Cr.clepsydraref03_Inverse.f invR
    rw [digits_pureR hn (by omega) k (by omega), Option.bind_some, hm, if_pos ((len0 _).2 h0), if_pos h0]
  · obtain ⟨k0, h⟩ := inverse_l0R (a := x) (G := Nat.gcd x m) h0 (K := 16384) (by omega) lb (x % m) m 0 (1 % m) lb (dl_mod h0 lb) h0 (Nat.mod_lt _ h0) (cong_start1 m x) (cong_start2 m x)
      (by rw [Nat.gcd_comm x m, Nat.gcd_rec m x, Nat.gcd_comm m])
    refine ⟨k0 + 50000, fun k hk => ?_⟩
    unfold Cr.clepsydraref03_Inverse.f invR
    rw [digits_pureR hn (by omega) k (by omega), Option.bind_some, hm, if_neg (fun h => by have := (len0 _).1 h; omega), digits_pureR ha (by omega) k (by omega), Option.bind_some, hx, rp (by omega) (by omega) h0, Option.bind_some, ← ofD_one, rp (Nat.le_trans (dl_small (by omega)) (by omega)) (by omega) h0, Option.bind_some, if_neg (show ¬ m = 0 by omega)]
    simp only
    rw [ofD_zero] at h
    exact h k (by omega)
end Go.Proofs.Yteelppebdcgbpaa
namespace Go.Proofs.Yteelppebdcgbpaa
set_option linter.unusedSimpArgs false
set_option linter.unusedVariables false
open Go.RowKit Go.Proofs.YteelppebdcgbpaaW.PrintWords Go.Proofs.YteelppebdcgbpaaW.PrintLast Go.Proofs.YteelppebdcgbpaaW.PrintMore
section
variable {A0 A1 A2 : Option Addr} {c0 c1 c2 : Nat} {l0 l1 l2 : List Int} {w : World}
theorem mod3_giv {r1 : List Int} {r2 : Int} (hr0 : Kd.C (Kd.int .u64) w A0 l0.length l0) (hc0 : l0.length ≤ c0) (hr1 : Kd.C (Kd.int .u64) w A1 l1.length l1) (hc1 : l1.length ≤ c1) (h : (if okN 4096 l0 ∧ okN 4096 l1 then some (modR (nI l0) (nI l1)) else none) = some (r1, r2)) :
    Calls Try.prog 14 #[.slice A0 l0.length c0, .slice A1 l1.length c1] w fun e w' => ∃ v0_ : Value, e = .returned (.tuple #[v0_, .int .i64 r2]) ∧ Kd.R (Kd.int .u64) 35 w' w.heap.size (fun _ => True) v0_ r1 ∧ Below w.heap.size w w' := by
  obtain ⟨⟨h0, h1⟩, h⟩ := of_ite h
  exact Cr.clepsydraref03_Mod.calls 50000 _ _ _ _ _ _ _ _ _ hr0 hc0 hr1 hc1 ((mod_pureR h0 h1 _ (Nat.le_refl _)).trans (congrArg some h))
theorem mul3_giv {r1 : List Int} {r2 : Int} (hr0 : Kd.C (Kd.int .u64) w A0 l0.length l0) (hc0 : l0.length ≤ c0) (hr1 : Kd.C (Kd.int .u64) w A1 l1.length l1) (hc1 : l1.length ≤ c1) (hr2 : Kd.C (Kd.int .u64) w A2 l2.length l2) (hc2 : l2.length ≤ c2) (h : (if okN 4096 l0 ∧ okN 4096 l1 ∧ okN 4096 l2 then some (modR (nI l0 * nI l1) (nI l2)) else none) = some (r1, r2)) :
    Calls Try.prog 16 #[.slice A0 l0.length c0, .slice A1 l1.length c1, .slice A2 l2.length c2] w fun e w' => ∃ v0_ : Value, e = .returned (.tuple #[v0_, .int .i64 r2]) ∧ Kd.R (Kd.int .u64) 35 w' w.heap.size (fun _ => True) v0_ r1 ∧ Below w.heap.size w w' := by
  obtain ⟨⟨h0, h1, h2⟩, h⟩ := of_ite h
  exact Cr.clepsydraref03_Mul.calls 50000 _ _ _ _ _ _ _ _ _ _ _ _ hr0 hc0 hr1 hc1 hr2 hc2 ((mul_pureR h0 h1 h2 _ (Nat.le_refl _)).trans (congrArg some h))
theorem pow3_giv {r1 : List Int} {r2 : Int} (hr0 : Kd.C (Kd.int .u64) w A0 l0.length l0) (hc0 : l0.length ≤ c0) (hr1 : Kd.C (Kd.int .u64) w A1 l1.length l1) (hc1 : l1.length ≤ c1) (hr2 : Kd.C (Kd.int .u64) w A2 l2.length l2) (hc2 : l2.length ≤ c2) (h : (if okN 4096 l0 ∧ okN 4096 l1 ∧ okN 4096 l2 then some (powR (nI l0) (nI l1) (nI l2)) else none) = some (r1, r2)) :
    Calls Try.prog 19 #[.slice A0 l0.length c0, .slice A1 l1.length c1, .slice A2 l2.length c2] w fun e w' => ∃ v0_ : Value, e = .returned (.tuple #[v0_, .int .i64 r2]) ∧ Kd.R (Kd.int .u64) 35 w' w.heap.size (fun _ => True) v0_ r1 ∧ Below w.heap.size w w' := by
  obtain ⟨⟨h0, h1, h2⟩, h⟩ := of_ite h
  exact Cr.clepsydraref03_Pow.calls 500000 _ _ _ _ _ _ _ _ _ _ _ _ hr0 hc0 hr1 hc1 hr2 hc2 ((pow_pureR h0 h1 h2 _ (Nat.le_refl _)).trans (congrArg some h))
theorem gcd3_giv {r : List Int} (hr0 : Kd.C (Kd.int .u64) w A0 l0.length l0) (hc0 : l0.length ≤ c0) (hr1 : Kd.C (Kd.int .u64) w A1 l1.length l1) (hc1 : l1.length ≤ c1) (h : (if okN 4096 l0 ∧ okN 4096 l1 then some (ofN (Nat.gcd (nI l0) (nI l1))) else none) = some r) :
    Calls Try.prog 23 #[.slice A0 l0.length c0, .slice A1 l1.length c1] w fun e w' => ∃ v0_ : Value, e = .returned (v0_) ∧ Kd.R (Kd.int .u64) 35 w' w.heap.size (fun _ => True) v0_ r ∧ Below w.heap.size w w' := by
  obtain ⟨⟨h0, h1⟩, rfl⟩ := of_ite h
  obtain ⟨k, hk⟩ := gcd_pureR h0 h1
  exact Cr.clepsydraref03_Gcd.calls k _ _ _ _ _ _ _ _ hr0 hc0 hr1 hc1 (hk k (Nat.le_refl _))
theorem inverse3_giv {r1 : List Int} {r2 : Int} (hr0 : Kd.C (Kd.int .u64) w A0 l0.length l0) (hc0 : l0.length ≤ c0) (hr1 : Kd.C (Kd.int .u64) w A1 l1.length l1) (hc1 : l1.length ≤ c1) (h : (if okN 4096 l0 ∧ okN 4096 l1 then some (invR (nI l0) (nI l1)) else none) = some (r1, r2)) :
    Calls Try.prog 21 #[.slice A0 l0.length c0, .slice A1 l1.length c1] w fun e w' => ∃ v0_ : Value, e = .returned (.tuple #[v0_, .int .i64 r2]) ∧ Kd.R (Kd.int .u64) 35 w' w.heap.size (fun _ => True) v0_ r1 ∧ Below w.heap.size w w' := by
  obtain ⟨⟨h0, h1⟩, h⟩ := of_ite h
  obtain ⟨k, hk⟩ := inverse_pureR h0 h1
  exact Cr.clepsydraref03_Inverse.calls k _ _ _ _ _ _ _ _ _ hr0 hc0 hr1 hc1 ((hk k (Nat.le_refl _)).trans (congrArg some h))
end
end Go.Proofs.Yteelppebdcgbpaa
namespace Go.Proofs.YteelppebdcgbpaaW.PrintWords
open Go.ChangeShapes Go.WideShapes
theorem sized_ints {H : Type} {enc : TypeId × Value → H} {P : Program} {W : World} {base : Nat} {spare : Nat → Bool} {held : Bool} {t e : TypeId} {k : IntKind} {a : Option Addr} {len cap : Nat} {d : DataW H} {ps : List MemPlace} {ts : List TypeId} {ds : List (DataW H)} {j : Nat}
    (hsz : (DataW.weightsEach P ts ds).all (· ≤ reachBytes) = true) (ht : ts[j]? = some t) (hd : ds[j]? = some d) (hu : P.underlying t = some (.slice e)) (he : P.underlying e = some (.int k)) (hc : P.cellsOf e = 1) {B : Nat} (hB : P.bytesOf e = B)
    (h : DataW.Trod enc P W base spare held t (.slice a len cap) d ps) : len * B ≤ 140737488351232 := by
  obtain ⟨fuel, hf⟩ := h
  rcases open_ints hu he hc hf with ⟨hcs, _⟩ | ⟨x, l, c, zs, hcs, _, hl, _, hz, hx, _, _⟩
  · simp [Value.cells] at hcs
    obtain ⟨rfl, rfl, rfl⟩ := hcs
    simp
  · simp [Value.cells] at hcs
    obtain ⟨rfl, rfl, rfl⟩ := hcs
    obtain ⟨hx, _⟩ := Prod.mk.inj hx
    subst hx
    have z := sized_slice hsz ht hd hu
    rw [hB] at z
    have hl2 : len ≤ zs.length := by
      rw [hz]
      split
      · exact hl
      · exact Nat.le_refl _
    have h1 : (lits (H := H) k (zs.take len)).length + (lits (H := H) k (zs.drop len)).length = zs.length := by
      simp [lits]
      omega
    rw [h1] at z
    exact Nat.le_trans (Nat.mul_le_mul_right _ hl2) z
end Go.Proofs.YteelppebdcgbpaaW.PrintWords
