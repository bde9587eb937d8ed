/- Texts of this claim, joined: what its laws use. -/
import Derived.Test.YteelppebdcgbpaaQE
import Derived.Deep.RegionHeld3
namespace Go.Proofs.Yteelppebdcgbpaa.Cv
open Go.RowKit Go.Proofs.YteelppebdcgbpaaW.PrintWords Go.Proofs.YteelppebdcgbpaaW.PrintLast Go.Proofs.YteelppebdcgbpaaW.PrintMore
attribute [local go_sem] max2_int min2_int max_two min_two max_three min_three max_four min_four   -- for this text's walks alone
set_option linter.unusedVariables false
set_option linter.unusedSimpArgs false
def modn_Mod.f (l0 : List Int) (l1 : List Int) : Option (List Int × Int) := if okN 262144 l0 ∧ okN 262144 l1 then some (modR (nI l0) (nI l1)) else none
theorem modn_Mod.calls (A0 : Option Addr) (c0 : Nat) (l0 : List Int) (A1 : Option Addr) (c1 : Nat) (l1 : List Int) (r1 : List Int) (r2 : Int) (w : World) (hr0 : Kd.C (Kd.int .u64) w A0 l0.length l0) (hc0 : l0.length ≤ c0) (hr1 : Kd.C (Kd.int .u64) w A1 l1.length l1) (hc1 : l1.length ≤ c1) (h : modn_Mod.f l0 l1 = some (r1, r2)) :
    Calls Try.prog 13 #[.slice A0 l0.length c0, .slice A1 l1.length c1] w fun e w' => ∃ v0_ : Value, e = .returned (.tuple #[v0_, .int .i64 r2]) ∧ Kd.R (Kd.int .u64) 35 w' w.heap.size (fun _ => True) v0_ r1 ∧ Below w.heap.size w w' := by
  exact mod_giv hr0 hc0 hr1 hc1 h
def modn_Pow.f (l0 : List Int) (l1 : List Int) (l2 : List Int) : Option (List Int × Int) := if okN 4096 l0 ∧ okN 4096 l1 ∧ okN 1024 l2 then some (powR (nI l0) (nI l1) (nI l2)) else none
theorem modn_Pow.calls (A0 : Option Addr) (c0 : Nat) (l0 : List Int) (A1 : Option Addr) (c1 : Nat) (l1 : List Int) (A2 : Option Addr) (c2 : Nat) (l2 : List Int) (r1 : List Int) (r2 : Int) (w : World) (hr0 : Kd.C (Kd.int .u64) w A0 l0.length l0) (hc0 : l0.length ≤ c0) (hr1 : Kd.C (Kd.int .u64) w A1 l1.length l1) (hc1 : l1.length ≤ c1) (hr2 : Kd.C (Kd.int .u64) w A2 l2.length l2) (hc2 : l2.length ≤ c2) (h : modn_Pow.f l0 l1 l2 = some (r1, r2)) :
    Calls Try.prog 18 #[.slice A0 l0.length c0, .slice A1 l1.length c1, .slice A2 l2.length c2] w fun e w' => ∃ v0_ : Value, e = .returned (.tuple #[v0_, .int .i64 r2]) ∧ Kd.R (Kd.int .u64) 35 w' w.heap.size (fun _ => True) v0_ r1 ∧ Below w.heap.size w w' := by
  exact pow_giv hr0 hc0 hr1 hc1 hr2 hc2 h
def modn_Inverse.f (l0 : List Int) (l1 : List Int) : Option (List Int × Int) := if okN 65536 l0 ∧ okN 65536 l1 then some (invR (nI l0) (nI l1)) else none
theorem modn_Inverse.calls (A0 : Option Addr) (c0 : Nat) (l0 : List Int) (A1 : Option Addr) (c1 : Nat) (l1 : List Int) (r1 : List Int) (r2 : Int) (w : World) (hr0 : Kd.C (Kd.int .u64) w A0 l0.length l0) (hc0 : l0.length ≤ c0) (hr1 : Kd.C (Kd.int .u64) w A1 l1.length l1) (hc1 : l1.length ≤ c1) (h : modn_Inverse.f l0 l1 = some (r1, r2)) :
    Calls Try.prog 20 #[.slice A0 l0.length c0, .slice A1 l1.length c1] w fun e w' => ∃ v0_ : Value, e = .returned (.tuple #[v0_, .int .i64 r2]) ∧ Kd.R (Kd.int .u64) 35 w' w.heap.size (fun _ => True) v0_ r1 ∧ Below w.heap.size w w' := by
  exact inverse_giv hr0 hc0 hr1 hc1 h
def modn_Gcd.f (l0 : List Int) (l1 : List Int) : Option (List Int) := if okN 262144 l0 ∧ okN 262144 l1 then some (ofN (Nat.gcd (nI l0) (nI l1))) else none
theorem modn_Gcd.calls (A0 : Option Addr) (c0 : Nat) (l0 : List Int) (A1 : Option Addr) (c1 : Nat) (l1 : List Int) (r : List Int) (w : World) (hr0 : Kd.C (Kd.int .u64) w A0 l0.length l0) (hc0 : l0.length ≤ c0) (hr1 : Kd.C (Kd.int .u64) w A1 l1.length l1) (hc1 : l1.length ≤ c1) (h : modn_Gcd.f l0 l1 = some r) :
    Calls Try.prog 22 #[.slice A0 l0.length c0, .slice A1 l1.length c1] w fun e w' => ∃ v0_ : Value, e = .returned (v0_) ∧ Kd.R (Kd.int .u64) 35 w' w.heap.size (fun _ => True) v0_ r ∧ Below w.heap.size w w' := by
  exact gcd_giv hr0 hc0 hr1 hc1 h
def nat_Of.f (a0 : Int) : Option (List Int) := if 0 ≤ a0 ∧ a0 < 18446744073709551616 then some (ofN a0.toNat) else none
theorem nat_Of.calls (a0 : Int) (r : List Int) (w : World) (h : nat_Of.f a0 = some r) :
    Calls Try.prog 27 #[.int .u64 a0] w fun e w' => ∃ v0_ : Value, e = .returned (v0_) ∧ Kd.R (Kd.int .u64) 35 w' w.heap.size (fun _ => True) v0_ r ∧ Below w.heap.size w w' := by
  exact of_giv h
def nat_Cmp.f (l0 : List Int) (l1 : List Int) : Option (Int) := if okN 262144 l0 ∧ okN 262144 l1 then some (cmpN (nI l0) (nI l1)) else none
theorem nat_Cmp.calls (A0 : Option Addr) (c0 : Nat) (l0 : List Int) (A1 : Option Addr) (c1 : Nat) (l1 : List Int) (r : Int) (w : World) (hr0 : Kd.C (Kd.int .u64) w A0 l0.length l0) (hc0 : l0.length ≤ c0) (hr1 : Kd.C (Kd.int .u64) w A1 l1.length l1) (hc1 : l1.length ≤ c1) (h : nat_Cmp.f l0 l1 = some r) :
    Calls Try.prog 28 #[.slice A0 l0.length c0, .slice A1 l1.length c1] w fun e w' => e = .returned (.int .i64 r) ∧ Drawn0 w w' := by
  exact cmp_giv hr0 hc0 hr1 hc1 h
def modn_Tells.f (l0 : List Int) (a1 : Int) : Option (Bool) := if okN 1024 l0 ∧ 0 ≤ a1 ∧ a1 < 18446744073709551616 then some (tellsN (nI l0) a1.toNat) else none
theorem modn_Tells.calls (A0 : Option Addr) (c0 : Nat) (l0 : List Int) (a1 : Int) (r : Bool) (w : World) (hr0 : Kd.C (Kd.int .u64) w A0 l0.length l0) (hc0 : l0.length ≤ c0) (h : modn_Tells.f l0 a1 = some r) :
    Calls Try.prog 29 #[.slice A0 l0.length c0, .int .u64 a1] w fun e w' => e = .returned (.bool r) ∧ Below w.heap.size w w' := by
  exact tells_giv hr0 hc0 h
def modn_Sure.f (a0 : Int) : Option (Bool) := if 0 ≤ a0 ∧ a0 < 4294967296 then some (sureN a0.toNat) else none
theorem modn_Sure.calls (a0 : Int) (r : Bool) (w : World) (h : modn_Sure.f a0 = some r) :
    Calls Try.prog 33 #[.int .u32 a0] w fun e w' => e = .returned (.bool r) ∧ Drawn0 w w' := by
  exact sure_giv h
def clepsydralaw03_alive.f  : Option (Bool) := (nat_Of.f 3).bind fun t101 => ((nat_Of.f 5).bind fun t104 => ((nat_Of.f 7).bind fun t107 => ((modn_Pow.f t101 t104 t107).bind fun bt110 => ((nat_Of.f 3).bind fun t114 => ((nat_Of.f 7).bind fun t117 => ((modn_Inverse.f t114 t117).bind fun bt120 => ((nat_Of.f 3).bind fun t124 => ((modn_Mod.f t124 ([] : List Int)).bind fun bt127 => (if bt110.2 = 0 then ((nat_Of.f 5).bind fun t131 => ((nat_Cmp.f bt110.1 t131).bind fun t134 => (if t134 = 0 then (if bt120.2 = 0 then ((nat_Of.f 5).bind fun t135 => ((nat_Cmp.f bt120.1 t135).bind fun t138 => (if t138 = 0 then (if bt127.2 = 11 then ((nat_Of.f 12).bind fun t139 => ((nat_Of.f 18).bind fun t142 => ((modn_Gcd.f t139 t142).bind fun t145 => ((nat_Of.f 6).bind fun t148 => ((nat_Cmp.f t145 t148).bind fun t151 => (if t151 = 0 then ((nat_Of.f 9).bind fun t152 => ((modn_Tells.f t152 2).bind fun t155 => (if t155 = true then ((modn_Sure.f 7).bind fun t156 => (some t156)) else (some false)))) else (some false))))))) else (some false)) else (some false)))) else (some false)) else (some false)))) else (some false))))))))))
set_option maxHeartbeats 8000000 in
set_option maxRecDepth 100000 in
theorem clepsydralaw03_alive.calls  (r : Bool) (w : World) (h : clepsydralaw03_alive.f  = some r) (hr_ : r = true) :
    Calls Try.prog 12 #[] w fun e w' => e = .returned (.bool r) ∧ Below w.heap.size w w' := by
  have HTR_ := Aside0.mk hr_
  clear hr_
  have HB := Aside0.mk (Below.refl w.heap.size w)
  have H : ((nat_Of.f 3).bind fun t101 => ((nat_Of.f 5).bind fun t104 => ((nat_Of.f 7).bind fun t107 => ((modn_Pow.f t101 t104 t107).bind fun bt110 => ((nat_Of.f 3).bind fun t114 => ((nat_Of.f 7).bind fun t117 => ((modn_Inverse.f t114 t117).bind fun bt120 => ((nat_Of.f 3).bind fun t124 => ((modn_Mod.f t124 ([] : List Int)).bind fun bt127 => (if bt110.2 = 0 then ((nat_Of.f 5).bind fun t131 => ((nat_Cmp.f bt110.1 t131).bind fun t134 => (if t134 = 0 then (if bt120.2 = 0 then ((nat_Of.f 5).bind fun t135 => ((nat_Cmp.f bt120.1 t135).bind fun t138 => (if t138 = 0 then (if bt127.2 = 11 then ((nat_Of.f 12).bind fun t139 => ((nat_Of.f 18).bind fun t142 => ((modn_Gcd.f t139 t142).bind fun t145 => ((nat_Of.f 6).bind fun t148 => ((nat_Cmp.f t145 t148).bind fun t151 => (if t151 = 0 then ((nat_Of.f 9).bind fun t152 => ((modn_Tells.f t152 2).bind fun t155 => (if t155 = true then ((modn_Sure.f 7).bind fun t156 => (some t156)) else (some false)))) else (some false))))))) else (some false)) else (some false)))) else (some false)) else (some false)))) else (some false))))))))))) = some r := h
  clear h
  replace H := Option.bind_eq_some_iff.mp H
  obtain ⟨t101, A10, H⟩ := H
  replace H : ((nat_Of.f 5).bind fun t104 => ((nat_Of.f 7).bind fun t107 => ((modn_Pow.f t101 t104 t107).bind fun bt110 => ((nat_Of.f 3).bind fun t114 => ((nat_Of.f 7).bind fun t117 => ((modn_Inverse.f t114 t117).bind fun bt120 => ((nat_Of.f 3).bind fun t124 => ((modn_Mod.f t124 ([] : List Int)).bind fun bt127 => (if bt110.2 = 0 then ((nat_Of.f 5).bind fun t131 => ((nat_Cmp.f bt110.1 t131).bind fun t134 => (if t134 = 0 then (if bt120.2 = 0 then ((nat_Of.f 5).bind fun t135 => ((nat_Cmp.f bt120.1 t135).bind fun t138 => (if t138 = 0 then (if bt127.2 = 11 then ((nat_Of.f 12).bind fun t139 => ((nat_Of.f 18).bind fun t142 => ((modn_Gcd.f t139 t142).bind fun t145 => ((nat_Of.f 6).bind fun t148 => ((nat_Cmp.f t145 t148).bind fun t151 => (if t151 = 0 then ((nat_Of.f 9).bind fun t152 => ((modn_Tells.f t152 2).bind fun t155 => (if t155 = true then ((modn_Sure.f 7).bind fun t156 => (some t156)) else (some false)))) else (some false))))))) else (some false)) else (some false)))) else (some false)) else (some false)))) else (some false)))))))))) = some r := H
  have A1 := Aside0.mk A10
  clear A10
  replace H := Option.bind_eq_some_iff.mp H
  obtain ⟨t104, A20, H⟩ := H
  replace H : ((nat_Of.f 7).bind fun t107 => ((modn_Pow.f t101 t104 t107).bind fun bt110 => ((nat_Of.f 3).bind fun t114 => ((nat_Of.f 7).bind fun t117 => ((modn_Inverse.f t114 t117).bind fun bt120 => ((nat_Of.f 3).bind fun t124 => ((modn_Mod.f t124 ([] : List Int)).bind fun bt127 => (if bt110.2 = 0 then ((nat_Of.f 5).bind fun t131 => ((nat_Cmp.f bt110.1 t131).bind fun t134 => (if t134 = 0 then (if bt120.2 = 0 then ((nat_Of.f 5).bind fun t135 => ((nat_Cmp.f bt120.1 t135).bind fun t138 => (if t138 = 0 then (if bt127.2 = 11 then ((nat_Of.f 12).bind fun t139 => ((nat_Of.f 18).bind fun t142 => ((modn_Gcd.f t139 t142).bind fun t145 => ((nat_Of.f 6).bind fun t148 => ((nat_Cmp.f t145 t148).bind fun t151 => (if t151 = 0 then ((nat_Of.f 9).bind fun t152 => ((modn_Tells.f t152 2).bind fun t155 => (if t155 = true then ((modn_Sure.f 7).bind fun t156 => (some t156)) else (some false)))) else (some false))))))) else (some false)) else (some false)))) else (some false)) else (some false)))) else (some false))))))))) = some r := H
  have A2 := Aside0.mk A20
  clear A20
  replace H := Option.bind_eq_some_iff.mp H
  obtain ⟨t107, A30, H⟩ := H
  replace H : ((modn_Pow.f t101 t104 t107).bind fun bt110 => ((nat_Of.f 3).bind fun t114 => ((nat_Of.f 7).bind fun t117 => ((modn_Inverse.f t114 t117).bind fun bt120 => ((nat_Of.f 3).bind fun t124 => ((modn_Mod.f t124 ([] : List Int)).bind fun bt127 => (if bt110.2 = 0 then ((nat_Of.f 5).bind fun t131 => ((nat_Cmp.f bt110.1 t131).bind fun t134 => (if t134 = 0 then (if bt120.2 = 0 then ((nat_Of.f 5).bind fun t135 => ((nat_Cmp.f bt120.1 t135).bind fun t138 => (if t138 = 0 then (if bt127.2 = 11 then ((nat_Of.f 12).bind fun t139 => ((nat_Of.f 18).bind fun t142 => ((modn_Gcd.f t139 t142).bind fun t145 => ((nat_Of.f 6).bind fun t148 => ((nat_Cmp.f t145 t148).bind fun t151 => (if t151 = 0 then ((nat_Of.f 9).bind fun t152 => ((modn_Tells.f t152 2).bind fun t155 => (if t155 = true then ((modn_Sure.f 7).bind fun t156 => (some t156)) else (some false)))) else (some false))))))) else (some false)) else (some false)))) else (some false)) else (some false)))) else (some false)))))))) = some r := H
  have A3 := Aside0.mk A30
  clear A30
  replace H := Option.bind_eq_some_iff.mp H
  obtain ⟨⟨t110, t111⟩, A40, H⟩ := H
  replace H : ((nat_Of.f 3).bind fun t114 => ((nat_Of.f 7).bind fun t117 => ((modn_Inverse.f t114 t117).bind fun bt120 => ((nat_Of.f 3).bind fun t124 => ((modn_Mod.f t124 ([] : List Int)).bind fun bt127 => (if t111 = 0 then ((nat_Of.f 5).bind fun t131 => ((nat_Cmp.f t110 t131).bind fun t134 => (if t134 = 0 then (if bt120.2 = 0 then ((nat_Of.f 5).bind fun t135 => ((nat_Cmp.f bt120.1 t135).bind fun t138 => (if t138 = 0 then (if bt127.2 = 11 then ((nat_Of.f 12).bind fun t139 => ((nat_Of.f 18).bind fun t142 => ((modn_Gcd.f t139 t142).bind fun t145 => ((nat_Of.f 6).bind fun t148 => ((nat_Cmp.f t145 t148).bind fun t151 => (if t151 = 0 then ((nat_Of.f 9).bind fun t152 => ((modn_Tells.f t152 2).bind fun t155 => (if t155 = true then ((modn_Sure.f 7).bind fun t156 => (some t156)) else (some false)))) else (some false))))))) else (some false)) else (some false)))) else (some false)) else (some false)))) else (some false))))))) = some r := H
  have A4 := Aside0.mk A40
  clear A40
  replace H := Option.bind_eq_some_iff.mp H
  obtain ⟨t114, A50, H⟩ := H
  replace H : ((nat_Of.f 7).bind fun t117 => ((modn_Inverse.f t114 t117).bind fun bt120 => ((nat_Of.f 3).bind fun t124 => ((modn_Mod.f t124 ([] : List Int)).bind fun bt127 => (if t111 = 0 then ((nat_Of.f 5).bind fun t131 => ((nat_Cmp.f t110 t131).bind fun t134 => (if t134 = 0 then (if bt120.2 = 0 then ((nat_Of.f 5).bind fun t135 => ((nat_Cmp.f bt120.1 t135).bind fun t138 => (if t138 = 0 then (if bt127.2 = 11 then ((nat_Of.f 12).bind fun t139 => ((nat_Of.f 18).bind fun t142 => ((modn_Gcd.f t139 t142).bind fun t145 => ((nat_Of.f 6).bind fun t148 => ((nat_Cmp.f t145 t148).bind fun t151 => (if t151 = 0 then ((nat_Of.f 9).bind fun t152 => ((modn_Tells.f t152 2).bind fun t155 => (if t155 = true then ((modn_Sure.f 7).bind fun t156 => (some t156)) else (some false)))) else (some false))))))) else (some false)) else (some false)))) else (some false)) else (some false)))) else (some false)))))) = some r := H
  have A5 := Aside0.mk A50
  clear A50
  replace H := Option.bind_eq_some_iff.mp H
  obtain ⟨t117, A60, H⟩ := H
  replace H : ((modn_Inverse.f t114 t117).bind fun bt120 => ((nat_Of.f 3).bind fun t124 => ((modn_Mod.f t124 ([] : List Int)).bind fun bt127 => (if t111 = 0 then ((nat_Of.f 5).bind fun t131 => ((nat_Cmp.f t110 t131).bind fun t134 => (if t134 = 0 then (if bt120.2 = 0 then ((nat_Of.f 5).bind fun t135 => ((nat_Cmp.f bt120.1 t135).bind fun t138 => (if t138 = 0 then (if bt127.2 = 11 then ((nat_Of.f 12).bind fun t139 => ((nat_Of.f 18).bind fun t142 => ((modn_Gcd.f t139 t142).bind fun t145 => ((nat_Of.f 6).bind fun t148 => ((nat_Cmp.f t145 t148).bind fun t151 => (if t151 = 0 then ((nat_Of.f 9).bind fun t152 => ((modn_Tells.f t152 2).bind fun t155 => (if t155 = true then ((modn_Sure.f 7).bind fun t156 => (some t156)) else (some false)))) else (some false))))))) else (some false)) else (some false)))) else (some false)) else (some false)))) else (some false))))) = some r := H
  have A6 := Aside0.mk A60
  clear A60
  replace H := Option.bind_eq_some_iff.mp H
  obtain ⟨⟨t120, t121⟩, A70, H⟩ := H
  replace H : ((nat_Of.f 3).bind fun t124 => ((modn_Mod.f t124 ([] : List Int)).bind fun bt127 => (if t111 = 0 then ((nat_Of.f 5).bind fun t131 => ((nat_Cmp.f t110 t131).bind fun t134 => (if t134 = 0 then (if t121 = 0 then ((nat_Of.f 5).bind fun t135 => ((nat_Cmp.f t120 t135).bind fun t138 => (if t138 = 0 then (if bt127.2 = 11 then ((nat_Of.f 12).bind fun t139 => ((nat_Of.f 18).bind fun t142 => ((modn_Gcd.f t139 t142).bind fun t145 => ((nat_Of.f 6).bind fun t148 => ((nat_Cmp.f t145 t148).bind fun t151 => (if t151 = 0 then ((nat_Of.f 9).bind fun t152 => ((modn_Tells.f t152 2).bind fun t155 => (if t155 = true then ((modn_Sure.f 7).bind fun t156 => (some t156)) else (some false)))) else (some false))))))) else (some false)) else (some false)))) else (some false)) else (some false)))) else (some false)))) = some r := H
  have A7 := Aside0.mk A70
  clear A70
  replace H := Option.bind_eq_some_iff.mp H
  obtain ⟨t124, A80, H⟩ := H
  replace H : ((modn_Mod.f t124 ([] : List Int)).bind fun bt127 => (if t111 = 0 then ((nat_Of.f 5).bind fun t131 => ((nat_Cmp.f t110 t131).bind fun t134 => (if t134 = 0 then (if t121 = 0 then ((nat_Of.f 5).bind fun t135 => ((nat_Cmp.f t120 t135).bind fun t138 => (if t138 = 0 then (if bt127.2 = 11 then ((nat_Of.f 12).bind fun t139 => ((nat_Of.f 18).bind fun t142 => ((modn_Gcd.f t139 t142).bind fun t145 => ((nat_Of.f 6).bind fun t148 => ((nat_Cmp.f t145 t148).bind fun t151 => (if t151 = 0 then ((nat_Of.f 9).bind fun t152 => ((modn_Tells.f t152 2).bind fun t155 => (if t155 = true then ((modn_Sure.f 7).bind fun t156 => (some t156)) else (some false)))) else (some false))))))) else (some false)) else (some false)))) else (some false)) else (some false)))) else (some false))) = some r := H
  have A8 := Aside0.mk A80
  clear A80
  replace H := Option.bind_eq_some_iff.mp H
  obtain ⟨⟨t127, t128⟩, A90, H⟩ := H
  replace H : (if t111 = 0 then ((nat_Of.f 5).bind fun t131 => ((nat_Cmp.f t110 t131).bind fun t134 => (if t134 = 0 then (if t121 = 0 then ((nat_Of.f 5).bind fun t135 => ((nat_Cmp.f t120 t135).bind fun t138 => (if t138 = 0 then (if t128 = 11 then ((nat_Of.f 12).bind fun t139 => ((nat_Of.f 18).bind fun t142 => ((modn_Gcd.f t139 t142).bind fun t145 => ((nat_Of.f 6).bind fun t148 => ((nat_Cmp.f t145 t148).bind fun t151 => (if t151 = 0 then ((nat_Of.f 9).bind fun t152 => ((modn_Tells.f t152 2).bind fun t155 => (if t155 = true then ((modn_Sure.f 7).bind fun t156 => (some t156)) else (some false)))) else (some false))))))) else (some false)) else (some false)))) else (some false)) else (some false)))) else (some false)) = some r := H
  have A9 := Aside0.mk A90
  clear A90
  by_cases c10 : t111 = 0
  · rw [if_pos c10] at H
    have c10b0 : (t111 == 0) = true := beq_iff_eq.mpr c10
    have c10b1 : (t111 != 0) = false := bne_eq_false_iff_eq.mpr c10
    clear c10
    replace H := Option.bind_eq_some_iff.mp H
    obtain ⟨t131, A110, H⟩ := H
    replace H : ((nat_Cmp.f t110 t131).bind fun t134 => (if t134 = 0 then (if t121 = 0 then ((nat_Of.f 5).bind fun t135 => ((nat_Cmp.f t120 t135).bind fun t138 => (if t138 = 0 then (if t128 = 11 then ((nat_Of.f 12).bind fun t139 => ((nat_Of.f 18).bind fun t142 => ((modn_Gcd.f t139 t142).bind fun t145 => ((nat_Of.f 6).bind fun t148 => ((nat_Cmp.f t145 t148).bind fun t151 => (if t151 = 0 then ((nat_Of.f 9).bind fun t152 => ((modn_Tells.f t152 2).bind fun t155 => (if t155 = true then ((modn_Sure.f 7).bind fun t156 => (some t156)) else (some false)))) else (some false))))))) else (some false)) else (some false)))) else (some false)) else (some false))) = some r := H
    have A11 := Aside0.mk A110
    clear A110
    replace H := Option.bind_eq_some_iff.mp H
    obtain ⟨t134, A120, H⟩ := H
    replace H : (if t134 = 0 then (if t121 = 0 then ((nat_Of.f 5).bind fun t135 => ((nat_Cmp.f t120 t135).bind fun t138 => (if t138 = 0 then (if t128 = 11 then ((nat_Of.f 12).bind fun t139 => ((nat_Of.f 18).bind fun t142 => ((modn_Gcd.f t139 t142).bind fun t145 => ((nat_Of.f 6).bind fun t148 => ((nat_Cmp.f t145 t148).bind fun t151 => (if t151 = 0 then ((nat_Of.f 9).bind fun t152 => ((modn_Tells.f t152 2).bind fun t155 => (if t155 = true then ((modn_Sure.f 7).bind fun t156 => (some t156)) else (some false)))) else (some false))))))) else (some false)) else (some false)))) else (some false)) else (some false)) = some r := H
    have A12 := Aside0.mk A120
    clear A120
    by_cases c13 : t134 = 0
    · rw [if_pos c13] at H
      have c13b0 : (t134 == 0) = true := beq_iff_eq.mpr c13
      have c13b1 : (t134 != 0) = false := bne_eq_false_iff_eq.mpr c13
      clear c13
      by_cases c14 : t121 = 0
      · rw [if_pos c14] at H
        have c14b0 : (t121 == 0) = true := beq_iff_eq.mpr c14
        have c14b1 : (t121 != 0) = false := bne_eq_false_iff_eq.mpr c14
        clear c14
        replace H := Option.bind_eq_some_iff.mp H
        obtain ⟨t135, A150, H⟩ := H
        replace H : ((nat_Cmp.f t120 t135).bind fun t138 => (if t138 = 0 then (if t128 = 11 then ((nat_Of.f 12).bind fun t139 => ((nat_Of.f 18).bind fun t142 => ((modn_Gcd.f t139 t142).bind fun t145 => ((nat_Of.f 6).bind fun t148 => ((nat_Cmp.f t145 t148).bind fun t151 => (if t151 = 0 then ((nat_Of.f 9).bind fun t152 => ((modn_Tells.f t152 2).bind fun t155 => (if t155 = true then ((modn_Sure.f 7).bind fun t156 => (some t156)) else (some false)))) else (some false))))))) else (some false)) else (some false))) = some r := H
        have A15 := Aside0.mk A150
        clear A150
        replace H := Option.bind_eq_some_iff.mp H
        obtain ⟨t138, A160, H⟩ := H
        replace H : (if t138 = 0 then (if t128 = 11 then ((nat_Of.f 12).bind fun t139 => ((nat_Of.f 18).bind fun t142 => ((modn_Gcd.f t139 t142).bind fun t145 => ((nat_Of.f 6).bind fun t148 => ((nat_Cmp.f t145 t148).bind fun t151 => (if t151 = 0 then ((nat_Of.f 9).bind fun t152 => ((modn_Tells.f t152 2).bind fun t155 => (if t155 = true then ((modn_Sure.f 7).bind fun t156 => (some t156)) else (some false)))) else (some false))))))) else (some false)) else (some false)) = some r := H
        have A16 := Aside0.mk A160
        clear A160
        by_cases c17 : t138 = 0
        · rw [if_pos c17] at H
          have c17b0 : (t138 == 0) = true := beq_iff_eq.mpr c17
          have c17b1 : (t138 != 0) = false := bne_eq_false_iff_eq.mpr c17
          clear c17
          by_cases c18 : t128 = 11
          · rw [if_pos c18] at H
            have c18b0 : (t128 == 11) = true := beq_iff_eq.mpr c18
            have c18b1 : (t128 != 11) = false := bne_eq_false_iff_eq.mpr c18
            clear c18
            replace H := Option.bind_eq_some_iff.mp H
            obtain ⟨t139, A190, H⟩ := H
            replace H : ((nat_Of.f 18).bind fun t142 => ((modn_Gcd.f t139 t142).bind fun t145 => ((nat_Of.f 6).bind fun t148 => ((nat_Cmp.f t145 t148).bind fun t151 => (if t151 = 0 then ((nat_Of.f 9).bind fun t152 => ((modn_Tells.f t152 2).bind fun t155 => (if t155 = true then ((modn_Sure.f 7).bind fun t156 => (some t156)) else (some false)))) else (some false)))))) = some r := H
            have A19 := Aside0.mk A190
            clear A190
            replace H := Option.bind_eq_some_iff.mp H
            obtain ⟨t142, A200, H⟩ := H
            replace H : ((modn_Gcd.f t139 t142).bind fun t145 => ((nat_Of.f 6).bind fun t148 => ((nat_Cmp.f t145 t148).bind fun t151 => (if t151 = 0 then ((nat_Of.f 9).bind fun t152 => ((modn_Tells.f t152 2).bind fun t155 => (if t155 = true then ((modn_Sure.f 7).bind fun t156 => (some t156)) else (some false)))) else (some false))))) = some r := H
            have A20 := Aside0.mk A200
            clear A200
            replace H := Option.bind_eq_some_iff.mp H
            obtain ⟨t145, A210, H⟩ := H
            replace H : ((nat_Of.f 6).bind fun t148 => ((nat_Cmp.f t145 t148).bind fun t151 => (if t151 = 0 then ((nat_Of.f 9).bind fun t152 => ((modn_Tells.f t152 2).bind fun t155 => (if t155 = true then ((modn_Sure.f 7).bind fun t156 => (some t156)) else (some false)))) else (some false)))) = some r := H
            have A21 := Aside0.mk A210
            clear A210
            replace H := Option.bind_eq_some_iff.mp H
            obtain ⟨t148, A220, H⟩ := H
            replace H : ((nat_Cmp.f t145 t148).bind fun t151 => (if t151 = 0 then ((nat_Of.f 9).bind fun t152 => ((modn_Tells.f t152 2).bind fun t155 => (if t155 = true then ((modn_Sure.f 7).bind fun t156 => (some t156)) else (some false)))) else (some false))) = some r := H
            have A22 := Aside0.mk A220
            clear A220
            replace H := Option.bind_eq_some_iff.mp H
            obtain ⟨t151, A230, H⟩ := H
            replace H : (if t151 = 0 then ((nat_Of.f 9).bind fun t152 => ((modn_Tells.f t152 2).bind fun t155 => (if t155 = true then ((modn_Sure.f 7).bind fun t156 => (some t156)) else (some false)))) else (some false)) = some r := H
            have A23 := Aside0.mk A230
            clear A230
            by_cases c24 : t151 = 0
            · rw [if_pos c24] at H
              have c24b0 : (t151 == 0) = true := beq_iff_eq.mpr c24
              have c24b1 : (t151 != 0) = false := bne_eq_false_iff_eq.mpr c24
              clear c24
              replace H := Option.bind_eq_some_iff.mp H
              obtain ⟨t152, A250, H⟩ := H
              replace H : ((modn_Tells.f t152 2).bind fun t155 => (if t155 = true then ((modn_Sure.f 7).bind fun t156 => (some t156)) else (some false))) = some r := H
              have A25 := Aside0.mk A250
              clear A250
              replace H := Option.bind_eq_some_iff.mp H
              obtain ⟨t155, A260, H⟩ := H
              replace H : (if t155 = true then ((modn_Sure.f 7).bind fun t156 => (some t156)) else (some false)) = some r := H
              have A26 := Aside0.mk A260
              clear A260
              by_cases c27 : t155 = true
              · subst c27
                have H1 : ((modn_Sure.f 7).bind fun t156 => (some t156)) = some r := by rw [if_pos rfl] at H; exact H
                clear H
                have H := H1
                clear H1
                replace H := Option.bind_eq_some_iff.mp H
                obtain ⟨t156, A280, H⟩ := H
                replace H : (some t156) = some r := H
                have A28 := Aside0.mk A280
                clear A280
                obtain rfl := Option.some.inj H
                simp only [Option.some.injEq, Prod.mk.injEq] at H
                obtain ⟨rfl⟩ := H
                go_enter Try.func12, Try.ntmps12
                go_wp2_with (first | ((with_reducible refine gate_callee (f := 27) rfl ?_); refine goesL_ (some 8) rfl rfl Try.func27 (by kernel_rfl) rfl #[.int .u64 3] rfl (by (try simp only [List.map_toArray, List.map_cons, List.map_nil]); first | done | rfl | (simp only [List.length_drop, List.length_take]; rfl)) ?_; (with_reducible refine (nat_Of.calls 3 t101 _ A1.out).mono ?_); rintro e w29 ⟨v102, rfl, ho0, hb⟩; refine ⟨_, rfl, ?_⟩; have n0_ := Aside0.mk (Kd.R_lower ho0 (below_size (by repeat (first | (with_reducible first | exact HB.out | apply below_alloc | apply pw_below_drewN | apply below_drew1) | exact HB.out)))); have n1_ := Aside0.mk (below_step (by repeat (first | (with_reducible first | exact HB.out | apply below_alloc | apply pw_below_drewN | apply below_drew1) | exact HB.out)) hb); clear HB; have HO103 := n0_; have HB := n1_; clear n0_ n1_; (try clear hb); (try clear hb2); (try clear hk); (try clear hi); (try clear ho0)) | ((with_reducible refine gate_callee (f := 27) rfl ?_); refine goesL_ (some 9) rfl rfl Try.func27 (by kernel_rfl) rfl #[.int .u64 5] rfl (by (try simp only [List.map_toArray, List.map_cons, List.map_nil]); first | done | rfl | (simp only [List.length_drop, List.length_take]; rfl)) ?_; (with_reducible refine (nat_Of.calls 5 t104 _ A2.out).mono ?_); rintro e w30 ⟨v105, rfl, ho0, hb⟩; refine ⟨_, rfl, ?_⟩; have n0_ := Aside0.mk (Kd.R_elder' (by (with_reducible repeat (first | apply Kd.R_alloc | apply Kd.R_drewN | apply Kd.R_drew)); exact HO103.out) (Kd.R_base ho0) hb); have n1_ := Aside0.mk (Kd.R_lower (Kd.R_new' ho0 (Kd.R_lt (by (with_reducible repeat (first | apply Kd.R_alloc | apply Kd.R_drewN | apply Kd.R_drew)); exact HO103.out))) (below_size (by repeat (first | (with_reducible first | exact HB.out | apply below_alloc | apply pw_below_drewN | apply below_drew1) | exact HB.out)))); have n2_ := Aside0.mk (below_step (by repeat (first | (with_reducible first | exact HB.out | apply below_alloc | apply pw_below_drewN | apply below_drew1) | exact HB.out)) hb); clear HO103; clear HB; have HO103 := n0_; have HO106 := n1_; have HB := n2_; clear n0_ n1_ n2_; (try clear hb); (try clear hb2); (try clear hk); (try clear hi); (try clear ho0)) | ((with_reducible refine gate_callee (f := 27) rfl ?_); refine goesL_ (some 10) rfl rfl Try.func27 (by kernel_rfl) rfl #[.int .u64 7] rfl (by (try simp only [List.map_toArray, List.map_cons, List.map_nil]); first | done | rfl | (simp only [List.length_drop, List.length_take]; rfl)) ?_; (with_reducible refine (nat_Of.calls 7 t107 _ A3.out).mono ?_); rintro e w31 ⟨v108, rfl, ho0, hb⟩; refine ⟨_, rfl, ?_⟩; have n0_ := Aside0.mk (Kd.R_elder' (by (with_reducible repeat (first | apply Kd.R_alloc | apply Kd.R_drewN | apply Kd.R_drew)); exact HO103.out) (Kd.R_base ho0) hb); have n1_ := Aside0.mk (Kd.R_elder' (by (with_reducible repeat (first | apply Kd.R_alloc | apply Kd.R_drewN | apply Kd.R_drew)); exact HO106.out) (Kd.R_base ho0) hb); have n2_ := Aside0.mk (Kd.R_lower (Kd.R_new' (Kd.R_new' ho0 (Kd.R_lt (by (with_reducible repeat (first | apply Kd.R_alloc | apply Kd.R_drewN | apply Kd.R_drew)); exact HO103.out))) (Kd.R_lt (by (with_reducible repeat (first | apply Kd.R_alloc | apply Kd.R_drewN | apply Kd.R_drew)); exact HO106.out))) (below_size (by repeat (first | (with_reducible first | exact HB.out | apply below_alloc | apply pw_below_drewN | apply below_drew1) | exact HB.out)))); have n3_ := Aside0.mk (below_step (by repeat (first | (with_reducible first | exact HB.out | apply below_alloc | apply pw_below_drewN | apply below_drew1) | exact HB.out)) hb); clear HO103; clear HO106; clear HB; have HO103 := n0_; have HO106 := n1_; have HO109 := n2_; have HB := n3_; clear n0_ n1_ n2_ n3_; (try clear hb); (try clear hb2); (try clear hk); (try clear hi); (try clear ho0); obtain ⟨Ao32, co32, eo32⟩ := Kd.R_slice HO103.out; subst eo32; obtain ⟨Ao33, co33, eo33⟩ := Kd.R_slice HO106.out; subst eo33; obtain ⟨Ao34, co34, eo34⟩ := Kd.R_slice HO109.out; subst eo34) | ((with_reducible refine gate_callee (f := 18) rfl ?_); refine goesL_ (some 11) rfl rfl Try.func18 (by kernel_rfl) rfl #[.slice Ao32 t101.length co32, .slice Ao33 t104.length co33, .slice Ao34 t107.length co34] rfl (by (try simp only [List.map_toArray, List.map_cons, List.map_nil]); first | done | rfl | (simp only [List.length_drop, List.length_take]; rfl)) ?_; (with_reducible refine (modn_Pow.calls _ _ t101 _ _ t104 _ _ t107 t110 t111 _ ?side1 ?side2 ?side3 ?side4 ?side5 ?side6 A4.out).mono ?_); (case side1 => repeat (first | exact (Kd.R_reads' HO103.out).2.2 | (with_reducible refine Kd.C_alloc ?_ _) | (with_reducible refine Kd.C_drewN ?_ _) | (with_reducible refine Kd.C_drew ?_))); (case side2 => exact (Kd.R_reads' HO103.out).2.1); (case side3 => repeat (first | exact (Kd.R_reads' HO106.out).2.2 | (with_reducible refine Kd.C_alloc ?_ _) | (with_reducible refine Kd.C_drewN ?_ _) | (with_reducible refine Kd.C_drew ?_))); (case side4 => exact (Kd.R_reads' HO106.out).2.1); (case side5 => repeat (first | exact (Kd.R_reads' HO109.out).2.2 | (with_reducible refine Kd.C_alloc ?_ _) | (with_reducible refine Kd.C_drewN ?_ _) | (with_reducible refine Kd.C_drew ?_))); (case side6 => exact (Kd.R_reads' HO109.out).2.1); rintro e w35 ⟨v112, rfl, ho0, hb⟩; refine ⟨_, rfl, ?_⟩; have n0_ := Aside0.mk (Kd.R_elder' (by (with_reducible repeat (first | apply Kd.R_alloc | apply Kd.R_drewN | apply Kd.R_drew)); exact HO103.out) (Kd.R_base ho0) hb); have n1_ := Aside0.mk (Kd.R_elder' (by (with_reducible repeat (first | apply Kd.R_alloc | apply Kd.R_drewN | apply Kd.R_drew)); exact HO106.out) (Kd.R_base ho0) hb); have n2_ := Aside0.mk (Kd.R_elder' (by (with_reducible repeat (first | apply Kd.R_alloc | apply Kd.R_drewN | apply Kd.R_drew)); exact HO109.out) (Kd.R_base ho0) hb); have n3_ := Aside0.mk (Kd.R_lower (Kd.R_new' (Kd.R_new' (Kd.R_new' ho0 (Kd.R_lt (by (with_reducible repeat (first | apply Kd.R_alloc | apply Kd.R_drewN | apply Kd.R_drew)); exact HO103.out))) (Kd.R_lt (by (with_reducible repeat (first | apply Kd.R_alloc | apply Kd.R_drewN | apply Kd.R_drew)); exact HO106.out))) (Kd.R_lt (by (with_reducible repeat (first | apply Kd.R_alloc | apply Kd.R_drewN | apply Kd.R_drew)); exact HO109.out))) (below_size (by repeat (first | (with_reducible first | exact HB.out | apply below_alloc | apply pw_below_drewN | apply below_drew1) | exact HB.out)))); have n4_ := Aside0.mk (below_step (by repeat (first | (with_reducible first | exact HB.out | apply below_alloc | apply pw_below_drewN | apply below_drew1) | exact HB.out)) hb); clear HO103; clear HO106; clear HO109; clear HB; have HO103 := n0_; have HO106 := n1_; have HO109 := n2_; have HO113 := n3_; have HB := n4_; clear n0_ n1_ n2_ n3_ n4_; (try clear hb); (try clear hb2); (try clear hk); (try clear hi); (try clear ho0)) | ((with_reducible refine gate_callee (f := 27) rfl ?_); refine goesL_ (some 15) rfl rfl Try.func27 (by kernel_rfl) rfl #[.int .u64 3] rfl (by (try simp only [List.map_toArray, List.map_cons, List.map_nil]); first | done | rfl | (simp only [List.length_drop, List.length_take]; rfl)) ?_; (with_reducible refine (nat_Of.calls 3 t114 _ A5.out).mono ?_); rintro e w36 ⟨v115, rfl, ho0, hb⟩; refine ⟨_, rfl, ?_⟩; have n0_ := Aside0.mk (Kd.R_elder' (by (with_reducible repeat (first | apply Kd.R_alloc | apply Kd.R_drewN | apply Kd.R_drew)); exact HO103.out) (Kd.R_base ho0) hb); have n1_ := Aside0.mk (Kd.R_elder' (by (with_reducible repeat (first | apply Kd.R_alloc | apply Kd.R_drewN | apply Kd.R_drew)); exact HO106.out) (Kd.R_base ho0) hb); have n2_ := Aside0.mk (Kd.R_elder' (by (with_reducible repeat (first | apply Kd.R_alloc | apply Kd.R_drewN | apply Kd.R_drew)); exact HO109.out) (Kd.R_base ho0) hb); have n3_ := Aside0.mk (Kd.R_elder' (by (with_reducible repeat (first | apply Kd.R_alloc | apply Kd.R_drewN | apply Kd.R_drew)); exact HO113.out) (Kd.R_base ho0) hb); have n4_ := Aside0.mk (Kd.R_lower (Kd.R_new' (Kd.R_new' (Kd.R_new' (Kd.R_new' ho0 (Kd.R_lt (by (with_reducible repeat (first | apply Kd.R_alloc | apply Kd.R_drewN | apply Kd.R_drew)); exact HO103.out))) (Kd.R_lt (by (with_reducible repeat (first | apply Kd.R_alloc | apply Kd.R_drewN | apply Kd.R_drew)); exact HO106.out))) (Kd.R_lt (by (with_reducible repeat (first | apply Kd.R_alloc | apply Kd.R_drewN | apply Kd.R_drew)); exact HO109.out))) (Kd.R_lt (by (with_reducible repeat (first | apply Kd.R_alloc | apply Kd.R_drewN | apply Kd.R_drew)); exact HO113.out))) (below_size (by repeat (first | (with_reducible first | exact HB.out | apply below_alloc | apply pw_below_drewN | apply below_drew1) | exact HB.out)))); have n5_ := Aside0.mk (below_step (by repeat (first | (with_reducible first | exact HB.out | apply below_alloc | apply pw_below_drewN | apply below_drew1) | exact HB.out)) hb); clear HO103; clear HO106; clear HO109; clear HO113; clear HB; have HO103 := n0_; have HO106 := n1_; have HO109 := n2_; have HO113 := n3_; have HO116 := n4_; have HB := n5_; clear n0_ n1_ n2_ n3_ n4_ n5_; (try clear hb); (try clear hb2); (try clear hk); (try clear hi); (try clear ho0)) | ((with_reducible refine gate_callee (f := 27) rfl ?_); refine goesL_ (some 16) rfl rfl Try.func27 (by kernel_rfl) rfl #[.int .u64 7] rfl (by (try simp only [List.map_toArray, List.map_cons, List.map_nil]); first | done | rfl | (simp only [List.length_drop, List.length_take]; rfl)) ?_; (with_reducible refine (nat_Of.calls 7 t117 _ A6.out).mono ?_); rintro e w37 ⟨v118, rfl, ho0, hb⟩; refine ⟨_, rfl, ?_⟩; have n0_ := Aside0.mk (Kd.R_elder' (by (with_reducible repeat (first | apply Kd.R_alloc | apply Kd.R_drewN | apply Kd.R_drew)); exact HO103.out) (Kd.R_base ho0) hb); have n1_ := Aside0.mk (Kd.R_elder' (by (with_reducible repeat (first | apply Kd.R_alloc | apply Kd.R_drewN | apply Kd.R_drew)); exact HO106.out) (Kd.R_base ho0) hb); have n2_ := Aside0.mk (Kd.R_elder' (by (with_reducible repeat (first | apply Kd.R_alloc | apply Kd.R_drewN | apply Kd.R_drew)); exact HO109.out) (Kd.R_base ho0) hb); have n3_ := Aside0.mk (Kd.R_elder' (by (with_reducible repeat (first | apply Kd.R_alloc | apply Kd.R_drewN | apply Kd.R_drew)); exact HO113.out) (Kd.R_base ho0) hb); have n4_ := Aside0.mk (Kd.R_elder' (by (with_reducible repeat (first | apply Kd.R_alloc | apply Kd.R_drewN | apply Kd.R_drew)); exact HO116.out) (Kd.R_base ho0) hb); have n5_ := Aside0.mk (Kd.R_lower (Kd.R_new' (Kd.R_new' (Kd.R_new' (Kd.R_new' (Kd.R_new' ho0 (Kd.R_lt (by (with_reducible repeat (first | apply Kd.R_alloc | apply Kd.R_drewN | apply Kd.R_drew)); exact HO103.out))) (Kd.R_lt (by (with_reducible repeat (first | apply Kd.R_alloc | apply Kd.R_drewN | apply Kd.R_drew)); exact HO106.out))) (Kd.R_lt (by (with_reducible repeat (first | apply Kd.R_alloc | apply Kd.R_drewN | apply Kd.R_drew)); exact HO109.out))) (Kd.R_lt (by (with_reducible repeat (first | apply Kd.R_alloc | apply Kd.R_drewN | apply Kd.R_drew)); exact HO113.out))) (Kd.R_lt (by (with_reducible repeat (first | apply Kd.R_alloc | apply Kd.R_drewN | apply Kd.R_drew)); exact HO116.out))) (below_size (by repeat (first | (with_reducible first | exact HB.out | apply below_alloc | apply pw_below_drewN | apply below_drew1) | exact HB.out)))); have n6_ := Aside0.mk (below_step (by repeat (first | (with_reducible first | exact HB.out | apply below_alloc | apply pw_below_drewN | apply below_drew1) | exact HB.out)) hb); clear HO103; clear HO106; clear HO109; clear HO113; clear HO116; clear HB; have HO103 := n0_; have HO106 := n1_; have HO109 := n2_; have HO113 := n3_; have HO116 := n4_; have HO119 := n5_; have HB := n6_; clear n0_ n1_ n2_ n3_ n4_ n5_ n6_; (try clear hb); (try clear hb2); (try clear hk); (try clear hi); (try clear ho0); obtain ⟨Ao38, co38, eo38⟩ := Kd.R_slice HO116.out; subst eo38; obtain ⟨Ao39, co39, eo39⟩ := Kd.R_slice HO119.out; subst eo39) | ((with_reducible refine gate_callee (f := 20) rfl ?_); refine goesL_ (some 17) rfl rfl Try.func20 (by kernel_rfl) rfl #[.slice Ao38 t114.length co38, .slice Ao39 t117.length co39] rfl (by (try simp only [List.map_toArray, List.map_cons, List.map_nil]); first | done | rfl | (simp only [List.length_drop, List.length_take]; rfl)) ?_; (with_reducible refine (modn_Inverse.calls _ _ t114 _ _ t117 t120 t121 _ ?side1 ?side2 ?side3 ?side4 A7.out).mono ?_); (case side1 => repeat (first | exact (Kd.R_reads' HO116.out).2.2 | (with_reducible refine Kd.C_alloc ?_ _) | (with_reducible refine Kd.C_drewN ?_ _) | (with_reducible refine Kd.C_drew ?_))); (case side2 => exact (Kd.R_reads' HO116.out).2.1); (case side3 => repeat (first | exact (Kd.R_reads' HO119.out).2.2 | (with_reducible refine Kd.C_alloc ?_ _) | (with_reducible refine Kd.C_drewN ?_ _) | (with_reducible refine Kd.C_drew ?_))); (case side4 => exact (Kd.R_reads' HO119.out).2.1); rintro e w40 ⟨v122, rfl, ho0, hb⟩; refine ⟨_, rfl, ?_⟩; have n0_ := Aside0.mk (Kd.R_elder' (by (with_reducible repeat (first | apply Kd.R_alloc | apply Kd.R_drewN | apply Kd.R_drew)); exact HO103.out) (Kd.R_base ho0) hb); have n1_ := Aside0.mk (Kd.R_elder' (by (with_reducible repeat (first | apply Kd.R_alloc | apply Kd.R_drewN | apply Kd.R_drew)); exact HO106.out) (Kd.R_base ho0) hb); have n2_ := Aside0.mk (Kd.R_elder' (by (with_reducible repeat (first | apply Kd.R_alloc | apply Kd.R_drewN | apply Kd.R_drew)); exact HO109.out) (Kd.R_base ho0) hb); have n3_ := Aside0.mk (Kd.R_elder' (by (with_reducible repeat (first | apply Kd.R_alloc | apply Kd.R_drewN | apply Kd.R_drew)); exact HO113.out) (Kd.R_base ho0) hb); have n4_ := Aside0.mk (Kd.R_elder' (by (with_reducible repeat (first | apply Kd.R_alloc | apply Kd.R_drewN | apply Kd.R_drew)); exact HO116.out) (Kd.R_base ho0) hb); have n5_ := Aside0.mk (Kd.R_elder' (by (with_reducible repeat (first | apply Kd.R_alloc | apply Kd.R_drewN | apply Kd.R_drew)); exact HO119.out) (Kd.R_base ho0) hb); have n6_ := Aside0.mk (Kd.R_lower (Kd.R_new' (Kd.R_new' (Kd.R_new' (Kd.R_new' (Kd.R_new' (Kd.R_new' ho0 (Kd.R_lt (by (with_reducible repeat (first | apply Kd.R_alloc | apply Kd.R_drewN | apply Kd.R_drew)); exact HO103.out))) (Kd.R_lt (by (with_reducible repeat (first | apply Kd.R_alloc | apply Kd.R_drewN | apply Kd.R_drew)); exact HO106.out))) (Kd.R_lt (by (with_reducible repeat (first | apply Kd.R_alloc | apply Kd.R_drewN | apply Kd.R_drew)); exact HO109.out))) (Kd.R_lt (by (with_reducible repeat (first | apply Kd.R_alloc | apply Kd.R_drewN | apply Kd.R_drew)); exact HO113.out))) (Kd.R_lt (by (with_reducible repeat (first | apply Kd.R_alloc | apply Kd.R_drewN | apply Kd.R_drew)); exact HO116.out))) (Kd.R_lt (by (with_reducible repeat (first | apply Kd.R_alloc | apply Kd.R_drewN | apply Kd.R_drew)); exact HO119.out))) (below_size (by repeat (first | (with_reducible first | exact HB.out | apply below_alloc | apply pw_below_drewN | apply below_drew1) | exact HB.out)))); have n7_ := Aside0.mk (below_step (by repeat (first | (with_reducible first | exact HB.out | apply below_alloc | apply pw_below_drewN | apply below_drew1) | exact HB.out)) hb); clear HO103; clear HO106; clear HO109; clear HO113; clear HO116; clear HO119; clear HB; have HO103 := n0_; have HO106 := n1_; have HO109 := n2_; have HO113 := n3_; have HO116 := n4_; have HO119 := n5_; have HO123 := n6_; have HB := n7_; clear n0_ n1_ n2_ n3_ n4_ n5_ n6_ n7_; (try clear hb); (try clear hb2); (try clear hk); (try clear hi); (try clear ho0)) | ((with_reducible refine gate_callee (f := 27) rfl ?_); refine goesL_ (some 21) rfl rfl Try.func27 (by kernel_rfl) rfl #[.int .u64 3] rfl (by (try simp only [List.map_toArray, List.map_cons, List.map_nil]); first | done | rfl | (simp only [List.length_drop, List.length_take]; rfl)) ?_; (with_reducible refine (nat_Of.calls 3 t124 _ A8.out).mono ?_); rintro e w41 ⟨v125, rfl, ho0, hb⟩; refine ⟨_, rfl, ?_⟩; have n0_ := Aside0.mk (Kd.R_elder' (by (with_reducible repeat (first | apply Kd.R_alloc | apply Kd.R_drewN | apply Kd.R_drew)); exact HO103.out) (Kd.R_base ho0) hb); have n1_ := Aside0.mk (Kd.R_elder' (by (with_reducible repeat (first | apply Kd.R_alloc | apply Kd.R_drewN | apply Kd.R_drew)); exact HO106.out) (Kd.R_base ho0) hb); have n2_ := Aside0.mk (Kd.R_elder' (by (with_reducible repeat (first | apply Kd.R_alloc | apply Kd.R_drewN | apply Kd.R_drew)); exact HO109.out) (Kd.R_base ho0) hb); have n3_ := Aside0.mk (Kd.R_elder' (by (with_reducible repeat (first | apply Kd.R_alloc | apply Kd.R_drewN | apply Kd.R_drew)); exact HO113.out) (Kd.R_base ho0) hb); have n4_ := Aside0.mk (Kd.R_elder' (by (with_reducible repeat (first | apply Kd.R_alloc | apply Kd.R_drewN | apply Kd.R_drew)); exact HO116.out) (Kd.R_base ho0) hb); have n5_ := Aside0.mk (Kd.R_elder' (by (with_reducible repeat (first | apply Kd.R_alloc | apply Kd.R_drewN | apply Kd.R_drew)); exact HO119.out) (Kd.R_base ho0) hb); have n6_ := Aside0.mk (Kd.R_elder' (by (with_reducible repeat (first | apply Kd.R_alloc | apply Kd.R_drewN | apply Kd.R_drew)); exact HO123.out) (Kd.R_base ho0) hb); have n7_ := Aside0.mk (Kd.R_lower (Kd.R_new' (Kd.R_new' (Kd.R_new' (Kd.R_new' (Kd.R_new' (Kd.R_new' (Kd.R_new' ho0 (Kd.R_lt (by (with_reducible repeat (first | apply Kd.R_alloc | apply Kd.R_drewN | apply Kd.R_drew)); exact HO103.out))) (Kd.R_lt (by (with_reducible repeat (first | apply Kd.R_alloc | apply Kd.R_drewN | apply Kd.R_drew)); exact HO106.out))) (Kd.R_lt (by (with_reducible repeat (first | apply Kd.R_alloc | apply Kd.R_drewN | apply Kd.R_drew)); exact HO109.out))) (Kd.R_lt (by (with_reducible repeat (first | apply Kd.R_alloc | apply Kd.R_drewN | apply Kd.R_drew)); exact HO113.out))) (Kd.R_lt (by (with_reducible repeat (first | apply Kd.R_alloc | apply Kd.R_drewN | apply Kd.R_drew)); exact HO116.out))) (Kd.R_lt (by (with_reducible repeat (first | apply Kd.R_alloc | apply Kd.R_drewN | apply Kd.R_drew)); exact HO119.out))) (Kd.R_lt (by (with_reducible repeat (first | apply Kd.R_alloc | apply Kd.R_drewN | apply Kd.R_drew)); exact HO123.out))) (below_size (by repeat (first | (with_reducible first | exact HB.out | apply below_alloc | apply pw_below_drewN | apply below_drew1) | exact HB.out)))); have n8_ := Aside0.mk (below_step (by repeat (first | (with_reducible first | exact HB.out | apply below_alloc | apply pw_below_drewN | apply below_drew1) | exact HB.out)) hb); clear HO103; clear HO106; clear HO109; clear HO113; clear HO116; clear HO119; clear HO123; clear HB; have HO103 := n0_; have HO106 := n1_; have HO109 := n2_; have HO113 := n3_; have HO116 := n4_; have HO119 := n5_; have HO123 := n6_; have HO126 := n7_; have HB := n8_; clear n0_ n1_ n2_ n3_ n4_ n5_ n6_ n7_ n8_; (try clear hb); (try clear hb2); (try clear hk); (try clear hi); (try clear ho0); obtain ⟨Ao42, co42, eo42⟩ := Kd.R_slice HO126.out; subst eo42) | ((with_reducible refine gate_callee (f := 13) rfl ?_); refine goesL_ (some 22) rfl rfl Try.func13 (by kernel_rfl) rfl #[.slice Ao42 t124.length co42, .slice none 0 0] rfl (by (try simp only [List.map_toArray, List.map_cons, List.map_nil]); first | done | rfl | (simp only [List.length_drop, List.length_take]; rfl)) ?_; (refine (modn_Mod.calls _ _ t124 _ _ ([] : List Int) t127 t128 _ ?side1 ?side2 ?side3 ?side4 A9.out).mono ?_); (case side1 => repeat (first | exact (Kd.R_reads' HO126.out).2.2 | (with_reducible refine Kd.C_alloc ?_ _) | (with_reducible refine Kd.C_drewN ?_ _) | (with_reducible refine Kd.C_drew ?_))); (case side2 => exact (Kd.R_reads' HO126.out).2.1); (case side3 => exact Kd.C_nil _ _); (case side4 => exact Nat.le_refl _); rintro e w43 ⟨v129, rfl, ho0, hb⟩; refine ⟨_, rfl, ?_⟩; have n0_ := Aside0.mk (Kd.R_elder' (by (with_reducible repeat (first | apply Kd.R_alloc | apply Kd.R_drewN | apply Kd.R_drew)); exact HO103.out) (Kd.R_base ho0) hb); have n1_ := Aside0.mk (Kd.R_elder' (by (with_reducible repeat (first | apply Kd.R_alloc | apply Kd.R_drewN | apply Kd.R_drew)); exact HO106.out) (Kd.R_base ho0) hb); have n2_ := Aside0.mk (Kd.R_elder' (by (with_reducible repeat (first | apply Kd.R_alloc | apply Kd.R_drewN | apply Kd.R_drew)); exact HO109.out) (Kd.R_base ho0) hb); have n3_ := Aside0.mk (Kd.R_elder' (by (with_reducible repeat (first | apply Kd.R_alloc | apply Kd.R_drewN | apply Kd.R_drew)); exact HO113.out) (Kd.R_base ho0) hb); have n4_ := Aside0.mk (Kd.R_elder' (by (with_reducible repeat (first | apply Kd.R_alloc | apply Kd.R_drewN | apply Kd.R_drew)); exact HO116.out) (Kd.R_base ho0) hb); have n5_ := Aside0.mk (Kd.R_elder' (by (with_reducible repeat (first | apply Kd.R_alloc | apply Kd.R_drewN | apply Kd.R_drew)); exact HO119.out) (Kd.R_base ho0) hb); have n6_ := Aside0.mk (Kd.R_elder' (by (with_reducible repeat (first | apply Kd.R_alloc | apply Kd.R_drewN | apply Kd.R_drew)); exact HO123.out) (Kd.R_base ho0) hb); have n7_ := Aside0.mk (Kd.R_elder' (by (with_reducible repeat (first | apply Kd.R_alloc | apply Kd.R_drewN | apply Kd.R_drew)); exact HO126.out) (Kd.R_base ho0) hb); have n8_ := Aside0.mk (Kd.R_lower (Kd.R_new' (Kd.R_new' (Kd.R_new' (Kd.R_new' (Kd.R_new' (Kd.R_new' (Kd.R_new' (Kd.R_new' ho0 (Kd.R_lt (by (with_reducible repeat (first | apply Kd.R_alloc | apply Kd.R_drewN | apply Kd.R_drew)); exact HO103.out))) (Kd.R_lt (by (with_reducible repeat (first | apply Kd.R_alloc | apply Kd.R_drewN | apply Kd.R_drew)); exact HO106.out))) (Kd.R_lt (by (with_reducible repeat (first | apply Kd.R_alloc | apply Kd.R_drewN | apply Kd.R_drew)); exact HO109.out))) (Kd.R_lt (by (with_reducible repeat (first | apply Kd.R_alloc | apply Kd.R_drewN | apply Kd.R_drew)); exact HO113.out))) (Kd.R_lt (by (with_reducible repeat (first | apply Kd.R_alloc | apply Kd.R_drewN | apply Kd.R_drew)); exact HO116.out))) (Kd.R_lt (by (with_reducible repeat (first | apply Kd.R_alloc | apply Kd.R_drewN | apply Kd.R_drew)); exact HO119.out))) (Kd.R_lt (by (with_reducible repeat (first | apply Kd.R_alloc | apply Kd.R_drewN | apply Kd.R_drew)); exact HO123.out))) (Kd.R_lt (by (with_reducible repeat (first | apply Kd.R_alloc | apply Kd.R_drewN | apply Kd.R_drew)); exact HO126.out))) (below_size (by repeat (first | (with_reducible first | exact HB.out | apply below_alloc | apply pw_below_drewN | apply below_drew1) | exact HB.out)))); have n9_ := Aside0.mk (below_step (by repeat (first | (with_reducible first | exact HB.out | apply below_alloc | apply pw_below_drewN | apply below_drew1) | exact HB.out)) hb); clear HO103; clear HO106; clear HO109; clear HO113; clear HO116; clear HO119; clear HO123; clear HO126; clear HB; have HO103 := n0_; have HO106 := n1_; have HO109 := n2_; have HO113 := n3_; have HO116 := n4_; have HO119 := n5_; have HO123 := n6_; have HO126 := n7_; have HO130 := n8_; have HB := n9_; clear n0_ n1_ n2_ n3_ n4_ n5_ n6_ n7_ n8_ n9_; (try clear hb); (try clear hb2); (try clear hk); (try clear hi); (try clear ho0)) | (go_at_call 27; (with_reducible refine (nat_Of.calls 5 t131 _ A11.out).mono ?_); rintro e w44 ⟨v132, rfl, ho0, hb⟩; have n0_ := Aside0.mk (Kd.R_elder' (by (with_reducible repeat (first | apply Kd.R_alloc | apply Kd.R_drewN | apply Kd.R_drew)); exact HO103.out) (Kd.R_base ho0) hb); have n1_ := Aside0.mk (Kd.R_elder' (by (with_reducible repeat (first | apply Kd.R_alloc | apply Kd.R_drewN | apply Kd.R_drew)); exact HO106.out) (Kd.R_base ho0) hb); have n2_ := Aside0.mk (Kd.R_elder' (by (with_reducible repeat (first | apply Kd.R_alloc | apply Kd.R_drewN | apply Kd.R_drew)); exact HO109.out) (Kd.R_base ho0) hb); have n3_ := Aside0.mk (Kd.R_elder' (by (with_reducible repeat (first | apply Kd.R_alloc | apply Kd.R_drewN | apply Kd.R_drew)); exact HO113.out) (Kd.R_base ho0) hb); have n4_ := Aside0.mk (Kd.R_elder' (by (with_reducible repeat (first | apply Kd.R_alloc | apply Kd.R_drewN | apply Kd.R_drew)); exact HO116.out) (Kd.R_base ho0) hb); have n5_ := Aside0.mk (Kd.R_elder' (by (with_reducible repeat (first | apply Kd.R_alloc | apply Kd.R_drewN | apply Kd.R_drew)); exact HO119.out) (Kd.R_base ho0) hb); have n6_ := Aside0.mk (Kd.R_elder' (by (with_reducible repeat (first | apply Kd.R_alloc | apply Kd.R_drewN | apply Kd.R_drew)); exact HO123.out) (Kd.R_base ho0) hb); have n7_ := Aside0.mk (Kd.R_elder' (by (with_reducible repeat (first | apply Kd.R_alloc | apply Kd.R_drewN | apply Kd.R_drew)); exact HO126.out) (Kd.R_base ho0) hb); have n8_ := Aside0.mk (Kd.R_elder' (by (with_reducible repeat (first | apply Kd.R_alloc | apply Kd.R_drewN | apply Kd.R_drew)); exact HO130.out) (Kd.R_base ho0) hb); have n9_ := Aside0.mk (Kd.R_lower (Kd.R_new' (Kd.R_new' (Kd.R_new' (Kd.R_new' (Kd.R_new' (Kd.R_new' (Kd.R_new' (Kd.R_new' (Kd.R_new' ho0 (Kd.R_lt (by (with_reducible repeat (first | apply Kd.R_alloc | apply Kd.R_drewN | apply Kd.R_drew)); exact HO103.out))) (Kd.R_lt (by (with_reducible repeat (first | apply Kd.R_alloc | apply Kd.R_drewN | apply Kd.R_drew)); exact HO106.out))) (Kd.R_lt (by (with_reducible repeat (first | apply Kd.R_alloc | apply Kd.R_drewN | apply Kd.R_drew)); exact HO109.out))) (Kd.R_lt (by (with_reducible repeat (first | apply Kd.R_alloc | apply Kd.R_drewN | apply Kd.R_drew)); exact HO113.out))) (Kd.R_lt (by (with_reducible repeat (first | apply Kd.R_alloc | apply Kd.R_drewN | apply Kd.R_drew)); exact HO116.out))) (Kd.R_lt (by (with_reducible repeat (first | apply Kd.R_alloc | apply Kd.R_drewN | apply Kd.R_drew)); exact HO119.out))) (Kd.R_lt (by (with_reducible repeat (first | apply Kd.R_alloc | apply Kd.R_drewN | apply Kd.R_drew)); exact HO123.out))) (Kd.R_lt (by (with_reducible repeat (first | apply Kd.R_alloc | apply Kd.R_drewN | apply Kd.R_drew)); exact HO126.out))) (Kd.R_lt (by (with_reducible repeat (first | apply Kd.R_alloc | apply Kd.R_drewN | apply Kd.R_drew)); exact HO130.out))) (below_size (by repeat (first | (with_reducible first | exact HB.out | apply below_alloc | apply pw_below_drewN | apply below_drew1) | exact HB.out)))); have n10_ := Aside0.mk (below_step (by repeat (first | (with_reducible first | exact HB.out | apply below_alloc | apply pw_below_drewN | apply below_drew1) | exact HB.out)) hb); clear HO103; clear HO106; clear HO109; clear HO113; clear HO116; clear HO119; clear HO123; clear HO126; clear HO130; clear HB; have HO103 := n0_; have HO106 := n1_; have HO109 := n2_; have HO113 := n3_; have HO116 := n4_; have HO119 := n5_; have HO123 := n6_; have HO126 := n7_; have HO130 := n8_; have HO133 := n9_; have HB := n10_; clear n0_ n1_ n2_ n3_ n4_ n5_ n6_ n7_ n8_ n9_ n10_; (try clear hb); (try clear hb2); (try clear hk); (try clear hi); (try clear ho0); obtain ⟨Ao45, co45, eo45⟩ := Kd.R_slice HO113.out; subst eo45; obtain ⟨Ao46, co46, eo46⟩ := Kd.R_slice HO133.out; subst eo46) | (go_at_call 28; (with_reducible refine (nat_Cmp.calls _ _ t110 _ _ t131 t134 _ ?side1 ?side2 ?side3 ?side4 A12.out).mono ?_); (case side1 => repeat (first | exact (Kd.R_reads' HO113.out).2.2 | (with_reducible refine Kd.C_alloc ?_ _) | (with_reducible refine Kd.C_drewN ?_ _) | (with_reducible refine Kd.C_drew ?_))); (case side2 => exact (Kd.R_reads' HO113.out).2.1); (case side3 => repeat (first | exact (Kd.R_reads' HO133.out).2.2 | (with_reducible refine Kd.C_alloc ?_ _) | (with_reducible refine Kd.C_drewN ?_ _) | (with_reducible refine Kd.C_drew ?_))); (case side4 => exact (Kd.R_reads' HO133.out).2.1); rintro e w' ⟨rfl, ⟨nd, rfl⟩⟩) | (go_at_call 27; (with_reducible refine (nat_Of.calls 5 t135 _ A15.out).mono ?_); rintro e w47 ⟨v136, rfl, ho0, hb⟩; have n0_ := Aside0.mk (Kd.R_elder' (by (with_reducible repeat (first | apply Kd.R_alloc | apply Kd.R_drewN | apply Kd.R_drew)); exact HO103.out) (Kd.R_base ho0) hb); have n1_ := Aside0.mk (Kd.R_elder' (by (with_reducible repeat (first | apply Kd.R_alloc | apply Kd.R_drewN | apply Kd.R_drew)); exact HO106.out) (Kd.R_base ho0) hb); have n2_ := Aside0.mk (Kd.R_elder' (by (with_reducible repeat (first | apply Kd.R_alloc | apply Kd.R_drewN | apply Kd.R_drew)); exact HO109.out) (Kd.R_base ho0) hb); have n3_ := Aside0.mk (Kd.R_elder' (by (with_reducible repeat (first | apply Kd.R_alloc | apply Kd.R_drewN | apply Kd.R_drew)); exact HO113.out) (Kd.R_base ho0) hb); have n4_ := Aside0.mk (Kd.R_elder' (by (with_reducible repeat (first | apply Kd.R_alloc | apply Kd.R_drewN | apply Kd.R_drew)); exact HO116.out) (Kd.R_base ho0) hb); have n5_ := Aside0.mk (Kd.R_elder' (by (with_reducible repeat (first | apply Kd.R_alloc | apply Kd.R_drewN | apply Kd.R_drew)); exact HO119.out) (Kd.R_base ho0) hb); have n6_ := Aside0.mk (Kd.R_elder' (by (with_reducible repeat (first | apply Kd.R_alloc | apply Kd.R_drewN | apply Kd.R_drew)); exact HO123.out) (Kd.R_base ho0) hb); have n7_ := Aside0.mk (Kd.R_elder' (by (with_reducible repeat (first | apply Kd.R_alloc | apply Kd.R_drewN | apply Kd.R_drew)); exact HO126.out) (Kd.R_base ho0) hb); have n8_ := Aside0.mk (Kd.R_elder' (by (with_reducible repeat (first | apply Kd.R_alloc | apply Kd.R_drewN | apply Kd.R_drew)); exact HO130.out) (Kd.R_base ho0) hb); have n9_ := Aside0.mk (Kd.R_elder' (by (with_reducible repeat (first | apply Kd.R_alloc | apply Kd.R_drewN | apply Kd.R_drew)); exact HO133.out) (Kd.R_base ho0) hb); have n10_ := Aside0.mk (Kd.R_lower (Kd.R_new' (Kd.R_new' (Kd.R_new' (Kd.R_new' (Kd.R_new' (Kd.R_new' (Kd.R_new' (Kd.R_new' (Kd.R_new' (Kd.R_new' ho0 (Kd.R_lt (by (with_reducible repeat (first | apply Kd.R_alloc | apply Kd.R_drewN | apply Kd.R_drew)); exact HO103.out))) (Kd.R_lt (by (with_reducible repeat (first | apply Kd.R_alloc | apply Kd.R_drewN | apply Kd.R_drew)); exact HO106.out))) (Kd.R_lt (by (with_reducible repeat (first | apply Kd.R_alloc | apply Kd.R_drewN | apply Kd.R_drew)); exact HO109.out))) (Kd.R_lt (by (with_reducible repeat (first | apply Kd.R_alloc | apply Kd.R_drewN | apply Kd.R_drew)); exact HO113.out))) (Kd.R_lt (by (with_reducible repeat (first | apply Kd.R_alloc | apply Kd.R_drewN | apply Kd.R_drew)); exact HO116.out))) (Kd.R_lt (by (with_reducible repeat (first | apply Kd.R_alloc | apply Kd.R_drewN | apply Kd.R_drew)); exact HO119.out))) (Kd.R_lt (by (with_reducible repeat (first | apply Kd.R_alloc | apply Kd.R_drewN | apply Kd.R_drew)); exact HO123.out))) (Kd.R_lt (by (with_reducible repeat (first | apply Kd.R_alloc | apply Kd.R_drewN | apply Kd.R_drew)); exact HO126.out))) (Kd.R_lt (by (with_reducible repeat (first | apply Kd.R_alloc | apply Kd.R_drewN | apply Kd.R_drew)); exact HO130.out))) (Kd.R_lt (by (with_reducible repeat (first | apply Kd.R_alloc | apply Kd.R_drewN | apply Kd.R_drew)); exact HO133.out))) (below_size (by repeat (first | (with_reducible first | exact HB.out | apply below_alloc | apply pw_below_drewN | apply below_drew1) | exact HB.out)))); have n11_ := Aside0.mk (below_step (by repeat (first | (with_reducible first | exact HB.out | apply below_alloc | apply pw_below_drewN | apply below_drew1) | exact HB.out)) hb); clear HO103; clear HO106; clear HO109; clear HO113; clear HO116; clear HO119; clear HO123; clear HO126; clear HO130; clear HO133; clear HB; have HO103 := n0_; have HO106 := n1_; have HO109 := n2_; have HO113 := n3_; have HO116 := n4_; have HO119 := n5_; have HO123 := n6_; have HO126 := n7_; have HO130 := n8_; have HO133 := n9_; have HO137 := n10_; have HB := n11_; clear n0_ n1_ n2_ n3_ n4_ n5_ n6_ n7_ n8_ n9_ n10_ n11_; (try clear hb); (try clear hb2); (try clear hk); (try clear hi); (try clear ho0); obtain ⟨Ao48, co48, eo48⟩ := Kd.R_slice HO123.out; subst eo48; obtain ⟨Ao49, co49, eo49⟩ := Kd.R_slice HO137.out; subst eo49) | (go_at_call 28; (with_reducible refine (nat_Cmp.calls _ _ t120 _ _ t135 t138 _ ?side1 ?side2 ?side3 ?side4 A16.out).mono ?_); (case side1 => repeat (first | exact (Kd.R_reads' HO123.out).2.2 | (with_reducible refine Kd.C_alloc ?_ _) | (with_reducible refine Kd.C_drewN ?_ _) | (with_reducible refine Kd.C_drew ?_))); (case side2 => exact (Kd.R_reads' HO123.out).2.1); (case side3 => repeat (first | exact (Kd.R_reads' HO137.out).2.2 | (with_reducible refine Kd.C_alloc ?_ _) | (with_reducible refine Kd.C_drewN ?_ _) | (with_reducible refine Kd.C_drew ?_))); (case side4 => exact (Kd.R_reads' HO137.out).2.1); rintro e w' ⟨rfl, ⟨nd, rfl⟩⟩) | (go_at_call 27; (with_reducible refine (nat_Of.calls 12 t139 _ A19.out).mono ?_); rintro e w50 ⟨v140, rfl, ho0, hb⟩; have n0_ := Aside0.mk (Kd.R_elder' (by (with_reducible repeat (first | apply Kd.R_alloc | apply Kd.R_drewN | apply Kd.R_drew)); exact HO103.out) (Kd.R_base ho0) hb); have n1_ := Aside0.mk (Kd.R_elder' (by (with_reducible repeat (first | apply Kd.R_alloc | apply Kd.R_drewN | apply Kd.R_drew)); exact HO106.out) (Kd.R_base ho0) hb); have n2_ := Aside0.mk (Kd.R_elder' (by (with_reducible repeat (first | apply Kd.R_alloc | apply Kd.R_drewN | apply Kd.R_drew)); exact HO109.out) (Kd.R_base ho0) hb); have n3_ := Aside0.mk (Kd.R_elder' (by (with_reducible repeat (first | apply Kd.R_alloc | apply Kd.R_drewN | apply Kd.R_drew)); exact HO113.out) (Kd.R_base ho0) hb); have n4_ := Aside0.mk (Kd.R_elder' (by (with_reducible repeat (first | apply Kd.R_alloc | apply Kd.R_drewN | apply Kd.R_drew)); exact HO116.out) (Kd.R_base ho0) hb); have n5_ := Aside0.mk (Kd.R_elder' (by (with_reducible repeat (first | apply Kd.R_alloc | apply Kd.R_drewN | apply Kd.R_drew)); exact HO119.out) (Kd.R_base ho0) hb); have n6_ := Aside0.mk (Kd.R_elder' (by (with_reducible repeat (first | apply Kd.R_alloc | apply Kd.R_drewN | apply Kd.R_drew)); exact HO123.out) (Kd.R_base ho0) hb); have n7_ := Aside0.mk (Kd.R_elder' (by (with_reducible repeat (first | apply Kd.R_alloc | apply Kd.R_drewN | apply Kd.R_drew)); exact HO126.out) (Kd.R_base ho0) hb); have n8_ := Aside0.mk (Kd.R_elder' (by (with_reducible repeat (first | apply Kd.R_alloc | apply Kd.R_drewN | apply Kd.R_drew)); exact HO130.out) (Kd.R_base ho0) hb); have n9_ := Aside0.mk (Kd.R_elder' (by (with_reducible repeat (first | apply Kd.R_alloc | apply Kd.R_drewN | apply Kd.R_drew)); exact HO133.out) (Kd.R_base ho0) hb); have n10_ := Aside0.mk (Kd.R_elder' (by (with_reducible repeat (first | apply Kd.R_alloc | apply Kd.R_drewN | apply Kd.R_drew)); exact HO137.out) (Kd.R_base ho0) hb); have n11_ := Aside0.mk (Kd.R_lower (Kd.R_new' (Kd.R_new' (Kd.R_new' (Kd.R_new' (Kd.R_new' (Kd.R_new' (Kd.R_new' (Kd.R_new' (Kd.R_new' (Kd.R_new' (Kd.R_new' ho0 (Kd.R_lt (by (with_reducible repeat (first | apply Kd.R_alloc | apply Kd.R_drewN | apply Kd.R_drew)); exact HO103.out))) (Kd.R_lt (by (with_reducible repeat (first | apply Kd.R_alloc | apply Kd.R_drewN | apply Kd.R_drew)); exact HO106.out))) (Kd.R_lt (by (with_reducible repeat (first | apply Kd.R_alloc | apply Kd.R_drewN | apply Kd.R_drew)); exact HO109.out))) (Kd.R_lt (by (with_reducible repeat (first | apply Kd.R_alloc | apply Kd.R_drewN | apply Kd.R_drew)); exact HO113.out))) (Kd.R_lt (by (with_reducible repeat (first | apply Kd.R_alloc | apply Kd.R_drewN | apply Kd.R_drew)); exact HO116.out))) (Kd.R_lt (by (with_reducible repeat (first | apply Kd.R_alloc | apply Kd.R_drewN | apply Kd.R_drew)); exact HO119.out))) (Kd.R_lt (by (with_reducible repeat (first | apply Kd.R_alloc | apply Kd.R_drewN | apply Kd.R_drew)); exact HO123.out))) (Kd.R_lt (by (with_reducible repeat (first | apply Kd.R_alloc | apply Kd.R_drewN | apply Kd.R_drew)); exact HO126.out))) (Kd.R_lt (by (with_reducible repeat (first | apply Kd.R_alloc | apply Kd.R_drewN | apply Kd.R_drew)); exact HO130.out))) (Kd.R_lt (by (with_reducible repeat (first | apply Kd.R_alloc | apply Kd.R_drewN | apply Kd.R_drew)); exact HO133.out))) (Kd.R_lt (by (with_reducible repeat (first | apply Kd.R_alloc | apply Kd.R_drewN | apply Kd.R_drew)); exact HO137.out))) (below_size (by repeat (first | (with_reducible first | exact HB.out | apply below_alloc | apply pw_below_drewN | apply below_drew1) | exact HB.out)))); have n12_ := Aside0.mk (below_step (by repeat (first | (with_reducible first | exact HB.out | apply below_alloc | apply pw_below_drewN | apply below_drew1) | exact HB.out)) hb); clear HO103; clear HO106; clear HO109; clear HO113; clear HO116; clear HO119; clear HO123; clear HO126; clear HO130; clear HO133; clear HO137; clear HB; have HO103 := n0_; have HO106 := n1_; have HO109 := n2_; have HO113 := n3_; have HO116 := n4_; have HO119 := n5_; have HO123 := n6_; have HO126 := n7_; have HO130 := n8_; have HO133 := n9_; have HO137 := n10_; have HO141 := n11_; have HB := n12_; clear n0_ n1_ n2_ n3_ n4_ n5_ n6_ n7_ n8_ n9_ n10_ n11_ n12_; (try clear hb); (try clear hb2); (try clear hk); (try clear hi); (try clear ho0)) | (go_at_call 27; (with_reducible refine (nat_Of.calls 18 t142 _ A20.out).mono ?_); rintro e w51 ⟨v143, rfl, ho0, hb⟩; have n0_ := Aside0.mk (Kd.R_elder' (by (with_reducible repeat (first | apply Kd.R_alloc | apply Kd.R_drewN | apply Kd.R_drew)); exact HO103.out) (Kd.R_base ho0) hb); have n1_ := Aside0.mk (Kd.R_elder' (by (with_reducible repeat (first | apply Kd.R_alloc | apply Kd.R_drewN | apply Kd.R_drew)); exact HO106.out) (Kd.R_base ho0) hb); have n2_ := Aside0.mk (Kd.R_elder' (by (with_reducible repeat (first | apply Kd.R_alloc | apply Kd.R_drewN | apply Kd.R_drew)); exact HO109.out) (Kd.R_base ho0) hb); have n3_ := Aside0.mk (Kd.R_elder' (by (with_reducible repeat (first | apply Kd.R_alloc | apply Kd.R_drewN | apply Kd.R_drew)); exact HO113.out) (Kd.R_base ho0) hb); have n4_ := Aside0.mk (Kd.R_elder' (by (with_reducible repeat (first | apply Kd.R_alloc | apply Kd.R_drewN | apply Kd.R_drew)); exact HO116.out) (Kd.R_base ho0) hb); have n5_ := Aside0.mk (Kd.R_elder' (by (with_reducible repeat (first | apply Kd.R_alloc | apply Kd.R_drewN | apply Kd.R_drew)); exact HO119.out) (Kd.R_base ho0) hb); have n6_ := Aside0.mk (Kd.R_elder' (by (with_reducible repeat (first | apply Kd.R_alloc | apply Kd.R_drewN | apply Kd.R_drew)); exact HO123.out) (Kd.R_base ho0) hb); have n7_ := Aside0.mk (Kd.R_elder' (by (with_reducible repeat (first | apply Kd.R_alloc | apply Kd.R_drewN | apply Kd.R_drew)); exact HO126.out) (Kd.R_base ho0) hb); have n8_ := Aside0.mk (Kd.R_elder' (by (with_reducible repeat (first | apply Kd.R_alloc | apply Kd.R_drewN | apply Kd.R_drew)); exact HO130.out) (Kd.R_base ho0) hb); have n9_ := Aside0.mk (Kd.R_elder' (by (with_reducible repeat (first | apply Kd.R_alloc | apply Kd.R_drewN | apply Kd.R_drew)); exact HO133.out) (Kd.R_base ho0) hb); have n10_ := Aside0.mk (Kd.R_elder' (by (with_reducible repeat (first | apply Kd.R_alloc | apply Kd.R_drewN | apply Kd.R_drew)); exact HO137.out) (Kd.R_base ho0) hb); have n11_ := Aside0.mk (Kd.R_elder' (by (with_reducible repeat (first | apply Kd.R_alloc | apply Kd.R_drewN | apply Kd.R_drew)); exact HO141.out) (Kd.R_base ho0) hb); have n12_ := Aside0.mk (Kd.R_lower (Kd.R_new' (Kd.R_new' (Kd.R_new' (Kd.R_new' (Kd.R_new' (Kd.R_new' (Kd.R_new' (Kd.R_new' (Kd.R_new' (Kd.R_new' (Kd.R_new' (Kd.R_new' ho0 (Kd.R_lt (by (with_reducible repeat (first | apply Kd.R_alloc | apply Kd.R_drewN | apply Kd.R_drew)); exact HO103.out))) (Kd.R_lt (by (with_reducible repeat (first | apply Kd.R_alloc | apply Kd.R_drewN | apply Kd.R_drew)); exact HO106.out))) (Kd.R_lt (by (with_reducible repeat (first | apply Kd.R_alloc | apply Kd.R_drewN | apply Kd.R_drew)); exact HO109.out))) (Kd.R_lt (by (with_reducible repeat (first | apply Kd.R_alloc | apply Kd.R_drewN | apply Kd.R_drew)); exact HO113.out))) (Kd.R_lt (by (with_reducible repeat (first | apply Kd.R_alloc | apply Kd.R_drewN | apply Kd.R_drew)); exact HO116.out))) (Kd.R_lt (by (with_reducible repeat (first | apply Kd.R_alloc | apply Kd.R_drewN | apply Kd.R_drew)); exact HO119.out))) (Kd.R_lt (by (with_reducible repeat (first | apply Kd.R_alloc | apply Kd.R_drewN | apply Kd.R_drew)); exact HO123.out))) (Kd.R_lt (by (with_reducible repeat (first | apply Kd.R_alloc | apply Kd.R_drewN | apply Kd.R_drew)); exact HO126.out))) (Kd.R_lt (by (with_reducible repeat (first | apply Kd.R_alloc | apply Kd.R_drewN | apply Kd.R_drew)); exact HO130.out))) (Kd.R_lt (by (with_reducible repeat (first | apply Kd.R_alloc | apply Kd.R_drewN | apply Kd.R_drew)); exact HO133.out))) (Kd.R_lt (by (with_reducible repeat (first | apply Kd.R_alloc | apply Kd.R_drewN | apply Kd.R_drew)); exact HO137.out))) (Kd.R_lt (by (with_reducible repeat (first | apply Kd.R_alloc | apply Kd.R_drewN | apply Kd.R_drew)); exact HO141.out))) (below_size (by repeat (first | (with_reducible first | exact HB.out | apply below_alloc | apply pw_below_drewN | apply below_drew1) | exact HB.out)))); have n13_ := Aside0.mk (below_step (by repeat (first | (with_reducible first | exact HB.out | apply below_alloc | apply pw_below_drewN | apply below_drew1) | exact HB.out)) hb); clear HO103; clear HO106; clear HO109; clear HO113; clear HO116; clear HO119; clear HO123; clear HO126; clear HO130; clear HO133; clear HO137; clear HO141; clear HB; have HO103 := n0_; have HO106 := n1_; have HO109 := n2_; have HO113 := n3_; have HO116 := n4_; have HO119 := n5_; have HO123 := n6_; have HO126 := n7_; have HO130 := n8_; have HO133 := n9_; have HO137 := n10_; have HO141 := n11_; have HO144 := n12_; have HB := n13_; clear n0_ n1_ n2_ n3_ n4_ n5_ n6_ n7_ n8_ n9_ n10_ n11_ n12_ n13_; (try clear hb); (try clear hb2); (try clear hk); (try clear hi); (try clear ho0); obtain ⟨Ao52, co52, eo52⟩ := Kd.R_slice HO141.out; subst eo52; obtain ⟨Ao53, co53, eo53⟩ := Kd.R_slice HO144.out; subst eo53) | (go_at_call 22; (with_reducible refine (modn_Gcd.calls _ _ t139 _ _ t142 t145 _ ?side1 ?side2 ?side3 ?side4 A21.out).mono ?_); (case side1 => repeat (first | exact (Kd.R_reads' HO141.out).2.2 | (with_reducible refine Kd.C_alloc ?_ _) | (with_reducible refine Kd.C_drewN ?_ _) | (with_reducible refine Kd.C_drew ?_))); (case side2 => exact (Kd.R_reads' HO141.out).2.1); (case side3 => repeat (first | exact (Kd.R_reads' HO144.out).2.2 | (with_reducible refine Kd.C_alloc ?_ _) | (with_reducible refine Kd.C_drewN ?_ _) | (with_reducible refine Kd.C_drew ?_))); (case side4 => exact (Kd.R_reads' HO144.out).2.1); rintro e w54 ⟨v146, rfl, ho0, hb⟩; have n0_ := Aside0.mk (Kd.R_elder' (by (with_reducible repeat (first | apply Kd.R_alloc | apply Kd.R_drewN | apply Kd.R_drew)); exact HO103.out) (Kd.R_base ho0) hb); have n1_ := Aside0.mk (Kd.R_elder' (by (with_reducible repeat (first | apply Kd.R_alloc | apply Kd.R_drewN | apply Kd.R_drew)); exact HO106.out) (Kd.R_base ho0) hb); have n2_ := Aside0.mk (Kd.R_elder' (by (with_reducible repeat (first | apply Kd.R_alloc | apply Kd.R_drewN | apply Kd.R_drew)); exact HO109.out) (Kd.R_base ho0) hb); have n3_ := Aside0.mk (Kd.R_elder' (by (with_reducible repeat (first | apply Kd.R_alloc | apply Kd.R_drewN | apply Kd.R_drew)); exact HO113.out) (Kd.R_base ho0) hb); have n4_ := Aside0.mk (Kd.R_elder' (by (with_reducible repeat (first | apply Kd.R_alloc | apply Kd.R_drewN | apply Kd.R_drew)); exact HO116.out) (Kd.R_base ho0) hb); have n5_ := Aside0.mk (Kd.R_elder' (by (with_reducible repeat (first | apply Kd.R_alloc | apply Kd.R_drewN | apply Kd.R_drew)); exact HO119.out) (Kd.R_base ho0) hb); have n6_ := Aside0.mk (Kd.R_elder' (by (with_reducible repeat (first | apply Kd.R_alloc | apply Kd.R_drewN | apply Kd.R_drew)); exact HO123.out) (Kd.R_base ho0) hb); have n7_ := Aside0.mk (Kd.R_elder' (by (with_reducible repeat (first | apply Kd.R_alloc | apply Kd.R_drewN | apply Kd.R_drew)); exact HO126.out) (Kd.R_base ho0) hb); have n8_ := Aside0.mk (Kd.R_elder' (by (with_reducible repeat (first | apply Kd.R_alloc | apply Kd.R_drewN | apply Kd.R_drew)); exact HO130.out) (Kd.R_base ho0) hb); have n9_ := Aside0.mk (Kd.R_elder' (by (with_reducible repeat (first | apply Kd.R_alloc | apply Kd.R_drewN | apply Kd.R_drew)); exact HO133.out) (Kd.R_base ho0) hb); have n10_ := Aside0.mk (Kd.R_elder' (by (with_reducible repeat (first | apply Kd.R_alloc | apply Kd.R_drewN | apply Kd.R_drew)); exact HO137.out) (Kd.R_base ho0) hb); have n11_ := Aside0.mk (Kd.R_elder' (by (with_reducible repeat (first | apply Kd.R_alloc | apply Kd.R_drewN | apply Kd.R_drew)); exact HO141.out) (Kd.R_base ho0) hb); have n12_ := Aside0.mk (Kd.R_elder' (by (with_reducible repeat (first | apply Kd.R_alloc | apply Kd.R_drewN | apply Kd.R_drew)); exact HO144.out) (Kd.R_base ho0) hb); have n13_ := Aside0.mk (Kd.R_lower (Kd.R_new' (Kd.R_new' (Kd.R_new' (Kd.R_new' (Kd.R_new' (Kd.R_new' (Kd.R_new' (Kd.R_new' (Kd.R_new' (Kd.R_new' (Kd.R_new' (Kd.R_new' (Kd.R_new' ho0 (Kd.R_lt (by (with_reducible repeat (first | apply Kd.R_alloc | apply Kd.R_drewN | apply Kd.R_drew)); exact HO103.out))) (Kd.R_lt (by (with_reducible repeat (first | apply Kd.R_alloc | apply Kd.R_drewN | apply Kd.R_drew)); exact HO106.out))) (Kd.R_lt (by (with_reducible repeat (first | apply Kd.R_alloc | apply Kd.R_drewN | apply Kd.R_drew)); exact HO109.out))) (Kd.R_lt (by (with_reducible repeat (first | apply Kd.R_alloc | apply Kd.R_drewN | apply Kd.R_drew)); exact HO113.out))) (Kd.R_lt (by (with_reducible repeat (first | apply Kd.R_alloc | apply Kd.R_drewN | apply Kd.R_drew)); exact HO116.out))) (Kd.R_lt (by (with_reducible repeat (first | apply Kd.R_alloc | apply Kd.R_drewN | apply Kd.R_drew)); exact HO119.out))) (Kd.R_lt (by (with_reducible repeat (first | apply Kd.R_alloc | apply Kd.R_drewN | apply Kd.R_drew)); exact HO123.out))) (Kd.R_lt (by (with_reducible repeat (first | apply Kd.R_alloc | apply Kd.R_drewN | apply Kd.R_drew)); exact HO126.out))) (Kd.R_lt (by (with_reducible repeat (first | apply Kd.R_alloc | apply Kd.R_drewN | apply Kd.R_drew)); exact HO130.out))) (Kd.R_lt (by (with_reducible repeat (first | apply Kd.R_alloc | apply Kd.R_drewN | apply Kd.R_drew)); exact HO133.out))) (Kd.R_lt (by (with_reducible repeat (first | apply Kd.R_alloc | apply Kd.R_drewN | apply Kd.R_drew)); exact HO137.out))) (Kd.R_lt (by (with_reducible repeat (first | apply Kd.R_alloc | apply Kd.R_drewN | apply Kd.R_drew)); exact HO141.out))) (Kd.R_lt (by (with_reducible repeat (first | apply Kd.R_alloc | apply Kd.R_drewN | apply Kd.R_drew)); exact HO144.out))) (below_size (by repeat (first | (with_reducible first | exact HB.out | apply below_alloc | apply pw_below_drewN | apply below_drew1) | exact HB.out)))); have n14_ := Aside0.mk (below_step (by repeat (first | (with_reducible first | exact HB.out | apply below_alloc | apply pw_below_drewN | apply below_drew1) | exact HB.out)) hb); clear HO103; clear HO106; clear HO109; clear HO113; clear HO116; clear HO119; clear HO123; clear HO126; clear HO130; clear HO133; clear HO137; clear HO141; clear HO144; clear HB; have HO103 := n0_; have HO106 := n1_; have HO109 := n2_; have HO113 := n3_; have HO116 := n4_; have HO119 := n5_; have HO123 := n6_; have HO126 := n7_; have HO130 := n8_; have HO133 := n9_; have HO137 := n10_; have HO141 := n11_; have HO144 := n12_; have HO147 := n13_; have HB := n14_; clear n0_ n1_ n2_ n3_ n4_ n5_ n6_ n7_ n8_ n9_ n10_ n11_ n12_ n13_ n14_; (try clear hb); (try clear hb2); (try clear hk); (try clear hi); (try clear ho0)) | (go_at_call 27; (with_reducible refine (nat_Of.calls 6 t148 _ A22.out).mono ?_); rintro e w55 ⟨v149, rfl, ho0, hb⟩; have n0_ := Aside0.mk (Kd.R_elder' (by (with_reducible repeat (first | apply Kd.R_alloc | apply Kd.R_drewN | apply Kd.R_drew)); exact HO103.out) (Kd.R_base ho0) hb); have n1_ := Aside0.mk (Kd.R_elder' (by (with_reducible repeat (first | apply Kd.R_alloc | apply Kd.R_drewN | apply Kd.R_drew)); exact HO106.out) (Kd.R_base ho0) hb); have n2_ := Aside0.mk (Kd.R_elder' (by (with_reducible repeat (first | apply Kd.R_alloc | apply Kd.R_drewN | apply Kd.R_drew)); exact HO109.out) (Kd.R_base ho0) hb); have n3_ := Aside0.mk (Kd.R_elder' (by (with_reducible repeat (first | apply Kd.R_alloc | apply Kd.R_drewN | apply Kd.R_drew)); exact HO113.out) (Kd.R_base ho0) hb); have n4_ := Aside0.mk (Kd.R_elder' (by (with_reducible repeat (first | apply Kd.R_alloc | apply Kd.R_drewN | apply Kd.R_drew)); exact HO116.out) (Kd.R_base ho0) hb); have n5_ := Aside0.mk (Kd.R_elder' (by (with_reducible repeat (first | apply Kd.R_alloc | apply Kd.R_drewN | apply Kd.R_drew)); exact HO119.out) (Kd.R_base ho0) hb); have n6_ := Aside0.mk (Kd.R_elder' (by (with_reducible repeat (first | apply Kd.R_alloc | apply Kd.R_drewN | apply Kd.R_drew)); exact HO123.out) (Kd.R_base ho0) hb); have n7_ := Aside0.mk (Kd.R_elder' (by (with_reducible repeat (first | apply Kd.R_alloc | apply Kd.R_drewN | apply Kd.R_drew)); exact HO126.out) (Kd.R_base ho0) hb); have n8_ := Aside0.mk (Kd.R_elder' (by (with_reducible repeat (first | apply Kd.R_alloc | apply Kd.R_drewN | apply Kd.R_drew)); exact HO130.out) (Kd.R_base ho0) hb); have n9_ := Aside0.mk (Kd.R_elder' (by (with_reducible repeat (first | apply Kd.R_alloc | apply Kd.R_drewN | apply Kd.R_drew)); exact HO133.out) (Kd.R_base ho0) hb); have n10_ := Aside0.mk (Kd.R_elder' (by (with_reducible repeat (first | apply Kd.R_alloc | apply Kd.R_drewN | apply Kd.R_drew)); exact HO137.out) (Kd.R_base ho0) hb); have n11_ := Aside0.mk (Kd.R_elder' (by (with_reducible repeat (first | apply Kd.R_alloc | apply Kd.R_drewN | apply Kd.R_drew)); exact HO141.out) (Kd.R_base ho0) hb); have n12_ := Aside0.mk (Kd.R_elder' (by (with_reducible repeat (first | apply Kd.R_alloc | apply Kd.R_drewN | apply Kd.R_drew)); exact HO144.out) (Kd.R_base ho0) hb); have n13_ := Aside0.mk (Kd.R_elder' (by (with_reducible repeat (first | apply Kd.R_alloc | apply Kd.R_drewN | apply Kd.R_drew)); exact HO147.out) (Kd.R_base ho0) hb); have n14_ := Aside0.mk (Kd.R_lower (Kd.R_new' (Kd.R_new' (Kd.R_new' (Kd.R_new' (Kd.R_new' (Kd.R_new' (Kd.R_new' (Kd.R_new' (Kd.R_new' (Kd.R_new' (Kd.R_new' (Kd.R_new' (Kd.R_new' (Kd.R_new' ho0 (Kd.R_lt (by (with_reducible repeat (first | apply Kd.R_alloc | apply Kd.R_drewN | apply Kd.R_drew)); exact HO103.out))) (Kd.R_lt (by (with_reducible repeat (first | apply Kd.R_alloc | apply Kd.R_drewN | apply Kd.R_drew)); exact HO106.out))) (Kd.R_lt (by (with_reducible repeat (first | apply Kd.R_alloc | apply Kd.R_drewN | apply Kd.R_drew)); exact HO109.out))) (Kd.R_lt (by (with_reducible repeat (first | apply Kd.R_alloc | apply Kd.R_drewN | apply Kd.R_drew)); exact HO113.out))) (Kd.R_lt (by (with_reducible repeat (first | apply Kd.R_alloc | apply Kd.R_drewN | apply Kd.R_drew)); exact HO116.out))) (Kd.R_lt (by (with_reducible repeat (first | apply Kd.R_alloc | apply Kd.R_drewN | apply Kd.R_drew)); exact HO119.out))) (Kd.R_lt (by (with_reducible repeat (first | apply Kd.R_alloc | apply Kd.R_drewN | apply Kd.R_drew)); exact HO123.out))) (Kd.R_lt (by (with_reducible repeat (first | apply Kd.R_alloc | apply Kd.R_drewN | apply Kd.R_drew)); exact HO126.out))) (Kd.R_lt (by (with_reducible repeat (first | apply Kd.R_alloc | apply Kd.R_drewN | apply Kd.R_drew)); exact HO130.out))) (Kd.R_lt (by (with_reducible repeat (first | apply Kd.R_alloc | apply Kd.R_drewN | apply Kd.R_drew)); exact HO133.out))) (Kd.R_lt (by (with_reducible repeat (first | apply Kd.R_alloc | apply Kd.R_drewN | apply Kd.R_drew)); exact HO137.out))) (Kd.R_lt (by (with_reducible repeat (first | apply Kd.R_alloc | apply Kd.R_drewN | apply Kd.R_drew)); exact HO141.out))) (Kd.R_lt (by (with_reducible repeat (first | apply Kd.R_alloc | apply Kd.R_drewN | apply Kd.R_drew)); exact HO144.out))) (Kd.R_lt (by (with_reducible repeat (first | apply Kd.R_alloc | apply Kd.R_drewN | apply Kd.R_drew)); exact HO147.out))) (below_size (by repeat (first | (with_reducible first | exact HB.out | apply below_alloc | apply pw_below_drewN | apply below_drew1) | exact HB.out)))); have n15_ := Aside0.mk (below_step (by repeat (first | (with_reducible first | exact HB.out | apply below_alloc | apply pw_below_drewN | apply below_drew1) | exact HB.out)) hb); clear HO103; clear HO106; clear HO109; clear HO113; clear HO116; clear HO119; clear HO123; clear HO126; clear HO130; clear HO133; clear HO137; clear HO141; clear HO144; clear HO147; clear HB; have HO103 := n0_; have HO106 := n1_; have HO109 := n2_; have HO113 := n3_; have HO116 := n4_; have HO119 := n5_; have HO123 := n6_; have HO126 := n7_; have HO130 := n8_; have HO133 := n9_; have HO137 := n10_; have HO141 := n11_; have HO144 := n12_; have HO147 := n13_; have HO150 := n14_; have HB := n15_; clear n0_ n1_ n2_ n3_ n4_ n5_ n6_ n7_ n8_ n9_ n10_ n11_ n12_ n13_ n14_ n15_; (try clear hb); (try clear hb2); (try clear hk); (try clear hi); (try clear ho0); obtain ⟨Ao56, co56, eo56⟩ := Kd.R_slice HO147.out; subst eo56; obtain ⟨Ao57, co57, eo57⟩ := Kd.R_slice HO150.out; subst eo57) | (go_at_call 28; (with_reducible refine (nat_Cmp.calls _ _ t145 _ _ t148 t151 _ ?side1 ?side2 ?side3 ?side4 A23.out).mono ?_); (case side1 => repeat (first | exact (Kd.R_reads' HO147.out).2.2 | (with_reducible refine Kd.C_alloc ?_ _) | (with_reducible refine Kd.C_drewN ?_ _) | (with_reducible refine Kd.C_drew ?_))); (case side2 => exact (Kd.R_reads' HO147.out).2.1); (case side3 => repeat (first | exact (Kd.R_reads' HO150.out).2.2 | (with_reducible refine Kd.C_alloc ?_ _) | (with_reducible refine Kd.C_drewN ?_ _) | (with_reducible refine Kd.C_drew ?_))); (case side4 => exact (Kd.R_reads' HO150.out).2.1); rintro e w' ⟨rfl, ⟨nd, rfl⟩⟩) | (go_at_call 27; (with_reducible refine (nat_Of.calls 9 t152 _ A25.out).mono ?_); rintro e w58 ⟨v153, rfl, ho0, hb⟩; have n0_ := Aside0.mk (Kd.R_elder' (by (with_reducible repeat (first | apply Kd.R_alloc | apply Kd.R_drewN | apply Kd.R_drew)); exact HO103.out) (Kd.R_base ho0) hb); have n1_ := Aside0.mk (Kd.R_elder' (by (with_reducible repeat (first | apply Kd.R_alloc | apply Kd.R_drewN | apply Kd.R_drew)); exact HO106.out) (Kd.R_base ho0) hb); have n2_ := Aside0.mk (Kd.R_elder' (by (with_reducible repeat (first | apply Kd.R_alloc | apply Kd.R_drewN | apply Kd.R_drew)); exact HO109.out) (Kd.R_base ho0) hb); have n3_ := Aside0.mk (Kd.R_elder' (by (with_reducible repeat (first | apply Kd.R_alloc | apply Kd.R_drewN | apply Kd.R_drew)); exact HO113.out) (Kd.R_base ho0) hb); have n4_ := Aside0.mk (Kd.R_elder' (by (with_reducible repeat (first | apply Kd.R_alloc | apply Kd.R_drewN | apply Kd.R_drew)); exact HO116.out) (Kd.R_base ho0) hb); have n5_ := Aside0.mk (Kd.R_elder' (by (with_reducible repeat (first | apply Kd.R_alloc | apply Kd.R_drewN | apply Kd.R_drew)); exact HO119.out) (Kd.R_base ho0) hb); have n6_ := Aside0.mk (Kd.R_elder' (by (with_reducible repeat (first | apply Kd.R_alloc | apply Kd.R_drewN | apply Kd.R_drew)); exact HO123.out) (Kd.R_base ho0) hb); have n7_ := Aside0.mk (Kd.R_elder' (by (with_reducible repeat (first | apply Kd.R_alloc | apply Kd.R_drewN | apply Kd.R_drew)); exact HO126.out) (Kd.R_base ho0) hb); have n8_ := Aside0.mk (Kd.R_elder' (by (with_reducible repeat (first | apply Kd.R_alloc | apply Kd.R_drewN | apply Kd.R_drew)); exact HO130.out) (Kd.R_base ho0) hb); have n9_ := Aside0.mk (Kd.R_elder' (by (with_reducible repeat (first | apply Kd.R_alloc | apply Kd.R_drewN | apply Kd.R_drew)); exact HO133.out) (Kd.R_base ho0) hb); have n10_ := Aside0.mk (Kd.R_elder' (by (with_reducible repeat (first | apply Kd.R_alloc | apply Kd.R_drewN | apply Kd.R_drew)); exact HO137.out) (Kd.R_base ho0) hb); have n11_ := Aside0.mk (Kd.R_elder' (by (with_reducible repeat (first | apply Kd.R_alloc | apply Kd.R_drewN | apply Kd.R_drew)); exact HO141.out) (Kd.R_base ho0) hb); have n12_ := Aside0.mk (Kd.R_elder' (by (with_reducible repeat (first | apply Kd.R_alloc | apply Kd.R_drewN | apply Kd.R_drew)); exact HO144.out) (Kd.R_base ho0) hb); have n13_ := Aside0.mk (Kd.R_elder' (by (with_reducible repeat (first | apply Kd.R_alloc | apply Kd.R_drewN | apply Kd.R_drew)); exact HO147.out) (Kd.R_base ho0) hb); have n14_ := Aside0.mk (Kd.R_elder' (by (with_reducible repeat (first | apply Kd.R_alloc | apply Kd.R_drewN | apply Kd.R_drew)); exact HO150.out) (Kd.R_base ho0) hb); have n15_ := Aside0.mk (Kd.R_lower (Kd.R_new' (Kd.R_new' (Kd.R_new' (Kd.R_new' (Kd.R_new' (Kd.R_new' (Kd.R_new' (Kd.R_new' (Kd.R_new' (Kd.R_new' (Kd.R_new' (Kd.R_new' (Kd.R_new' (Kd.R_new' (Kd.R_new' ho0 (Kd.R_lt (by (with_reducible repeat (first | apply Kd.R_alloc | apply Kd.R_drewN | apply Kd.R_drew)); exact HO103.out))) (Kd.R_lt (by (with_reducible repeat (first | apply Kd.R_alloc | apply Kd.R_drewN | apply Kd.R_drew)); exact HO106.out))) (Kd.R_lt (by (with_reducible repeat (first | apply Kd.R_alloc | apply Kd.R_drewN | apply Kd.R_drew)); exact HO109.out))) (Kd.R_lt (by (with_reducible repeat (first | apply Kd.R_alloc | apply Kd.R_drewN | apply Kd.R_drew)); exact HO113.out))) (Kd.R_lt (by (with_reducible repeat (first | apply Kd.R_alloc | apply Kd.R_drewN | apply Kd.R_drew)); exact HO116.out))) (Kd.R_lt (by (with_reducible repeat (first | apply Kd.R_alloc | apply Kd.R_drewN | apply Kd.R_drew)); exact HO119.out))) (Kd.R_lt (by (with_reducible repeat (first | apply Kd.R_alloc | apply Kd.R_drewN | apply Kd.R_drew)); exact HO123.out))) (Kd.R_lt (by (with_reducible repeat (first | apply Kd.R_alloc | apply Kd.R_drewN | apply Kd.R_drew)); exact HO126.out))) (Kd.R_lt (by (with_reducible repeat (first | apply Kd.R_alloc | apply Kd.R_drewN | apply Kd.R_drew)); exact HO130.out))) (Kd.R_lt (by (with_reducible repeat (first | apply Kd.R_alloc | apply Kd.R_drewN | apply Kd.R_drew)); exact HO133.out))) (Kd.R_lt (by (with_reducible repeat (first | apply Kd.R_alloc | apply Kd.R_drewN | apply Kd.R_drew)); exact HO137.out))) (Kd.R_lt (by (with_reducible repeat (first | apply Kd.R_alloc | apply Kd.R_drewN | apply Kd.R_drew)); exact HO141.out))) (Kd.R_lt (by (with_reducible repeat (first | apply Kd.R_alloc | apply Kd.R_drewN | apply Kd.R_drew)); exact HO144.out))) (Kd.R_lt (by (with_reducible repeat (first | apply Kd.R_alloc | apply Kd.R_drewN | apply Kd.R_drew)); exact HO147.out))) (Kd.R_lt (by (with_reducible repeat (first | apply Kd.R_alloc | apply Kd.R_drewN | apply Kd.R_drew)); exact HO150.out))) (below_size (by repeat (first | (with_reducible first | exact HB.out | apply below_alloc | apply pw_below_drewN | apply below_drew1) | exact HB.out)))); have n16_ := Aside0.mk (below_step (by repeat (first | (with_reducible first | exact HB.out | apply below_alloc | apply pw_below_drewN | apply below_drew1) | exact HB.out)) hb); clear HO103; clear HO106; clear HO109; clear HO113; clear HO116; clear HO119; clear HO123; clear HO126; clear HO130; clear HO133; clear HO137; clear HO141; clear HO144; clear HO147; clear HO150; clear HB; have HO103 := n0_; have HO106 := n1_; have HO109 := n2_; have HO113 := n3_; have HO116 := n4_; have HO119 := n5_; have HO123 := n6_; have HO126 := n7_; have HO130 := n8_; have HO133 := n9_; have HO137 := n10_; have HO141 := n11_; have HO144 := n12_; have HO147 := n13_; have HO150 := n14_; have HO154 := n15_; have HB := n16_; clear n0_ n1_ n2_ n3_ n4_ n5_ n6_ n7_ n8_ n9_ n10_ n11_ n12_ n13_ n14_ n15_ n16_; (try clear hb); (try clear hb2); (try clear hk); (try clear hi); (try clear ho0); obtain ⟨Ao59, co59, eo59⟩ := Kd.R_slice HO154.out; subst eo59) | (go_at_call 29; (with_reducible refine (modn_Tells.calls _ _ t152 2 true _ ?side1 ?side2 A26.out).mono ?_); (case side1 => repeat (first | exact (Kd.R_reads' HO154.out).2.2 | (with_reducible refine Kd.C_alloc ?_ _) | (with_reducible refine Kd.C_drewN ?_ _) | (with_reducible refine Kd.C_drew ?_))); (case side2 => exact (Kd.R_reads' HO154.out).2.1); rintro e w60 ⟨rfl, hb⟩; have n0_ := Aside0.mk (Kd.R_below (by (with_reducible repeat (first | apply Kd.R_alloc | apply Kd.R_drewN | apply Kd.R_drew)); exact HO103.out) hb); have n1_ := Aside0.mk (Kd.R_below (by (with_reducible repeat (first | apply Kd.R_alloc | apply Kd.R_drewN | apply Kd.R_drew)); exact HO106.out) hb); have n2_ := Aside0.mk (Kd.R_below (by (with_reducible repeat (first | apply Kd.R_alloc | apply Kd.R_drewN | apply Kd.R_drew)); exact HO109.out) hb); have n3_ := Aside0.mk (Kd.R_below (by (with_reducible repeat (first | apply Kd.R_alloc | apply Kd.R_drewN | apply Kd.R_drew)); exact HO113.out) hb); have n4_ := Aside0.mk (Kd.R_below (by (with_reducible repeat (first | apply Kd.R_alloc | apply Kd.R_drewN | apply Kd.R_drew)); exact HO116.out) hb); have n5_ := Aside0.mk (Kd.R_below (by (with_reducible repeat (first | apply Kd.R_alloc | apply Kd.R_drewN | apply Kd.R_drew)); exact HO119.out) hb); have n6_ := Aside0.mk (Kd.R_below (by (with_reducible repeat (first | apply Kd.R_alloc | apply Kd.R_drewN | apply Kd.R_drew)); exact HO123.out) hb); have n7_ := Aside0.mk (Kd.R_below (by (with_reducible repeat (first | apply Kd.R_alloc | apply Kd.R_drewN | apply Kd.R_drew)); exact HO126.out) hb); have n8_ := Aside0.mk (Kd.R_below (by (with_reducible repeat (first | apply Kd.R_alloc | apply Kd.R_drewN | apply Kd.R_drew)); exact HO130.out) hb); have n9_ := Aside0.mk (Kd.R_below (by (with_reducible repeat (first | apply Kd.R_alloc | apply Kd.R_drewN | apply Kd.R_drew)); exact HO133.out) hb); have n10_ := Aside0.mk (Kd.R_below (by (with_reducible repeat (first | apply Kd.R_alloc | apply Kd.R_drewN | apply Kd.R_drew)); exact HO137.out) hb); have n11_ := Aside0.mk (Kd.R_below (by (with_reducible repeat (first | apply Kd.R_alloc | apply Kd.R_drewN | apply Kd.R_drew)); exact HO141.out) hb); have n12_ := Aside0.mk (Kd.R_below (by (with_reducible repeat (first | apply Kd.R_alloc | apply Kd.R_drewN | apply Kd.R_drew)); exact HO144.out) hb); have n13_ := Aside0.mk (Kd.R_below (by (with_reducible repeat (first | apply Kd.R_alloc | apply Kd.R_drewN | apply Kd.R_drew)); exact HO147.out) hb); have n14_ := Aside0.mk (Kd.R_below (by (with_reducible repeat (first | apply Kd.R_alloc | apply Kd.R_drewN | apply Kd.R_drew)); exact HO150.out) hb); have n15_ := Aside0.mk (Kd.R_below (by (with_reducible repeat (first | apply Kd.R_alloc | apply Kd.R_drewN | apply Kd.R_drew)); exact HO154.out) hb); have n16_ := Aside0.mk (below_step (by repeat (first | (with_reducible first | exact HB.out | apply below_alloc | apply pw_below_drewN | apply below_drew1) | exact HB.out)) hb); clear HO103; clear HO106; clear HO109; clear HO113; clear HO116; clear HO119; clear HO123; clear HO126; clear HO130; clear HO133; clear HO137; clear HO141; clear HO144; clear HO147; clear HO150; clear HO154; clear HB; have HO103 := n0_; have HO106 := n1_; have HO109 := n2_; have HO113 := n3_; have HO116 := n4_; have HO119 := n5_; have HO123 := n6_; have HO126 := n7_; have HO130 := n8_; have HO133 := n9_; have HO137 := n10_; have HO141 := n11_; have HO144 := n12_; have HO147 := n13_; have HO150 := n14_; have HO154 := n15_; have HB := n16_; clear n0_ n1_ n2_ n3_ n4_ n5_ n6_ n7_ n8_ n9_ n10_ n11_ n12_ n13_ n14_ n15_ n16_; (try clear hb); (try clear hb2); (try clear hk); (try clear hi)) | (go_at_call 33; (with_reducible refine (modn_Sure.calls 7 t156 _ A28.out).mono ?_); rintro e w' ⟨rfl, ⟨nd, rfl⟩⟩))
                go_ret
                exact ⟨by first | rfl | (simp [errW_none, errW_some] <;> rfl) | (simp [*, errW_none, errW_some] <;> rfl), by repeat (first | (with_reducible first | exact HB.out | apply below_alloc | apply pw_below_drewN | apply below_drew1) | exact HB.out)⟩
              · replace c27 := Bool.eq_false_iff.mpr c27
                subst c27
                have H1 : (some false) = some r := by rw [if_neg (show ¬ (false = true) by decide)] at H; exact H
                clear H
                have H := H1
                clear H1
                obtain rfl := Option.some.inj H
                exact absurd HTR_.out (by decide)
            · rw [if_neg c24] at H
              have c24b0 : (t151 == 0) = false := beq_eq_false_iff_ne.mpr c24
              have c24b1 : (t151 != 0) = true := bne_iff_ne.mpr c24
              obtain rfl := Option.some.inj H
              exact absurd HTR_.out (by decide)
          · rw [if_neg c18] at H
            have c18b0 : (t128 == 11) = false := beq_eq_false_iff_ne.mpr c18
            have c18b1 : (t128 != 11) = true := bne_iff_ne.mpr c18
            obtain rfl := Option.some.inj H
            exact absurd HTR_.out (by decide)
        · rw [if_neg c17] at H
          have c17b0 : (t138 == 0) = false := beq_eq_false_iff_ne.mpr c17
          have c17b1 : (t138 != 0) = true := bne_iff_ne.mpr c17
          obtain rfl := Option.some.inj H
          exact absurd HTR_.out (by decide)
      · rw [if_neg c14] at H
        have c14b0 : (t121 == 0) = false := beq_eq_false_iff_ne.mpr c14
        have c14b1 : (t121 != 0) = true := bne_iff_ne.mpr c14
        obtain rfl := Option.some.inj H
        exact absurd HTR_.out (by decide)
    · rw [if_neg c13] at H
      have c13b0 : (t134 == 0) = false := beq_eq_false_iff_ne.mpr c13
      have c13b1 : (t134 != 0) = true := bne_iff_ne.mpr c13
      obtain rfl := Option.some.inj H
      exact absurd HTR_.out (by decide)
  · rw [if_neg c10] at H
    have c10b0 : (t111 == 0) = false := beq_eq_false_iff_ne.mpr c10
    have c10b1 : (t111 != 0) = true := bne_iff_ne.mpr c10
    obtain rfl := Option.some.inj H
    exact absurd HTR_.out (by decide)
end Go.Proofs.Yteelppebdcgbpaa.Cv
namespace Go.Proofs.Yteelppebdcgbpaa.Cv
open Go.RowKit Go.Proofs.YteelppebdcgbpaaW.PrintWords Go.Proofs.YteelppebdcgbpaaW.PrintLast Go.Proofs.YteelppebdcgbpaaW.PrintMore
attribute [local go_sem] max2_int min2_int max_two min_two max_three min_three max_four min_four   -- for this text's walks alone
set_option linter.unusedVariables false
set_option linter.unusedSimpArgs false
end Go.Proofs.Yteelppebdcgbpaa.Cv
namespace Go.Proofs.Yteelppebdcgbpaa
set_option linter.unusedSimpArgs false
set_option linter.unusedVariables false
open Go.RowKit Go.Proofs.YteelppebdcgbpaaW.PrintWords Go.Proofs.YteelppebdcgbpaaW.PrintLast Go.Proofs.YteelppebdcgbpaaW.PrintMore
theorem twos8 : twos 8 = 3 := by
  rw [twos_step (by omega) (by omega), twos_step (by omega) (by omega), twos_step (by omega) (by omega), twos_odd (by omega)]
theorem tells9 : tellsN 9 2 = true := by
  unfold tellsN
  rw [show (9 - 1 : Nat) = 8 from rfl, twos8]
  decide
theorem alive3_pure : Cv.clepsydralaw03_alive.f = some true := by
  have o : ∀ n : Nat, n < 18446744073709551616 → Cv.nat_Of.f (n : Int) = some (ofN n) := fun n h => by unfold Cv.nat_Of.f; rw [if_pos (by omega), Int.toNat_natCast]
  have o3 : Cv.nat_Of.f 3 = some (ofN 3) := o 3 (by omega)
  have o5 : Cv.nat_Of.f 5 = some (ofN 5) := o 5 (by omega)
  have o7 : Cv.nat_Of.f 7 = some (ofN 7) := o 7 (by omega)
  have o12 : Cv.nat_Of.f 12 = some (ofN 12) := o 12 (by omega)
  have o18 : Cv.nat_Of.f 18 = some (ofN 18) := o 18 (by omega)
  have o6 : Cv.nat_Of.f 6 = some (ofN 6) := o 6 (by omega)
  have o9 : Cv.nat_Of.f 9 = some (ofN 9) := o 9 (by omega)
  have s : ∀ n : Nat, n < 18446744073709551616 → ∀ {m}, 1 ≤ m → okN m (ofN n) := fun n h m hm => okN_ofN (Nat.le_trans (ln_small h) hm)
  have p : Cv.modn_Pow.f (ofN 3) (ofN 5) (ofN 7) = some (ofN 5, 0) := by
    unfold Cv.modn_Pow.f
    rw [if_pos ⟨s _ (by omega) (by omega), s _ (by omega) (by omega), s _ (by omega) (by omega)⟩, nI_ofN, nI_ofN, nI_ofN, powR_pos (by omega)]; rfl
  have i : Cv.modn_Inverse.f (ofN 3) (ofN 7) = some (ofN 5, 0) := by
    unfold Cv.modn_Inverse.f
    rw [if_pos ⟨s _ (by omega) (by omega), s _ (by omega) (by omega)⟩, nI_ofN, nI_ofN, invR_pos (by omega) (by decide), invN_eq (x := 5) (by omega) (by decide)]
  have m : Cv.modn_Mod.f (ofN 3) [] = some ([], 11) := by
    unfold Cv.modn_Mod.f
    rw [if_pos ⟨s _ (by omega) (by omega), okN_nil _⟩]
    unfold modR
    rw [show nI [] = 0 from rfl, if_pos rfl, if_pos rfl, ofN_zero]
  have g : Cv.modn_Gcd.f (ofN 12) (ofN 18) = some (ofN 6) := by
    unfold Cv.modn_Gcd.f
    rw [if_pos ⟨s _ (by omega) (by omega), s _ (by omega) (by omega)⟩, nI_ofN, nI_ofN]; rfl
  have t : Cv.modn_Tells.f (ofN 9) 2 = some true := by
    unfold Cv.modn_Tells.f
    rw [if_pos ⟨s _ (by omega) (by omega), by omega, by omega⟩, nI_ofN]
    exact congrArg some tells9
  have u : Cv.modn_Sure.f 7 = some true := by
    unfold Cv.modn_Sure.f
    rw [if_pos ⟨by omega, by omega⟩]; decide
  have c : ∀ n : Nat, n < 18446744073709551616 → Cv.nat_Cmp.f (ofN n) (ofN n) = some 0 := fun n h => by unfold Cv.nat_Cmp.f; rw [if_pos ⟨s _ h (by omega), s _ h (by omega)⟩, cmpN_eq rfl]
  have c5 := c 5 (by omega)
  have c6 := c 6 (by omega)
  unfold Cv.clepsydralaw03_alive.f
  simp only [o3, o5, o7, o12, o18, o6, o9, p, i, m, g, t, u, c5, c6, Option.bind_some, if_true]
theorem alive3_giv {r : Bool} {w : World} (h : some true = some r) : Calls Try.prog 12 #[] w fun e w' => e = .returned (.bool r) ∧ Below w.heap.size w w' := by
  obtain rfl := Option.some.inj h
  exact Cv.clepsydralaw03_alive.calls _ _ alive3_pure rfl
end Go.Proofs.Yteelppebdcgbpaa
namespace Go.Proofs.Yteelppebdcgbpaa
set_option linter.unusedSimpArgs false
set_option linter.unusedVariables false
open Go.RowKit Go.Proofs.YteelppebdcgbpaaW.PrintWords Go.Proofs.YteelppebdcgbpaaW.PrintLast Go.Proofs.YteelppebdcgbpaaW.PrintMore
theorem dl_of_ln {n m : Nat} (h : ln n ≤ m) : D.ln n ≤ 4 * m := by
  rw [D.ln_le, D.wpow, show 16 * (4 * m) = 64 * m by omega, ← wpow]
  exact ln_le.1 h
theorem dl_mono {a b : Nat} (h : a ≤ b) : D.ln a ≤ D.ln b := D.ln_mono h
theorem dl_mod {a b k : Nat} (h0 : 0 < b) (h : D.ln b ≤ k) : D.ln (a % b) ≤ k := Nat.le_trans (D.ln_mono (Nat.le_of_lt (Nat.mod_lt a h0))) h
theorem ofD_small {n : Nat} (h0 : 0 < n) (h : n < 65536) : ofD n = [(n : Int)] := by
  unfold ofD
  rw [D.dgs_pos (by omega), Nat.div_eq_of_lt h, D.dgs_zero, Nat.mod_eq_of_lt h]; rfl
theorem ofD_one : ofD 1 = [1] := ofD_small (by omega) (by omega)
theorem ofD_two : ofD 2 = [2] := ofD_small (by omega) (by omega)
theorem dl_small {n : Nat} (h : n < 65536) : D.ln n ≤ 1 := D.ln_small h
theorem rp {a b : Nat} (ha : D.ln a ≤ 65536) (hb : D.ln b ≤ 65536) (h : 0 < b) : Cr.clepsydraref03_parted.f (ofD a) (ofD b) = some (ofD (a / b), ofD (a % b)) := by
  unfold Cr.clepsydraref03_parted.f
  rw [if_pos ⟨okD_ofD ha, okD_ofD hb, by rw [dI_ofD]; exact h⟩, dI_ofD, dI_ofD]
theorem rt {a b n : Nat} (hb : D.ln b ≤ 65536) (hn : D.ln n ≤ 65536) (h : a < n) : Cr.clepsydraref03_times.f (ofD a) (ofD b) (ofD n) = some (ofD (a * b % n)) := by
  have hl := dl_mono (Nat.le_of_lt h)
  unfold Cr.clepsydraref03_times.f
  rw [if_pos ⟨okD_ofD (by omega), okD_ofD hb, okD_ofD hn, by rw [dI_ofD, dI_ofD]; exact h, by rw [ofD_length, ofD_length]; omega⟩, dI_ofD, dI_ofD, dI_ofD]
theorem rb {a : Nat} (ha : D.ln a ≤ 65536) (i : Nat) (hi : i ≤ 4611686018427387904) : Cr.clepsydraref03_bit.f (ofD a) (i : Int) = some ((a / 2 ^ i % 2 : Nat) : Int) := by
  unfold Cr.clepsydraref03_bit.f
  rw [if_pos ⟨okD_ofD (by omega), by omega, by omega⟩, dI_ofD, Int.toNat_natCast]
theorem rc {a b : Nat} (ha : D.ln a ≤ 65536) (hb : D.ln b ≤ 65536) : Cr.clepsydraref03_cmp.f (ofD a) (ofD b) = some (cmpN a b) := by
  unfold Cr.clepsydraref03_cmp.f
  rw [if_pos ⟨okD_ofD (by omega), okD_ofD (by omega)⟩, dI_ofD, dI_ofD]
theorem len0 (n : Nat) : ((ofD n).length : Int) = 0 ↔ n = 0 := by
  rw [ofD_length]
  constructor
  · intro h
    rcases Nat.eq_zero_or_pos n with h0 | h0
    · exact h0
    · have := D.ln_pos (show n ≠ 0 by omega); omega
  · rintro rfl; rw [D.ln_zero]; rfl
theorem power_l0R {m x e : Nat} (hm : 0 < m) (hx : x < m) (hl : D.ln m ≤ 65536) (he : D.ln e ≤ 65536) : ∀ (j k : Nat), j < k → j ≤ 16777216 →
    Cr.clepsydraref03_power.l0 k (ofD x) (ofD e) (ofD m) (ofD (powM x (e / 2 ^ j) m)) ((j : Int) - 1) = some (ofD (powM x e m)) := by
  intro j
  induction j with
  | zero =>
    intro k hk _
    obtain ⟨k, rfl⟩ : ∃ q, k = q + 1 := ⟨k - 1, by omega⟩
    simp only [Cr.clepsydraref03_power.l0]
    rw [if_neg (by omega), Nat.pow_zero, Nat.div_one]
  | succ j ih =>
    intro k hk hj
    obtain ⟨k, rfl⟩ : ∃ q, k = q + 1 := ⟨k - 1, by omega⟩
    have lp : ∀ f, D.ln (powM x f m) ≤ 65536 := fun f => dl_mod hm hl
    have lx : D.ln x ≤ 65536 := Nat.le_trans (dl_mono (Nat.le_of_lt hx)) hl
    have ej : ((j + 1 : Nat) : Int) - 1 = (j : Int) := by omega
    have hw : wrap64 ((j : Int) - 1) = (j : Int) - 1 := wr (by omega) (by omega)
    simp only [Cr.clepsydraref03_power.l0]
    rw [ej, if_pos (by omega), rt (lp _) hl (powM_lt hm), Option.bind_some, powM_sq, rb he j (by omega), Option.bind_some, hw]
    have hs := half_split e j
    have hb := Nat.mod_lt (e / 2 ^ j) (show 0 < 2 by omega)
    clear hw
    by_cases h1 : e / 2 ^ j % 2 = 1
    · rw [if_pos (by rw [h1]; rfl), rt lx hl (powM_lt hm), Option.bind_some]
      have e1 : powM x (2 * (e / 2 ^ (j + 1))) m * x % m = powM x (e / 2 ^ j) m := by
        have := powM_add x (2 * (e / 2 ^ (j + 1))) 1 m
        rw [powM_one, Nat.mod_eq_of_lt hx] at this
        rw [this, hs, h1]
      rw [e1]
      exact ih k (by omega) (by omega)
    · have h0 : e / 2 ^ j % 2 = 0 := by omega
      rw [if_neg (by rw [h0]; decide)]
      have e1 : powM x (2 * (e / 2 ^ (j + 1))) m = powM x (e / 2 ^ j) m := by rw [hs, h0]; rfl
      rw [e1]
      exact ih k (by omega) (by omega)
theorem power_pureR {m x e : Nat} (hm : 0 < m) (hx : x < m) (hl : D.ln m ≤ 65536) (he : D.ln e ≤ 65536) (k : Nat) (hk : 16 * D.ln e < k) : Cr.clepsydraref03_power.f k (ofD x) (ofD e) (ofD m) = some (ofD (powM x e m)) := by
  unfold Cr.clepsydraref03_power.f
  have h1 : 1 < 65536 := by omega
  rw [← ofD_one, rp (Nat.le_trans (dl_small h1) (by omega)) hl hm, Option.bind_some, ofD_length]
  have e1 : wrap64 (16 * ((D.ln e : Nat) : Int)) = ((16 * D.ln e : Nat) : Int) := by unfold wrap64; omega
  have e2 : wrap64 (((16 * D.ln e : Nat) : Int) - 1) = ((16 * D.ln e : Nat) : Int) - 1 := by unfold wrap64; omega
  rw [e1, e2]
  clear e1 e2
  have h := power_l0R (e := e) hm hx hl he (16 * D.ln e) k hk (by omega)
  have hlt : e < 2 ^ (16 * D.ln e) := by rw [← D.wpow]; exact D.lt_ln e
  rw [Nat.div_eq_of_lt hlt] at h
  simp only
  rw [show powM x 0 m = 1 % m by unfold powM; rw [Nat.pow_zero]] at h
  exact h
end Go.Proofs.Yteelppebdcgbpaa
namespace Go.Proofs.Yteelppebdcgbpaa
set_option linter.unusedSimpArgs false
set_option linter.unusedVariables false
open Go.RowKit Go.Proofs.YteelppebdcgbpaaW.PrintWords Go.Proofs.YteelppebdcgbpaaW.PrintLast Go.Proofs.YteelppebdcgbpaaW.PrintMore
theorem cmp_ne0 {a b : Nat} (h : a ≠ b) : cmpN a b ≠ 0 := by
  unfold cmpN; split
  · omega
  · rw [if_pos (by omega)]; omega
theorem tells_l1R {m b : Nat} (hm : 1 < m) (hl : D.ln m ≤ 65536) : ∀ (s e i S : Nat), i + s = S → S ≤ 1048576 → ∀ k, s < k →
    Cr.clepsydraref03_Tells.l1 k (ofD m) (ofD (m - 1)) (S : Int) (ofD (powM b e m)) (i : Int) = some (!sqs b m s e) := by
  intro s
  induction s with
  | zero =>
    intro e i S hi _ k hk
    obtain ⟨k, rfl⟩ : ∃ q, k = q + 1 := ⟨k - 1, by omega⟩
    simp only [Cr.clepsydraref03_Tells.l1]
    rw [if_neg (by omega)]; rfl
  | succ s ih =>
    intro e i S hi hS k hk
    obtain ⟨k, rfl⟩ : ∃ q, k = q + 1 := ⟨k - 1, by omega⟩
    have hm0 : 0 < m := by omega
    have lp : ∀ f, D.ln (powM b f m) ≤ 65536 := fun f => dl_mod hm0 hl
    have l1 : D.ln (m - 1) ≤ 65536 := Nat.le_trans (dl_mono (by omega)) hl
    simp only [Cr.clepsydraref03_Tells.l1]
    rw [if_pos (by omega), rc (lp e) l1, Option.bind_some]
    unfold sqs
    by_cases h : powM b e m = m - 1
    · rw [cmpN_eq h, if_pos rfl, h]; simp
    · have hb : (powM b e m == m - 1) = false := by simpa using h
      rw [if_neg (cmp_ne0 h), rt (lp e) hl (powM_lt hm0), Option.bind_some, powM_sq, w64p (by omega), ih (2 * e) (i + 1) S (by omega) hS k (by omega), hb, Bool.false_or]
theorem digits_one {b : Nat} (hb : b < 18446744073709551616) (k : Nat) (hk : 20 ≤ k) : Cr.clepsydraref03_Digits.f k [(b : Int)] = some (ofD b) := by
  have h : okN 1 [(b : Int)] := ⟨by simp, fun x hx => by rw [List.mem_singleton] at hx; subst hx; omega⟩
  have e : nI [(b : Int)] = b := by unfold nI toN; simp [nv]
  rw [digits_pureR h (by omega) k (by omega), e]
theorem twos_bound {m K : Nat} (h0 : m ≠ 0) (h : D.ln m ≤ K) : twos m < 16 * K := by
  have h1 := twos_lt h0
  have h2 := D.ln_le.1 h
  rw [D.wpow] at h2
  exact (Nat.pow_lt_pow_iff_right (show 1 < 2 by omega)).1 (Nat.lt_of_le_of_lt h1 h2)
theorem tells_l0R {m b : Nat} (hb64 : b < 18446744073709551616) (hm : 2 < m) (ho : m % 2 = 1) (hl : D.ln m ≤ 4096) : ∀ (d j : Nat), j + d = twos (m - 1) → ∃ k0, ∀ k, k0 ≤ k →
    Cr.clepsydraref03_Tells.l0 k (b : Int) (ofD m) (ofD 1) (ofD (m - 1)) (ofD ((m - 1) / 2 ^ j)) (j : Int) = some (if b % m = 0 then false else if powM b ((m - 1) / 2 ^ twos (m - 1)) m = 1 then false else !sqs b m (twos (m - 1)) ((m - 1) / 2 ^ twos (m - 1))) := by
  have hm0 : 0 < m := by omega
  have h0 : m - 1 ≠ 0 := by omega
  have l1 : D.ln (m - 1) ≤ 4096 := Nat.le_trans (dl_mono (by omega)) hl
  have lsh : ∀ j, D.ln ((m - 1) / 2 ^ j) ≤ 4096 := fun j => Nat.le_trans (D.ln_div _ _) l1
  have ts : twos (m - 1) ≤ 65536 := by have := twos_bound h0 l1; omega
  intro d
  induction d with
  | zero =>
    intro j hj
    obtain rfl : j = twos (m - 1) := by omega
    have hbit := (twos_spec h0).2
    refine ⟨16 * 4096 + twos (m - 1) + 100, fun k hk => ?_⟩
    obtain ⟨k, rfl⟩ : ∃ q, k = q + 1 := ⟨k - 1, by omega⟩
    have hbz := rb (a := (m - 1) / 2 ^ twos (m - 1)) (by have := lsh (twos (m - 1)); omega) 0 (by omega)
    rw [Nat.pow_zero, Nat.div_one, hbit] at hbz
    have lb : D.ln b ≤ 65536 := Nat.le_trans (dl_of_ln (ln_small hb64)) (by omega)
    have lsh' := lsh (twos (m - 1))
    simp only [Cr.clepsydraref03_Tells.l0]
    rw [show ((0 : Nat) : Int) = 0 from rfl] at hbz
    rw [hbz, Option.bind_some, if_neg (by decide), digits_one hb64 k (by omega), Option.bind_some, rp lb (by omega) hm0, Option.bind_some]
    simp only
    by_cases hb : b % m = 0
    · rw [if_pos ((len0 _).2 hb), if_pos hb]
    · have lpw : D.ln (powM b ((m - 1) / 2 ^ twos (m - 1)) m) ≤ 4096 := dl_mod hm0 hl
      rw [if_neg (fun h => hb ((len0 _).1 h)), if_neg hb, power_pureR hm0 (Nat.mod_lt _ hm0) (by omega) (by omega) k (by omega), Option.bind_some, powM_mod, rc (by omega) (Nat.le_trans (dl_small (by omega)) (by omega)), Option.bind_some]
      by_cases h1 : powM b ((m - 1) / 2 ^ twos (m - 1)) m = 1
      · rw [cmpN_eq h1, if_pos rfl, if_pos h1]
      · rw [if_neg (cmp_ne0 h1), if_neg h1]
        exact tells_l1R (by omega) (by omega) _ _ 0 _ (by omega) (by omega) k (by omega)
  | succ d ih =>
    intro j hj
    obtain ⟨k0, h⟩ := ih (j + 1) (by omega)
    refine ⟨k0 + 1, fun k hk => ?_⟩
    obtain ⟨k, rfl⟩ : ∃ q, k = q + 1 := ⟨k - 1, by omega⟩
    have hj2 : j < twos (m - 1) := by omega
    have hkk : k0 ≤ k := by omega
    have hj3 : j < 9223372036854775807 := by omega
    have lj := lsh j
    have hbz := rb (a := (m - 1) / 2 ^ j) (by omega) 0 (by omega)
    rw [Nat.pow_zero, Nat.div_one, twos_bit h0 hj2] at hbz
    have hdd : (m - 1) / 2 ^ j / 2 = (m - 1) / 2 ^ (j + 1) := by rw [Nat.div_div_eq_div_mul, ← Nat.pow_succ]
    simp only [Cr.clepsydraref03_Tells.l0]
    rw [show ((0 : Nat) : Int) = 0 from rfl] at hbz
    rw [hbz, Option.bind_some, if_pos rfl, ← ofD_two, rp (by omega) (Nat.le_trans (dl_small (by omega)) (by omega)) (by omega), Option.bind_some, hdd, w64p hj3]
    exact h k hkk
theorem tells_pureR {n : List Int} (hn : okN 1024 n) {b : Nat} (hb : b < 18446744073709551616) : ∃ k0, ∀ k, k0 ≤ k → Cr.clepsydraref03_Tells.f k n (b : Int) = some (tellsN (nI n) b) := by
  have lb := dl_of_ln (ln_nI hn)
  obtain ⟨m, hm⟩ : ∃ m, nI n = m := ⟨_, rfl⟩
  rw [hm] at lb
  have l2 : D.ln 2 ≤ 65536 := Nat.le_trans (dl_small (by omega)) (by omega)
  rcases Nat.lt_trichotomy m 2 with h | h | h
  · refine ⟨50000, fun k hk => ?_⟩
    unfold Cr.clepsydraref03_Tells.f tellsN
    rw [digits_pureR hn (by omega) k (by omega), hm, Option.bind_some, Option.bind_some, ← ofD_two, rc (by omega) l2, Option.bind_some, cmpN_lt h, if_pos (by decide), Option.bind_some, if_pos h]
    rfl
  · refine ⟨50000, fun k hk => ?_⟩
    unfold Cr.clepsydraref03_Tells.f tellsN
    rw [digits_pureR hn (by omega) k (by omega), hm, Option.bind_some, Option.bind_some, ← ofD_two, rc (by omega) l2, Option.bind_some, cmpN_eq h, if_pos (by decide), Option.bind_some, if_neg (by omega), if_pos h]
    rfl
  · have hb0 := rb (a := m) (by omega) 0 (by omega)
    rw [Nat.pow_zero, Nat.div_one, show ((0 : Nat) : Int) = 0 from rfl] at hb0
    by_cases ho : m % 2 = 1
    · obtain ⟨k0, hk⟩ := tells_l0R hb h ho lb (twos (m - 1)) 0 (by omega)
      refine ⟨k0 + 50000, fun k hk0 => ?_⟩
      have hk' := hk k (by omega)
      rw [Nat.pow_zero, Nat.div_one, show ((0 : Nat) : Int) = 0 from rfl] at hk'
      have hmin := minus_pureR (D.dgs_b64 m) (D.dgs_b64 1) (by have : (D.dgs m).length ≤ 4096 := lb
                                                               omega) (by rw [D.nv_dgs, D.nv_dgs]; omega) k (by have : (D.dgs m).length ≤ 4096 := lb
                                                                                                                omega)
      rw [← ofD_eq, ← ofD_eq, D.nv_dgs, D.nv_dgs] at hmin
      unfold Cr.clepsydraref03_Tells.f tellsN
      rw [digits_pureR hn (by omega) k (by omega), hm, Option.bind_some, Option.bind_some, ← ofD_two, ← ofD_one, rc (by omega) l2, Option.bind_some, cmpN_gt h, if_neg (by decide), hb0, ho, Option.bind_some, if_neg (by decide), hmin, Option.bind_some, hk', if_neg (show ¬ m < 2 by omega), if_neg (show ¬ m = 2 by omega), if_neg (show ¬ (1 : Nat) = 0 by decide)]
    · refine ⟨50000, fun k hk => ?_⟩
      unfold Cr.clepsydraref03_Tells.f tellsN
      rw [digits_pureR hn (by omega) k (by omega), hm, Option.bind_some, Option.bind_some, ← ofD_two, ← ofD_one, rc (by omega) l2, Option.bind_some, cmpN_gt h, if_neg (by decide), hb0, show m % 2 = 0 by omega, Option.bind_some, if_pos (show ((0 : Nat) : Int) = 0 from rfl), if_neg (show ¬ m < 2 by omega), if_neg (show ¬ m = 2 by omega), if_pos rfl]
theorem prime_l0R {n bs : List Int} (hn : okN 1024 n) (hb : ∀ x ∈ bs, 0 ≤ x ∧ x < 18446744073709551616) (hl : bs.length < 1099511627776) : ∀ (d i : Nat), i + d = bs.length → ∃ k0, ∀ k, k0 ≤ k →
    Cr.clepsydraref03_Prime.l0 k n bs (i : Int) = some (((toN bs).drop i).all fun b => !tellsN (nI n) b) := by
  intro d
  induction d with
  | zero =>
    intro i hi
    refine ⟨1, fun k hk => ?_⟩
    obtain ⟨k, rfl⟩ : ∃ q, k = q + 1 := ⟨k - 1, by omega⟩
    simp only [Cr.clepsydraref03_Prime.l0]
    rw [if_neg (by omega), List.drop_eq_nil_of_le (by rw [toN_length]; omega)]; rfl
  | succ d ih =>
    intro i hi
    obtain ⟨k0, h⟩ := ih (i + 1) (by omega)
    have hil : i < (toN bs).length := by rw [toN_length]; omega
    have hx : rd bs (i : Int) = (((toN bs)[i] : Nat) : Int) := by
      have h1 := cI_toN (l := bs) (fun x hx => (hb x hx).1)
      conv => lhs; rw [← h1]
      rw [rd_cI, gd_lt hil]
    have hlt : (toN bs)[i] < 18446744073709551616 := by
      have := List.getElem_mem hil
      simp only [toN, List.mem_map] at this
      obtain ⟨y, hy, e⟩ := this
      have := hb y hy
      simp only [toN, ← e]; omega
    obtain ⟨k1, h1⟩ := tells_pureR hn hlt
    refine ⟨k0 + k1 + 1, fun k hk => ?_⟩
    obtain ⟨k, rfl⟩ : ∃ q, k = q + 1 := ⟨k - 1, by omega⟩
    simp only [Cr.clepsydraref03_Prime.l0]
    rw [if_pos (by omega), if_pos (by omega), hx, h1 k (by omega), Option.bind_some, w64p (by omega), List.drop_eq_getElem_cons hil, List.all_cons, h k (by omega)]
    cases tellsN (nI n) ((toN bs)[i]) <;> simp
theorem prime_pureR {n bs : List Int} (hn : okN 1024 n) (hb : ∀ x ∈ bs, 0 ≤ x ∧ x < 18446744073709551616) (hl : bs.length < 1099511627776) : ∃ k0, ∀ k, k0 ≤ k → Cr.clepsydraref03_Prime.f k n bs = some (primeN (nI n) (toN bs)) := by
  obtain ⟨k0, h⟩ := prime_l0R hn hb hl bs.length 0 (by omega)
  have lb := dl_of_ln (ln_nI hn)
  refine ⟨k0 + 50000, fun k hk => ?_⟩
  have hk' := h k (by omega)
  rw [show ((0 : Nat) : Int) = 0 from rfl, List.drop_zero] at hk'
  unfold Cr.clepsydraref03_Prime.f primeN
  rw [digits_pureR hn (by omega) k (by omega), Option.bind_some, ← ofD_two, rc (by omega) (Nat.le_trans (dl_small (by omega)) (by omega)), Option.bind_some, hk']
  by_cases h2 : nI n < 2
  · rw [cmpN_lt h2, if_pos (by decide), if_pos h2]
  · have : ¬ cmpN (nI n) 2 < 0 := by
      unfold cmpN; rw [if_neg h2]; split <;> omega
    rw [if_neg this, if_neg h2]
theorem mod32 {q : Nat} (h : q < 4294967296) : (q : Int) % 4294967296 = (q : Int) := by omega
theorem sure_l0R {n : Nat} (h2 : 2 ≤ n) (hn : n < 4294967296) : ∀ (f d k : Nat), 0 < d → d ≤ 65536 → n + 3 ≤ f + d → 0 < f → f ≤ k → Cq.clepsydraref03_Sure.l0 k (n : Int) (d : Int) = some (sureF n f d) := by
  intro f
  induction f with
  | zero => intro d k hd hd' hf h0 _; omega
  | succ f ih =>
    intro d k hd hd' hf _ hk
    obtain ⟨k, rfl⟩ : ∃ q, k = q + 1 := ⟨k - 1, by omega⟩
    have e1 : Int.tdiv (n : Int) (d : Int) = ((n / d : Nat) : Int) := by rw [Int.tdiv_eq_ediv_of_nonneg (by omega)]; rfl
    have hq : n / d ≤ n := Nat.div_le_self _ _
    have e2 : ((n / d : Nat) : Int) % 4294967296 = ((n / d : Nat) : Int) := mod32 (by omega)
    have e3 : ((d : Int) + 1) % 4294967296 = ((d + 1 : Nat) : Int) := by rw [← mod32 (q := d + 1) (by omega)]; rfl
    have hiff : d ≤ n / d ↔ d * d ≤ n := Nat.le_div_iff_mul_le hd
    simp only [Cq.clepsydraref03_Sure.l0]
    rw [if_neg (by omega), e1, e2, e3, tmodn]
    clear e1 e2 e3
    unfold sureF
    by_cases h : d * d ≤ n
    · have hlt : d < 65536 := by
        rcases Nat.lt_or_ge d 65536 with h' | h'
        · exact h'
        · have := Nat.mul_le_mul h' h'; omega
      rw [if_pos (by have := hiff.2 h; omega), if_pos h]
      by_cases h3 : n % d = 0
      · rw [if_pos (by exact_mod_cast h3), if_pos h3]
      · have hle : d ≤ n := Nat.le_trans (Nat.le_mul_of_pos_left d hd) h
        rw [if_neg (by exact_mod_cast h3), if_neg h3]
        exact ih (d + 1) k (by omega) (by omega) (by omega) (by omega) (by omega)
    · rw [if_neg (by intro hh; exact h (hiff.1 (by omega))), if_neg h, decide_eq_true h2]
theorem sure_pureR {n : Nat} (hn : n < 4294967296) (k : Nat) (hk : n + 1 ≤ k) : Cq.clepsydraref03_Sure.f k (n : Int) = some (sureN n) := by
  unfold Cq.clepsydraref03_Sure.f
  by_cases h2 : n < 2
  · rw [if_pos (by omega)]
    unfold sureN
    obtain ⟨q, hq⟩ : ∃ q, n + 1 = q + 1 := ⟨n, rfl⟩
    rw [hq]; unfold sureF
    rw [if_neg (by omega), decide_eq_false (by omega)]
  · rw [if_neg (by omega)]
    unfold sureN
    exact sure_l0R (by omega) hn (n + 1) 2 k (by omega) (by omega) (by omega) (by omega) hk
section
variable {A0 A1 A2 : Option Addr} {c0 c1 c2 : Nat} {l0 l1 l2 : List Int} {w : World}
theorem tells3_giv {a1 : Int} {r : Bool} (hr0 : Kd.C (Kd.int .u64) w A0 l0.length l0) (hc0 : l0.length ≤ c0) (h : (if okN 1024 l0 ∧ 0 ≤ a1 ∧ a1 < 18446744073709551616 then some (tellsN (nI l0) a1.toNat) else none) = some r) :
    Calls Try.prog 30 #[.slice A0 l0.length c0, .int .u64 a1] w fun e w' => e = .returned (.bool r) ∧ Below w.heap.size w w' := by
  obtain ⟨⟨h0, h1, h2⟩, rfl⟩ := of_ite h
  obtain ⟨b, rfl⟩ : ∃ b : Nat, a1 = b := ⟨a1.toNat, by omega⟩
  obtain ⟨k, hk⟩ := tells_pureR h0 (b := b) (by omega)
  exact Cr.clepsydraref03_Tells.calls k _ _ _ _ _ _ hr0 hc0 (hk k (Nat.le_refl _))
theorem prime3_giv {r : Bool} (hr0 : Kd.C (Kd.int .u64) w A0 l0.length l0) (hc0 : l0.length ≤ c0) (hr1 : Kd.C (Kd.int .u64) w A1 l1.length l1) (hc1 : l1.length ≤ c1) (h : (if okN 1024 l0 ∧ okN 1048576 l1 then some (primeN (nI l0) (toN l1)) else none) = some r) :
    Calls Try.prog 32 #[.slice A0 l0.length c0, .slice A1 l1.length c1] w fun e w' => e = .returned (.bool r) ∧ Below w.heap.size w w' := by
  obtain ⟨⟨h0, h1⟩, rfl⟩ := of_ite h
  obtain ⟨k, hk⟩ := prime_pureR h0 h1.2 (by have := h1.1; omega)
  exact Cr.clepsydraref03_Prime.calls k _ _ _ _ _ _ _ _ hr0 hc0 hr1 hc1 (hk k (Nat.le_refl _))
theorem sure3_giv {a0 : Int} {r : Bool} (h : (if 0 ≤ a0 ∧ a0 < 4294967296 then some (sureN a0.toNat) else none) = some r) :
    Calls Try.prog 34 #[.int .u32 a0] w fun e w' => e = .returned (.bool r) ∧ Drawn0 w w' := by
  obtain ⟨⟨h1, h2⟩, rfl⟩ := of_ite h
  obtain ⟨b, rfl⟩ : ∃ b : Nat, a0 = b := ⟨a0.toNat, by omega⟩
  exact Cq.clepsydraref03_Sure.calls (b + 1) _ _ _ (sure_pureR (by omega) _ (Nat.le_refl _))
end
end Go.Proofs.Yteelppebdcgbpaa
namespace Go.Proofs.Yteelppebdcgbpaa
set_option linter.unusedSimpArgs false
set_option linter.unusedVariables false
open Go.RowKit Go.Proofs.YteelppebdcgbpaaW.PrintWords Go.Proofs.YteelppebdcgbpaaW.PrintLast
theorem lit_any (w : World) {A : Option Addr} {c g b : Nat} {l : List Int} (hc : Kd.C (Kd.int .u64) w A l.length l) (hlc : l.length ≤ c) (ho : okN 1024 l) (hb : b < 18446744073709551616) (hcell : w.cell? ⟨g, 0, none⟩ = some (.slice A l.length c)) :
    Calls Try.prog 58 #[.int .u64 b, .pointer (some ⟨g, 0, none⟩)] w fun e w' => e = .returned (.bool (tellsN (nI l) b)) ∧ Below w.heap.size w w' := by
  have HT := Lib.hid (tells_giv (a1 := (b : Int)) (r := tellsN (nI l) b) hc hlc (by rw [if_pos ⟨ho, by omega, by omega⟩, Int.toNat_natCast]))
  clear hc ho
  go_enter Try.func58, Try.ntmps58
  go_wp2_with fail
  refine HT.out.mono ?_
  rintro e w' ⟨rfl, hbel⟩
  go_wp2_with fail
  go_ret
  exact ⟨rfl, hbel⟩
def firstT (n : Nat) : List Nat → Nat → Int
  | [], _ => -1
  | b :: bs, i => if tellsN n b then (i : Int) else firstT n bs (i + 1)
theorem firstT_neg (n : Nat) (bs : List Nat) : ∀ i, (decide (0 ≤ firstT n bs i)) = bs.any (tellsN n) := by
  induction bs with
  | nil => intro i; rfl
  | cons b bs ih =>
    intro i
    unfold firstT
    rw [List.any_cons]
    cases h : tellsN n b
    · rw [if_neg (by simp), ih]; rfl
    · rw [if_pos rfl]; simp
theorem firstT_drop {n : Nat} {bs : List Nat} {k : Nat} (h : k < bs.length) : firstT n (bs.drop k) k = if tellsN n (gd bs k) then (k : Int) else firstT n (bs.drop (k + 1)) (k + 1) := by
  rw [List.drop_eq_getElem_cons h, gd_lt h]; rfl
structure PrW (w : World) (A : Option Addr) (c g : Nat) (l : List Int) : Prop where
  rd : Kd.C (Kd.int .u64) w A l.length l
  cap : l.length ≤ c
  ok : okN 1024 l
  box : w.cell? ⟨g, 0, none⟩ = some (.slice A l.length c)
  lt : g < w.heap.size
theorem PrW.below {w w' : World} {A : Option Addr} {c g : Nat} {l : List Int} (h : PrW w A c g l) (hb : Below w.heap.size w w') : PrW w' A c g l :=
  ⟨Kd.C_below h.rd hb, h.cap, h.ok, (hb.cell (p := ⟨g, 0, none⟩) h.lt).trans h.box, Nat.lt_of_lt_of_le h.lt hb.size⟩
set_option maxHeartbeats 400000 in
theorem index_any (w : World) {A B : Option Addr} {c g n d : Nat} {l : List Int} {bs : List Nat} (h : PrW w A c g l) (hb : Rd .u64 w B n d bs) (bb : B64 bs) (hn : n ≤ 1099511627776) :
    Calls Try.prog 76 #[.slice B n d, .func (.func 58) #[] #[.pointer (some ⟨g, 0, none⟩)]] w fun e w' => e = .returned (.int .i64 (firstT (nI l) bs 0)) ∧ Below w.heap.size w w' := by
  have H := Lib.hid h
  have HB := Lib.hid hb
  have BB := Lib.hid bb
  have hmax := hb.max
  have hcap := hb.cap
  clear h hb bb
  go_enter Try.func76, Try.ntmps76
  go_wp2_with fail
  go_loopw [8] (fun i wr => ∃ k : Nat, k ≤ n ∧ i = .int .i64 (k : Int) ∧ Below w.heap.size w wr ∧ firstT (nI l) (bs.drop k) k = firstT (nI l) bs 0) (fun i _ => n - (intOf i).toNat)
  case atStart => exact ⟨0, Nat.zero_le _, rfl, Below.refl _ _, rfl⟩
  case round =>
    obtain ⟨k, hk, rfl, hbel, hf⟩ := hrel
    have HBEL := Lib.hid hbel
    have HF := Lib.hid hf
    clear hf
    by_cases hlt : k < n
    · obtain ⟨ad, rfl, hab, hac⟩ := (HB.out.below hbel).form (by omega)
      have hx := hac k hlt
      obtain ⟨b, hb⟩ : ∃ b, gd bs k = b := ⟨_, rfl⟩
      rw [hb] at hx
      have hb64 : b < 18446744073709551616 := by rw [← hb]; exact BB.out.gd k
      have HST := Lib.hid (firstT_drop (n := nI l) (bs := bs) (k := k) (by rw [HB.out.len]; exact hlt))
      have HP := Lib.hid (H.out.below HBEL.out)
      have HGB := Lib.hid hb
      clear hac hbel hb
      have HL := Lib.hid (lit_any wr HP.out.rd HP.out.cap HP.out.ok hb64 HP.out.box)
      by_cases htl : tellsN (nI l) b = true
      · have HTL := Lib.hid htl
        rw [htl] at HL
        clear htl
        go_wp2_with fail
        refine HL.out.mono ?_
        rintro e w1 ⟨rfl, hb1⟩
        have HB1 := Lib.hid (HBEL.out.trans (hb1.mono HBEL.out.size))
        clear hb1
        go_wp2_with fail
        go_ret
        refine ⟨?_, HB1.out⟩
        rw [← HF.out, HST.out, HGB.out, if_pos HTL.out]; rfl
      · have htl' : tellsN (nI l) b = false := by simpa using htl
        have HTL := Lib.hid htl'
        rw [htl'] at HL
        clear htl htl'
        go_wp2_with fail
        refine HL.out.mono ?_
        rintro e w1 ⟨rfl, hb1⟩
        have HB1 := Lib.hid (HBEL.out.trans (hb1.mono HBEL.out.size))
        clear hb1
        go_wp2_with fail
        refine ⟨⟨k + 1, by omega, by go_num, HB1.out, ?_⟩, by simp [intOf]; omega⟩
        rw [← HF.out, HST.out, HGB.out, HTL.out]; rfl
    · obtain rfl : n = k := by omega
      have HZ := Lib.hid (show firstT (nI l) bs 0 = -1 by rw [← HF.out, List.drop_eq_nil_of_le (by rw [HB.out.len]; exact Nat.le_refl _)]; rfl)
      clear hbel
      go_wp2_with fail
      go_ret
      exact ⟨by rw [HZ.out]; rfl, HBEL.out⟩
theorem contains_any (w : World) {A B : Option Addr} {c g n d : Nat} {l : List Int} {bs : List Nat} (h : PrW w A c g l) (hb : Rd .u64 w B n d bs) (bb : B64 bs) (hn : n ≤ 1099511627776) :
    Calls Try.prog 57 #[.slice B n d, .func (.func 58) #[] #[.pointer (some ⟨g, 0, none⟩)]] w fun e w' => e = .returned (.bool (bs.any (tellsN (nI l)))) ∧ Below w.heap.size w w' := by
  have HI := Lib.hid (index_any w h hb bb hn)
  have HN := Lib.hid (firstT_neg (nI l) bs 0)
  obtain ⟨z, hz⟩ : ∃ z, firstT (nI l) bs 0 = z := ⟨_, rfl⟩
  rw [hz] at HI HN
  clear h hb bb hz
  go_enter Try.func57, Try.ntmps57
  go_wp2_with fail
  refine HI.out.mono ?_
  rintro e w1 ⟨rfl, hb1⟩
  go_wp2_with fail
  go_ret
  exact ⟨by rw [← HN.out]; rfl, hb1⟩
set_option maxHeartbeats 1000000 in
theorem prime_any (w : World) {A B : Option Addr} {c n d : Nat} {l : List Int} {bs : List Nat} (hc : Kd.C (Kd.int .u64) w A l.length l) (hlc : l.length ≤ c) (ho : okN 1024 l) (hb : Rd .u64 w B n d bs) (bb : B64 bs) (hn : n ≤ 1099511627776) :
    Calls Try.prog 31 #[.slice A l.length c, .slice B n d] w fun e w' => e = .returned (.bool (primeN (nI l) bs)) ∧ Below w.heap.size w w' := by
  have hP0 : PrW (w.alloc (.cells #[.slice A l.length c] 22)).drew A c w.heap.size l :=
    ⟨Kd.C_drew (Kd.C_alloc hc _), hlc, ho, ((Bk.new w 22 #[.slice A l.length c]).cell 0).trans rfl, by simp⟩
  have S0 := hP0.box
  have HP := Lib.hid hP0
  have B0 : Below w.heap.size w (w.alloc (.cells #[.slice A l.length c] 22)).drew := by (repeat (first | (with_reducible exact Below.refl _ _) | (with_reducible assumption) | (with_reducible refine Below.drew ?_) | (with_reducible refine below_drewN ?_ _) | ((with_reducible refine Below.setCell ?_ (p := ⟨_, _, _⟩) ?_ _); rotate_left; (simp <;> omega)) | ((with_reducible refine Below.alloc ?_ ?_ _); rotate_left; (simp <;> omega)) | ((with_reducible refine Below.trans ?_ (Below.mono (by with_reducible assumption) ?_)); rotate_left; (simp <;> omega))))
  have hs0 : (w.alloc (.cells #[.slice A l.length c] 22)).drew.heap.size = w.heap.size + 1 := by simp
  have HB := Lib.hid hb
  have BB := Lib.hid bb
  have HO := Lib.hid (show Calls Try.prog 27 #[.int .u64 2] (w.alloc (.cells #[.slice A l.length c] 22)).drew (RetN 2 (w.alloc (.cells #[.slice A l.length c] 22)).drew) from of_any _ 2 (by omega))
  have hlen := ho.1
  have HCMP := Lib.hid (fun (W : World) (hW : PrW W A c w.heap.size l) (A1 : Option Addr) (c1 : Nat) (h1 : NA W A1 (ln 2) c1 2) => cmp_any W (na_of_C hW.rd hW.cap hW.ok) h1 (by omega) (Nat.le_trans (ln_small (by omega)) (by omega)))
  obtain ⟨z, hz⟩ : ∃ z, cmpN (nI l) 2 = z := ⟨_, rfl⟩
  rw [hz] at HCMP
  have hz2 : (z < 0) ↔ nI l < 2 := by
    rw [← hz]; unfold cmpN
    constructor
    · intro h
      by_cases h1 : nI l < 2
      · exact h1
      · rw [if_neg h1] at h; split at h <;> omega
    · intro h; rw [if_pos h]; omega
  have HZ := Lib.hid hz2
  clear hc ho hb bb hP0 hz hz2
  go_enter Try.func31, Try.ntmps31
  go_wp2_with fail
  go_region_held3 (fun w' => w'.cell? ⟨w.heap.size, 0, none⟩ = some (.slice A l.length c))
    (with_reducible assumption)
    ((first | (go_at_call 27; (with_reducible refine HO.out.mono ?_); rintro e w1 ⟨A1, c1, rfl, ho1, hb1⟩; have hp1 := HP.out.below hb1; have S1 := hp1.box) | (go_at_call 28; refine (HCMP.out _ hp1 A1 c1 ho1.na).mono ?_; rintro e w2 ⟨rfl, rfl⟩)))
  have HB1 := Lib.hid (B0.trans (hb1.mono (by simp)))
  have HP1 := Lib.hid hp1
  clear S0 S1 hb1 ho1 B0 hp1
  by_cases h2 : nI l < 2
  · have hzd : z < 0 := HZ.out.2 h2
    have HPR := Lib.hid (show primeN (nI l) bs = false by unfold primeN; rw [if_pos h2])
    clear h2
    go_wp2_with fail
    go_ret
    exact ⟨by rw [HPR.out]; rfl, HB1.out⟩
  · have hzd : ¬ z < 0 := fun h => h2 (HZ.out.1 h)
    have HC := Lib.hid (contains_any w1 HP1.out (HB.out.below HB1.out) BB.out hn)
    have HPR := Lib.hid (show primeN (nI l) bs = !(bs.any (tellsN (nI l))) by unfold primeN; rw [if_neg h2, List.not_any_eq_all_not])
    obtain ⟨q, hq⟩ : ∃ q, bs.any (tellsN (nI l)) = q := ⟨_, rfl⟩
    rw [hq] at HC HPR
    clear h2 hq
    go_wp2_with fail
    refine HC.out.mono ?_
    rintro e w2 ⟨rfl, hb2⟩
    have HB2 := Lib.hid (HB1.out.trans (hb2.mono HB1.out.size))
    clear hb2
    go_wp2_with fail
    go_ret
    exact ⟨by rw [HPR.out]; rfl, HB2.out⟩
theorem prime_giv {A0 A1 : Option Addr} {c0 c1 : Nat} {l0 l1 : List Int} {w : World} {r : Bool} (hr0 : Kd.C (Kd.int .u64) w A0 l0.length l0) (hc0 : l0.length ≤ c0) (hr1 : Kd.C (Kd.int .u64) w A1 l1.length l1) (hc1 : l1.length ≤ c1) (h : (if okN 1024 l0 ∧ okN 1048576 l1 then some (primeN (nI l0) (toN l1)) else none) = some r) :
    Calls Try.prog 31 #[.slice A0 l0.length c0, .slice A1 l1.length c1] w fun e w' => e = .returned (.bool r) ∧ Below w.heap.size w w' := by
  obtain ⟨⟨h0, h1⟩, rfl⟩ := of_ite h
  exact prime_any w hr0 hc0 h0 (rd_of_C hr1 hc1 h1) h1.b64 (by have := h1.1; omega)
end Go.Proofs.Yteelppebdcgbpaa
namespace Go.Proofs.Yteelppebdcgbpaa
set_option linter.unusedSimpArgs false
set_option linter.unusedVariables false
def IsPrime (p : Nat) : Prop := 2 ≤ p ∧ ∀ d, d ∣ p → d = 1 ∨ d = p
theorem IsPrime.coprime {p a : Nat} (h : IsPrime p) (ha : ¬ p ∣ a) : Nat.Coprime p a := by
  unfold Nat.Coprime
  rcases h.2 (Nat.gcd p a) (Nat.gcd_dvd_left p a) with e | e
  · exact e
  · exact absurd (e ▸ Nat.gcd_dvd_right p a) ha
theorem IsPrime.dvd_mul {p a b : Nat} (h : IsPrime p) (hd : p ∣ a * b) : p ∣ a ∨ p ∣ b := by
  by_cases ha : p ∣ a
  · exact .inl ha
  · exact .inr ((h.coprime ha).dvd_of_dvd_mul_left hd)
def choose : Nat → Nat → Nat
  | _, 0 => 1
  | 0, _ + 1 => 0
  | n + 1, k + 1 => choose n k + choose n (k + 1)
theorem choose_zero (n : Nat) : choose n 0 = 1 := by cases n <;> rfl
theorem choose_gt {n k : Nat} (h : n < k) : choose n k = 0 := by
  induction n generalizing k with
  | zero => obtain ⟨k, rfl⟩ : ∃ q, k = q + 1 := ⟨k - 1, by omega⟩; rfl
  | succ n ih =>
    obtain ⟨k, rfl⟩ : ∃ q, k = q + 1 := ⟨k - 1, by omega⟩
    simp only [choose]; rw [ih (by omega), ih (by omega)]
theorem choose_self (n : Nat) : choose n n = 1 := by
  induction n with
  | zero => rfl
  | succ n ih => simp only [choose]; rw [ih, choose_gt (by omega)]
theorem succ_mul_choose (n k : Nat) : (k + 1) * choose (n + 1) (k + 1) = (n + 1) * choose n k := by
  induction n generalizing k with
  | zero =>
    cases k with
    | zero => rfl
    | succ k => simp [choose]
  | succ n ih =>
    cases k with
    | zero =>
      have := ih 0
      simp only [choose, choose_zero] at this ⊢
      omega
    | succ k =>
      have h1 := ih k
      have h2 := ih (k + 1)
      have e1 : choose (n + 1 + 1) (k + 1 + 1) = choose (n + 1) (k + 1) + choose (n + 1) (k + 1 + 1) := rfl
      have e2 : choose (n + 1) (k + 1) = choose n k + choose n (k + 1) := rfl
      rw [e1, Nat.mul_add, h2]
      have e3 : (k + 1 + 1) * choose (n + 1) (k + 1) = (k + 1) * choose (n + 1) (k + 1) + choose (n + 1) (k + 1) := by rw [Nat.succ_mul]
      rw [e3, h1]
      have e4 : (n + 1 + 1) * choose (n + 1) (k + 1) = (n + 1) * choose (n + 1) (k + 1) + choose (n + 1) (k + 1) := by rw [Nat.succ_mul]
      rw [e4, e2, Nat.mul_add]
      omega
theorem IsPrime.dvd_choose {p k : Nat} (h : IsPrime p) (h0 : 0 < k) (hk : k < p) : p ∣ choose p k := by
  obtain ⟨k, rfl⟩ : ∃ q, k = q + 1 := ⟨k - 1, by omega⟩
  obtain ⟨n, rfl⟩ : ∃ q, p = q + 1 := ⟨p - 1, by omega⟩
  have e := succ_mul_choose n k
  have hd : (n + 1) ∣ (k + 1) * choose (n + 1) (k + 1) := ⟨choose n k, e⟩
  rcases h.dvd_mul hd with h1 | h1
  · exact absurd (Nat.le_of_dvd (by omega) h1) (by omega)
  · exact h1
def sumN (f : Nat → Nat) : Nat → Nat
  | 0 => 0
  | n + 1 => sumN f n + f n
theorem sumN_add (f g : Nat → Nat) (n : Nat) : sumN (fun i => f i + g i) n = sumN f n + sumN g n := by
  induction n with
  | zero => rfl
  | succ n ih => simp only [sumN]; rw [ih]; omega
theorem sumN_mul (c : Nat) (f : Nat → Nat) (n : Nat) : sumN (fun i => c * f i) n = c * sumN f n := by
  induction n with
  | zero => simp [sumN]
  | succ n ih => simp only [sumN]; rw [ih, Nat.mul_add]
theorem sumN_shift (f : Nat → Nat) (n : Nat) : sumN f (n + 1) = f 0 + sumN (fun i => f (i + 1)) n := by
  induction n with
  | zero => simp [sumN]
  | succ n ih => rw [sumN, ih]; simp only [sumN]; omega
theorem sumN_congr {f g : Nat → Nat} {n : Nat} (h : ∀ i, i < n → f i = g i) : sumN f n = sumN g n := by
  induction n with
  | zero => rfl
  | succ n ih => simp only [sumN]; rw [ih fun i hi => h i (by omega), h n (by omega)]
theorem binom (a n : Nat) : (a + 1) ^ n = sumN (fun k => choose n k * a ^ k) (n + 1) := by
  induction n with
  | zero => simp [sumN, choose]
  | succ n ih =>
    rw [Nat.pow_succ, ih, Nat.mul_add, Nat.mul_one, sumN_shift (fun k => choose (n + 1) k * a ^ k)]
    have e1 : sumN (fun i => choose (n + 1) (i + 1) * a ^ (i + 1)) (n + 1) = sumN (fun i => a * (choose n i * a ^ i) + choose n (i + 1) * a ^ (i + 1)) (n + 1) := by
      refine sumN_congr fun i _ => ?_
      simp only [choose, Nat.pow_succ, Nat.add_mul]
      rw [Nat.mul_comm (a ^ i) a, Nat.mul_left_comm]
    have e2 : sumN (fun i => choose n (i + 1) * a ^ (i + 1)) (n + 1) + 1 = sumN (fun k => choose n k * a ^ k) (n + 1) := by
      rw [sumN_shift (fun k => choose n k * a ^ k) n, sumN, choose_gt (show n < n + 1 by omega), choose_zero]; simp; omega
    rw [e1, sumN_add, sumN_mul, choose_zero, Nat.mul_comm]
    simp only [Nat.pow_zero, Nat.one_mul]
    omega
theorem dvd_sumN {p : Nat} {f : Nat → Nat} {n : Nat} (h : ∀ i, i < n → p ∣ f i) : p ∣ sumN f n := by
  induction n with
  | zero => exact Nat.dvd_zero p
  | succ n ih => exact Nat.dvd_add (ih fun i hi => h i (by omega)) (h n (by omega))
theorem IsPrime.frob {p : Nat} (h : IsPrime p) (a : Nat) : (a + 1) ^ p % p = (a ^ p + 1) % p := by
  obtain ⟨n, rfl⟩ : ∃ q, p = q + 1 := ⟨p - 1, by have := h.1; omega⟩
  rw [binom, sumN, sumN_shift, choose_self, choose_zero]
  simp only [Nat.pow_zero, Nat.mul_one, Nat.one_mul]
  have hd : (n + 1) ∣ sumN (fun i => choose (n + 1) (i + 1) * a ^ (i + 1)) n := dvd_sumN fun i hi => Nat.dvd_trans (h.dvd_choose (by omega) (by omega)) (Nat.dvd_mul_right _ _)
  obtain ⟨c, hc⟩ := hd
  rw [hc, show 1 + (n + 1) * c + a ^ (n + 1) = (a ^ (n + 1) + 1) + (n + 1) * c by omega, Nat.add_mul_mod_self_left]
theorem IsPrime.fermat {p : Nat} (h : IsPrime p) (a : Nat) : a ^ p % p = a % p := by
  induction a with
  | zero => rw [Nat.zero_pow (by have := h.1; omega)]
  | succ a ih => rw [h.frob, Nat.add_mod, ih, ← Nat.add_mod]
theorem dvd_of_mod_eq {p a b : Nat} (h : a % p = b % p) (hle : b ≤ a) : p ∣ a - b := Nat.dvd_of_mod_eq_zero (Nat.sub_mod_eq_zero_of_mod_eq h)
theorem IsPrime.fermat1 {p a : Nat} (h : IsPrime p) (ha : ¬ p ∣ a) : a ^ (p - 1) % p = 1 := by
  have hp := h.1
  have ha0 : 0 < a := Nat.pos_of_ne_zero fun e => ha (e ▸ Nat.dvd_zero p)
  have e := h.fermat a
  have e2 : a ^ p = a * a ^ (p - 1) := by
    obtain ⟨n, rfl⟩ : ∃ q, p = q + 1 := ⟨p - 1, by omega⟩
    rw [Nat.pow_succ, Nat.mul_comm]; rfl
  rw [e2] at e
  have h1 : 1 ≤ a ^ (p - 1) := Nat.pow_pos ha0
  have hd : p ∣ a * (a ^ (p - 1) - 1) := by
    rw [Nat.mul_sub, Nat.mul_one]
    exact dvd_of_mod_eq e (Nat.le_mul_of_pos_right a h1)
  rcases h.dvd_mul hd with h2 | h2
  · exact absurd h2 ha
  · obtain ⟨c, hc⟩ := h2
    rw [show a ^ (p - 1) = 1 + p * c by omega, Nat.add_mul_mod_self_left, Nat.mod_eq_of_lt (by omega)]
theorem IsPrime.root {p x : Nat} (h : IsPrime p) (hx : x < p) (h1 : x * x % p = 1) : x = 1 ∨ x = p - 1 := by
  have hp := h.1
  have hx0 : 1 ≤ x := Nat.pos_of_ne_zero fun e => by subst e; simp at h1
  have h1' : x * x % p = 1 % p := by rw [h1, Nat.mod_eq_of_lt (by omega)]
  have hd : p ∣ (x - 1) * (x + 1) := by
    have hd := dvd_of_mod_eq h1' (Nat.le_trans hx0 (Nat.le_mul_of_pos_left x hx0))
    have e : (x - 1) * (x + 1) = x * x - 1 := by
      obtain ⟨y, rfl⟩ : ∃ y, x = y + 1 := ⟨x - 1, by omega⟩
      simp only [Nat.add_sub_cancel, Nat.mul_add, Nat.add_mul]; omega
    rwa [e]
  rcases h.dvd_mul hd with h2 | h2
  · left
    rcases Nat.eq_zero_or_pos (x - 1) with h0 | h0
    · omega
    · have := Nat.le_of_dvd h0 h2; omega
  · right
    have := Nat.le_of_dvd (by omega) h2
    omega
end Go.Proofs.Yteelppebdcgbpaa
namespace Go.Proofs.Yteelppebdcgbpaa
set_option linter.unusedSimpArgs false
set_option linter.unusedVariables false
theorem sqs_of_root {p b : Nat} (h : IsPrime p) : ∀ s e, powM b (2 ^ s * e) p = 1 → powM b e p = 1 ∨ sqs b p s e = true := by
  intro s
  induction s with
  | zero => intro e h1; left; simpa using h1
  | succ s ih =>
    intro e h1
    have h2 := ih (2 * e) (by rw [← Nat.mul_assoc, ← Nat.pow_succ]; exact h1)
    unfold sqs
    rcases h2 with h2 | h2
    · rw [← powM_sq] at h2
      rcases h.root (powM_lt (by have := h.1; omega)) h2 with h3 | h3
      · exact .inl h3
      · right; rw [h3]; simp
    · right; rw [h2]; simp
theorem tells_prime {p : Nat} (h : IsPrime p) (b : Nat) : tellsN p b = false := by
  have hp := h.1
  unfold tellsN
  rw [if_neg (by omega)]
  by_cases h2 : p = 2
  · rw [if_pos h2]
  rw [if_neg h2]
  have ho : ¬ p % 2 = 0 := fun h0 => by
    rcases h.2 2 (Nat.dvd_of_mod_eq_zero h0) with e | e <;> omega
  rw [if_neg ho]
  by_cases hb : b % p = 0
  · rw [if_pos hb]
  rw [if_neg hb]
  by_cases h1 : powM b ((p - 1) / 2 ^ twos (p - 1)) p = 1
  · rw [if_pos h1]
  rw [if_neg h1]
  have hf : powM b (2 ^ twos (p - 1) * ((p - 1) / 2 ^ twos (p - 1))) p = 1 := by
    rw [← (twos_spec (show p - 1 ≠ 0 by omega)).1]
    exact h.fermat1 fun hd => hb (Nat.mod_eq_zero_of_dvd hd)
  rcases sqs_of_root h _ _ hf with h3 | h3
  · exact absurd h3 h1
  · rw [h3]; rfl
theorem sqs_pow {m b : Nat} (hm : 2 < m) : ∀ s e, sqs b m s e = true → powM b (2 ^ s * e) m = 1 := by
  intro s
  induction s with
  | zero => intro e h; cases h
  | succ s ih =>
    intro e h
    unfold sqs at h
    rw [Bool.or_eq_true] at h
    rw [Nat.pow_succ, Nat.mul_assoc]
    rcases h with h | h
    · have h0 : powM b e m = m - 1 := by simpa using h
      have h1 : powM b (2 * e) m = 1 := by
        rw [← powM_sq, h0]
        obtain ⟨q, rfl⟩ : ∃ q, m = q + 1 := ⟨m - 1, by omega⟩
        rw [Nat.add_sub_cancel]
        rw [show q * q = 1 + (q + 1) * (q - 1) by
          obtain ⟨r, rfl⟩ : ∃ r, q = r + 1 := ⟨q - 1, by omega⟩
          simp only [Nat.add_sub_cancel, Nat.mul_add, Nat.add_mul]; omega]
        rw [Nat.add_mul_mod_self_left, Nat.mod_eq_of_lt (by omega)]
      have h2 : ∀ k, powM b (k * (2 * e)) m = 1 := by
        intro k
        induction k with
        | zero => rw [Nat.zero_mul]; exact powM_zero (by omega)
        | succ k ihk => rw [Nat.succ_mul, ← powM_add, ihk, h1]; exact Nat.mod_eq_of_lt (by omega)
      exact h2 _
    · exact ih (2 * e) h
theorem tells_no {m b : Nat} (hm : 2 < m) (ho : m % 2 = 1) (h : tellsN m b = false) : b % m = 0 ∨ powM b (m - 1) m = 1 := by
  unfold tellsN at h
  rw [if_neg (by omega), if_neg (by omega), if_neg (by omega)] at h
  by_cases hb : b % m = 0
  · exact .inl hb
  right
  rw [if_neg hb] at h
  have hs := (twos_spec (show m - 1 ≠ 0 by omega)).1
  by_cases h1 : powM b ((m - 1) / 2 ^ twos (m - 1)) m = 1
  · rw [hs]
    generalize (m - 1) / 2 ^ twos (m - 1) = d at *
    have h2 : ∀ k, powM b (k * d) m = 1 := by
      intro k
      induction k with
      | zero => rw [Nat.zero_mul]; exact powM_zero (by omega)
      | succ k ihk => rw [Nat.succ_mul, ← powM_add, ihk, h1]; exact Nat.mod_eq_of_lt (by omega)
    exact h2 _
  · rw [if_neg h1] at h
    rw [hs]
    exact sqs_pow hm _ _ (by simpa using h)
theorem tells_divisor {m b : Nat} (hm : 2 < m) (ho : m % 2 = 1) (hb : 1 < b) (hlt : b < m) (hd : b ∣ m) : tellsN m b = true := by
  cases h : tellsN m b
  · exfalso
    rcases tells_no hm ho h with h0 | h0
    · rw [Nat.mod_eq_of_lt hlt] at h0; omega
    · have h1 : b ∣ b ^ (m - 1) := by
        obtain ⟨q, hq⟩ : ∃ q, m - 1 = q + 1 := ⟨m - 2, by omega⟩
        rw [hq, Nat.pow_succ]; exact Nat.dvd_mul_left b _
      have h2 : b ∣ powM b (m - 1) m := (Nat.dvd_mod_iff hd).2 h1
      rw [h0] at h2
      have := Nat.le_of_dvd (by omega) h2
      omega
  · rfl
theorem sureF_iff {n : Nat} : ∀ f d, 0 < d → 0 < f → n + 3 ≤ f + d → (sureF n f d = true ↔ 2 ≤ n ∧ ∀ e, d ≤ e → e * e ≤ n → n % e ≠ 0) := by
  intro f
  induction f with
  | zero => intro d _ h0 _; omega
  | succ f ih =>
    intro d hd _ hf
    unfold sureF
    by_cases h : d * d ≤ n
    · have hdn : d ≤ n := Nat.le_trans (Nat.le_mul_of_pos_left d hd) h
      rw [if_pos h]
      by_cases h0 : n % d = 0
      · rw [if_pos h0]
        exact ⟨(fun h1 => by cases h1), fun h1 => absurd h0 (h1.2 d (Nat.le_refl d) h)⟩
      · rw [if_neg h0, ih (d + 1) (by omega) (by omega) (by omega)]
        refine ⟨fun h1 => ⟨h1.1, fun e he hee => ?_⟩, fun h1 => ⟨h1.1, fun e he hee => h1.2 e (by omega) hee⟩⟩
        rcases Nat.eq_or_lt_of_le he with rfl | he
        · exact h0
        · exact h1.2 e he hee
    · rw [if_neg h, decide_eq_true_eq]
      refine ⟨fun h1 => ⟨h1, fun e he hee => ?_⟩, fun h1 => h1.1⟩
      exact absurd (Nat.le_trans (Nat.mul_le_mul he he) hee) h
theorem sureN_iff (n : Nat) : sureN n = true ↔ 2 ≤ n ∧ ∀ e, 2 ≤ e → e * e ≤ n → n % e ≠ 0 := sureF_iff (n + 1) 2 (by omega) (by omega) (by omega)
theorem sure_prime {n : Nat} (h : sureN n = true) : IsPrime n := by
  rw [sureN_iff] at h
  refine ⟨h.1, fun d hd => ?_⟩
  obtain ⟨c, hc⟩ := hd
  by_cases h1 : d = 1
  · exact .inl h1
  by_cases h2 : d = n
  · exact .inr h2
  exfalso
  have hd0 : d ≠ 0 := by rintro rfl; omega
  have hc0 : c ≠ 0 := by rintro rfl; omega
  have hc1 : c ≠ 1 := by rintro rfl; omega
  rcases Nat.le_total d c with hle | hle
  · exact h.2 d (by omega) (by rw [hc]; exact Nat.mul_le_mul_left d hle) (by rw [hc]; exact Nat.mul_mod_right d c)
  · exact h.2 c (by omega) (by rw [hc]; exact Nat.mul_le_mul_right c hle) (by rw [hc]; exact Nat.mul_mod_left d c)
theorem unsure {n : Nat} (h2 : 2 ≤ n) (h : sureN n = false) : ∃ d, 2 ≤ d ∧ d * d ≤ n ∧ n % d = 0 := by
  apply Classical.byContradiction
  intro hn
  have : sureN n = true := (sureN_iff n).2 ⟨h2, fun e he hee h0 => hn ⟨e, he, hee, h0⟩⟩
  rw [h] at this; cases this
theorem twos_of {s d : Nat} (hd : d % 2 = 1) : twos (2 ^ s * d) = s ∧ 2 ^ s * d / 2 ^ s = d := by
  refine ⟨?_, Nat.mul_div_cancel_left d (Nat.pow_pos (by omega))⟩
  induction s with
  | zero => rw [Nat.pow_zero, Nat.one_mul]; exact twos_odd hd
  | succ s ih =>
    have e : 2 ^ (s + 1) * d = 2 * (2 ^ s * d) := by rw [Nat.pow_succ, Nat.mul_comm (2 ^ s) 2, Nat.mul_assoc]
    have hp : 0 < 2 ^ s * d := Nat.mul_pos (Nat.pow_pos (by omega)) (by omega)
    rw [e, twos_step (by omega) (by omega), Nat.mul_div_cancel_left _ (by omega), ih]
def rowOk (n b s d : Nat) : Bool := decide (2 < n) && (n % 2 == 1) && (n - 1 == 2 ^ s * d) && (d % 2 == 1) && (b % n != 0) && (b ^ d % n != 1) && !sqs b n s d
theorem rowOk_tells {n b s d : Nat} (h : rowOk n b s d = true) : tellsN n b = true := by
  unfold rowOk at h
  simp only [Bool.and_eq_true, decide_eq_true_eq, beq_iff_eq, bne_iff_ne, ne_eq, Bool.not_eq_true'] at h
  obtain ⟨⟨⟨⟨⟨⟨h1, h2⟩, h3⟩, h4⟩, h5⟩, h6⟩, h7⟩ := h
  obtain ⟨e1, e2⟩ := twos_of (s := s) h4
  unfold tellsN
  rw [if_neg (by omega), if_neg (by omega), if_neg (by omega), if_neg h5, h3, e1, e2, if_neg (show ¬ powM b d n = 1 from h6), h7]
  rfl
end Go.Proofs.Yteelppebdcgbpaa
namespace Go.Proofs.Yteelppebdcgbpaa
set_option linter.unusedSimpArgs false
set_option linter.unusedVariables false
def pspRows : List (Nat × Nat × Nat × Nat) := [(341, 2, 2, 85), (1387, 2, 1, 693), (2047, 3, 1, 1023), (2701, 2, 2, 675), (3277, 3, 2, 819), (4033, 3, 6, 63), (4369, 2, 4, 273), (4681, 3, 3, 585), (5461, 2, 2, 1365), (7957, 2, 2, 1989), (8321, 3, 7, 65), (10261, 2, 2, 2565), (13747, 2, 1, 6873), (13981, 2, 2, 3495), (14491, 2, 1, 7245), (15709, 2, 2, 3927), (18721, 2, 5, 585), (19951, 2, 1, 9975), (23377, 2, 4, 1461), (29341, 3, 2, 7335), (30889, 2, 3, 3861), (31417, 2, 3, 3927), (31609, 2, 3, 3951), (31621, 2, 2, 7905), (35333, 2, 2, 8833), (42799, 3, 1, 21399), (46657, 2, 6, 729), (49141, 3, 2, 12285), (49981, 2, 2, 12495), (60701, 2, 2, 15175), (60787, 2, 1, 30393), (65077, 2, 2, 16269), (65281, 3, 8, 255), (68101, 2, 2, 17025), (75361, 2, 5, 2355), (80581, 3, 2, 20145), (83333, 2, 2, 20833), (85489, 3, 4, 5343), (88357, 3, 2, 22089), (88561, 2, 4, 5535), (90751, 3, 1, 45375), (91001, 2, 3, 11375), (104653, 3, 2, 26163), (113201, 2, 4, 7075), (115921, 2, 4, 7245), (123251, 2, 1, 61625), (129889, 2, 5, 4059), (130561, 3, 9, 255), (137149, 2, 2, 34287), (149281, 2, 5, 4665), (150851, 2, 1, 75425), (158369, 2, 5, 4949), (162193, 2, 4, 10137), (162401, 2, 5, 5075), (164737, 2, 7, 1287), (176149, 2, 2, 44037), (181901, 2, 2, 45475), (188057, 2, 3, 23507), (194221, 2, 2, 48555), (196093, 3, 2, 49023), (215749, 2, 2, 53937), (219781, 2, 2, 54945), (220729, 3, 3, 27591), (226801, 2, 4, 14175), (228241, 2, 4, 14265), (233017, 3, 3, 29127), (241001, 2, 3, 30125), (249841, 2, 4, 15615), (252601, 3, 3, 31575), (253241, 3, 3, 31655), (256999, 3, 1, 128499), (258511, 2, 1, 129255), (264773, 2, 2, 66193), (271951, 3, 1, 135975), (275887, 2, 1, 137943), (276013, 2, 2, 69003), (280601, 3, 3, 35075), (282133, 2, 2, 70533), (284581, 2, 2, 71145), (285541, 2, 2, 71385), (294271, 2, 1, 147135), (294409, 2, 3, 36801), (314821, 3, 2, 78705), (318361, 2, 3, 39795), (323713, 2, 7, 2529), (334153, 2, 3, 41769), (340561, 2, 4, 21285), (341497, 2, 3, 42687), (348161, 2, 12, 85), (357761, 3, 7, 2795), (367081, 2, 3, 45885), (387731, 2, 1, 193865), (390937, 3, 3, 48867), (396271, 2, 1, 198135), (399001, 2, 3, 49875), (410041, 2, 3, 51255), (422659, 2, 1, 211329), (423793, 2, 4, 26487), (435671, 2, 1, 217835), (443719, 2, 1, 221859), (448921, 2, 3, 56115), (452051, 2, 1, 226025), (458989, 3, 2, 114747), (476971, 3, 1, 238485), (481573, 2, 2, 120393), (486737, 3, 4, 30421), (488881, 2, 4, 30555), (489997, 3, 2, 122499), (493697, 2, 7, 3857), (512461, 2, 2, 128115), (513629, 2, 2, 128407), (514447, 3, 1, 257223), (530881, 2, 6, 8295), (534061, 2, 2, 133515), (552721, 2, 4, 34545), (556169, 2, 3, 69521), (563473, 2, 4, 35217), (574561, 2, 5, 17955), (580337, 3, 4, 36271), (582289, 2, 4, 36393), (587861, 2, 2, 146965), (604117, 2, 2, 151029), (611701, 2, 2, 152925), (617093, 2, 2, 154273), (625921, 2, 8, 2445), (635401, 3, 3, 79425), (642001, 2, 4, 40125), (647089, 3, 4, 40443), (653333, 2, 2, 163333), (657901, 2, 2, 164475), (658801, 2, 4, 41175), (665281, 2, 6, 10395), (665333, 2, 2, 166333), (665401, 2, 3, 83175), (672487, 2, 1, 336243), (679729, 2, 4, 42483), (680627, 2, 1, 340313), (683761, 2, 4, 42735), (688213, 2, 2, 172053), (710533, 2, 2, 177633), (721801, 2, 3, 90225), (722201, 2, 3, 90275), (722261, 2, 2, 180565), (729061, 2, 2, 182265), (738541, 2, 2, 184635), (741751, 3, 1, 370875), (742813, 2, 2, 185703), (745889, 2, 5, 23309), (769567, 2, 1, 384783), (769757, 2, 2, 192439), (818201, 3, 3, 102275), (838861, 3, 2, 209715), (841681, 2, 4, 52605), (847261, 2, 2, 211815), (852841, 2, 3, 106605), (873181, 3, 2, 218295), (877099, 3, 1, 438549), (916327, 3, 1, 458163), (934021, 2, 2, 233505), (950797, 2, 2, 237699), (976873, 3, 3, 122109), (983401, 3, 3, 122925)]
def psp (n : Nat) : Bool := pspRows.any fun r => r.1 == n
theorem psp_ok : (pspRows.all fun r => rowOk r.1 r.2.1 r.2.2.1 r.2.2.2 && (r.2.1 == 2 || r.2.1 == 3)) = true := by decide +kernel
theorem psp_tells {n : Nat} (h : psp n = true) : tellsN n 2 = true ∨ tellsN n 3 = true := by
  unfold psp at h
  rw [List.any_eq_true] at h
  obtain ⟨r, hr, e⟩ := h
  have ho := List.all_eq_true.1 psp_ok r hr
  rw [Bool.and_eq_true, Bool.or_eq_true] at ho
  have hn : r.1 = n := by simpa using e
  have ht := rowOk_tells ho.1
  rw [hn] at ht
  rcases ho.2 with h2 | h2
  · left; rwa [show r.2.1 = 2 by simpa using h2] at ht
  · right; rwa [show r.2.1 = 3 by simpa using h2] at ht
def tst (n : Nat) : Bool := Nat.beq (n % 3) 0 || Nat.beq (n % 5) 0 || Nat.beq (n % 7) 0 || Nat.beq (n % 2) 0 || !Nat.beq (2 ^ (n - 1) % n) 1 || psp n
def rng (P : Nat → Bool) (k : Nat) : Nat → Bool := Nat.rec (motive := fun _ => Nat → Bool) (fun lo => P lo) (fun j ih lo => cond (ih lo) (ih (lo + 2 ^ j)) false) k
theorem rng_all {P : Nat → Bool} : ∀ k lo, rng P k lo = true → ∀ i, lo ≤ i → i < lo + 2 ^ k → P i = true := by
  intro k
  induction k with
  | zero => intro lo h i h1 h2; obtain rfl : i = lo := by simp at h2; omega
            exact h
  | succ k ih =>
    intro lo h i h1 h2
    have e : rng P (k + 1) lo = cond (rng P k lo) (rng P k (lo + 2 ^ k)) false := rfl
    rw [e] at h
    cases h3 : rng P k lo
    · rw [h3] at h; cases h
    · rw [h3] at h
      rw [Nat.pow_succ] at h2
      rcases Nat.lt_or_ge i (lo + 2 ^ k) with h4 | h4
      · exact ih lo h3 i h1 h4
      · exact ih (lo + 2 ^ k) h i h4 (by omega)
def inner (d : Nat) : Bool := rng (fun i => Nat.ble 1000003 (d * (d + i)) || tst (d * (d + i))) (Nat.log2 (1000002 / d) + 1) 0
def outer (d : Nat) : Bool := Nat.beq (d % 2) 0 || Nat.beq (d % 3) 0 || Nat.beq (d % 5) 0 || Nat.beq (d % 7) 0 || inner d
def outer' (d : Nat) : Bool := Nat.ble d 10 || outer d
theorem all_a : rng outer' 4 0 = true := by decide +kernel
theorem all_b : rng outer' 4 16 = true := by decide +kernel
end Go.Proofs.Yteelppebdcgbpaa
namespace Go.Proofs.Yteelppebdcgbpaa
set_option linter.unusedSimpArgs false
set_option linter.unusedVariables false
theorem all_c : rng outer' 5 32 = true := by decide +kernel
theorem all_d : rng outer' 6 64 = true := by decide +kernel
theorem all_e : rng outer' 7 128 = true := by decide +kernel
theorem all_f : rng outer' 8 256 = true := by decide +kernel
theorem all_g : rng outer' 9 512 = true := by decide +kernel
theorem outer_all {d : Nat} (h : d < 1024) : outer' d = true := by
  rcases Nat.lt_or_ge d 16 with h1 | h1
  · exact rng_all 4 0 all_a d (by omega) (by omega)
  rcases Nat.lt_or_ge d 32 with h2 | h2
  · exact rng_all 4 16 all_b d (by omega) (by omega)
  rcases Nat.lt_or_ge d 64 with h3 | h3
  · exact rng_all 5 32 all_c d (by omega) (by omega)
  rcases Nat.lt_or_ge d 128 with h4 | h4
  · exact rng_all 6 64 all_d d (by omega) (by omega)
  rcases Nat.lt_or_ge d 256 with h5 | h5
  · exact rng_all 7 128 all_e d (by omega) (by omega)
  rcases Nat.lt_or_ge d 512 with h6 | h6
  · exact rng_all 8 256 all_f d (by omega) (by omega)
  · exact rng_all 9 512 all_g d (by omega) (by omega)
theorem ne_beq {a b : Nat} (h : a ≠ b) : Nat.beq a b = false := by
  cases e : Nat.beq a b
  · rfl
  · exact absurd (Nat.eq_of_beq_eq_true e) h
theorem tst_all {d m : Nat} (hd : 11 ≤ d) (h : d < 1024) (h2 : d % 2 ≠ 0) (h3 : d % 3 ≠ 0) (h5 : d % 5 ≠ 0) (h7 : d % 7 ≠ 0) (hm : d ≤ m) (hn : d * m < 1000003) : tst (d * m) = true := by
  have ho := outer_all h
  unfold outer' outer at ho
  rw [ne_beq h2, ne_beq h3, ne_beq h5, ne_beq h7] at ho
  have hb : Nat.ble d 10 = false := by
    cases e : Nat.ble d 10
    · rfl
    · have := Nat.le_of_ble_eq_true e; omega
  rw [hb] at ho
  simp only [Bool.false_or] at ho
  obtain ⟨i, rfl⟩ : ∃ i, m = d + i := ⟨m - d, by omega⟩
  have hi : i < 0 + 2 ^ (Nat.log2 (1000002 / d) + 1) := by
    have h1 : d + i ≤ 1000002 / d := (Nat.le_div_iff_mul_le (by omega)).2 (by rw [Nat.mul_comm]; omega)
    have h8 : 1000002 / d < 2 ^ (Nat.log2 (1000002 / d) + 1) := Nat.lt_log2_self
    omega
  have h9 := rng_all _ 0 ho i (Nat.zero_le i) hi
  have hb2 : Nat.ble 1000003 (d * (d + i)) = false := by
    cases e : Nat.ble 1000003 (d * (d + i))
    · rfl
    · have := Nat.le_of_ble_eq_true e; omega
  simp only [hb2, Bool.false_or] at h9
  exact h9
end Go.Proofs.Yteelppebdcgbpaa
namespace Go.Proofs.Yteelppebdcgbpaa
set_option linter.unusedSimpArgs false
set_option linter.unusedVariables false
theorem tells_unsure {n : Nat} (hn : n < 1000003) (h2 : 2 ≤ n) (h : sureN n = false) : tellsN n 2 = true ∨ tellsN n 3 = true ∨ tellsN n 5 = true ∨ tellsN n 7 = true := by
  have hs : ∀ p, sureN p = true → n ≠ p := fun p hp e => by rw [e, hp] at h; cases h
  have s2 := hs 2 (by decide)
  have s3 := hs 3 (by decide)
  have s5 := hs 5 (by decide)
  have s7 := hs 7 (by decide)
  by_cases m2 : n % 2 = 0
  · left
    unfold tellsN
    rw [if_neg (by omega), if_neg s2, if_pos m2]
  by_cases m3 : n % 3 = 0
  · exact .inr (.inl (tells_divisor (by omega) (by omega) (by omega) (by omega) (Nat.dvd_of_mod_eq_zero m3)))
  by_cases m5 : n % 5 = 0
  · exact .inr (.inr (.inl (tells_divisor (by omega) (by omega) (by omega) (by omega) (Nat.dvd_of_mod_eq_zero m5))))
  by_cases m7 : n % 7 = 0
  · exact .inr (.inr (.inr (tells_divisor (by omega) (by omega) (by omega) (by omega) (Nat.dvd_of_mod_eq_zero m7))))
  obtain ⟨d, d2, dd, dm⟩ := unsure h2 h
  obtain ⟨m, hm⟩ := Nat.dvd_of_mod_eq_zero dm
  have hdm : d ≤ m := Nat.le_of_mul_le_mul_left (by rw [← hm]; exact dd) (by omega)
  have k : ∀ q, n % q ≠ 0 → d % q ≠ 0 := fun q hq h0 => hq (Nat.mod_eq_zero_of_dvd (Nat.dvd_trans (Nat.dvd_of_mod_eq_zero h0) ⟨m, hm⟩))
  have k2 := k 2 m2
  have k3 := k 3 m3
  have k5 := k 5 m5
  have k7 := k 7 m7
  have hd : d < 1024 := by
    rcases Nat.lt_or_ge d 1024 with h1 | h1
    · exact h1
    · have := Nat.mul_le_mul h1 h1; omega
  have hd11 : 11 ≤ d := by
    apply Nat.le_of_not_lt
    intro hl
    have hc : d = 2 ∨ d = 3 ∨ d = 4 ∨ d = 5 ∨ d = 6 ∨ d = 7 ∨ d = 8 ∨ d = 9 ∨ d = 10 := by clear k2 k3 k5 k7 k m2 m3 m5 m7; omega
    rcases hc with e | e | e | e | e | e | e | e | e <;> subst e <;> first | exact k2 rfl | exact k3 rfl | exact k5 rfl | exact k7 rfl
  have ht := tst_all hd11 hd k2 k3 k5 k7 hdm (by rw [← hm]; exact hn)
  rw [← hm] at ht
  unfold tst at ht
  rw [ne_beq m2, ne_beq m3, ne_beq m5, ne_beq m7] at ht
  simp only [Bool.false_or, Bool.or_eq_true, Bool.not_eq_true'] at ht
  rcases ht with ht | ht
  · left
    cases e : tellsN n 2
    · exfalso
      rcases tells_no (by omega) (by omega) e with h1 | h1
      · rw [Nat.mod_eq_of_lt (by omega)] at h1; omega
      · unfold powM at h1
        rw [h1] at ht; cases ht
    · rfl
  · rcases psp_tells ht with h1 | h1
    · exact .inl h1
    · exact .inr (.inl h1)
theorem prime_sure {n : Nat} (hn : n < 1000003) : primeN n [2, 3, 5, 7] = sureN n := by
  unfold primeN
  by_cases h2 : n < 2
  · rw [if_pos h2]
    cases e : sureN n
    · rfl
    · have := (sureN_iff n).1 e; omega
  · rw [if_neg h2]
    cases e : sureN n
    · rcases tells_unsure hn (by omega) e with h | h | h | h <;> simp [h]
    · have hp := sure_prime e
      simp [tells_prime hp]
end Go.Proofs.Yteelppebdcgbpaa
