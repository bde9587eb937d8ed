/- Texts of this claim, joined: Cax0, Cax1, Ga, Csx0, Csx1, Gc, Qe, Qf. -/
import Derived.Test.YteelppebdcgbpaaProg
import Derived.Below
import Derived.Deep.Draws
import Derived.Deep.AppendLies
import Derived.Maps.AppendAt
import Derived.OwnWalk
import Derived.Laws.BytesArg
import Derived.Laws.MakeOwn
import Derived.Laws.OwnMore
import Derived.Deep.OwnRows
import Derived.Tactics
import Derived.Lib.ConvBytes
import Derived.Laws.Slices
import Derived.WalkKit
import Derived.KernelRfl
import Derived.RowKit3
import Derived.Deep.LoopGhost
import Derived.Deep.QuietTactic
import Derived.BigQuiet
import Derived.WideLaws
import Derived.Deep.DeepCutAuto
import Derived.Deep.CutBlock
import Derived.Deep.RegionHeld3
import Derived.Laws.Rows
import Derived.Lib.AppendStr
import Derived.ArgAppend
import Derived.Laws.IdiomCopy
import Derived.OrdersHeld
import Derived.Laws.BitsLemmas
import Derived.RowKit
import Derived.Test.YteelppebdcgbpaaMC
import Derived.Test.YteelppebdcgbpaaWWords
import Derived.Test.YteelppebdcgbpaaWLast
import Derived.Test.YteelppebdcgbpaaWTab
import Derived.Test.YteelppebdcgbpaaWFour
import Derived.Test.YteelppebdcgbpaaWQPut
import Derived.Test.YteelppebdcgbpaaWApart
import Derived.Test.YteelppebdcgbpaaWArr
import Derived.Test.YteelppebdcgbpaaWZeros
import Derived.Test.YteelppebdcgbpaaWFoot
import Derived.Test.YteelppebdcgbpaaWKept
import Derived.Test.YteelppebdcgbpaaWShare
import Derived.Test.YteelppebdcgbpaaWN
import Derived.Test.YteelppebdcgbpaaWFootNe
import Derived.Test.YteelppebdcgbpaaWAt
import Derived.Test.YteelppebdcgbpaaWEqStruct
import Derived.Test.YteelppebdcgbpaaWRepsOne
import Derived.Test.YteelppebdcgbpaaWInv
import Derived.Test.YteelppebdcgbpaaWInvWords
import Derived.Test.YteelppebdcgbpaaWGuard
import Derived.Test.YteelppebdcgbpaaWNEv
import Derived.Test.YteelppebdcgbpaaWMore

-- Written by this workplace's program wip/tools/given.py out of the translation. Not trusted: Lean checks it.
namespace Go.Proofs.Yteelppebdcgbpaa.Ca
open Go.RowKit Go.Proofs.YteelppebdcgbpaaW.PrintWords Go.Proofs.YteelppebdcgbpaaW.PrintLast Go.Proofs.YteelppebdcgbpaaW.PrintMore
attribute [local go_sem] max2_int min2_int max_two min_two max_three min_three max_four min_four   -- for this text's walks alone
set_option linter.unusedVariables false
set_option linter.unusedSimpArgs false



def errW : Option Int → Value
  | none => .nilIface
  | some c => .iface 0 (.int .i64 c)
theorem errW_none : errW none = .nilIface := rfl
theorem errW_some (c : Int) : errW (some c) = .iface 0 (.int .i64 c) := rfl

-- the values' own types

end Go.Proofs.Yteelppebdcgbpaa.Ca

-- Written by this workplace's program wip/tools/given.py out of the translation. Not trusted: Lean checks it.
namespace Go.Proofs.Yteelppebdcgbpaa.Ca
open Go.RowKit Go.Proofs.YteelppebdcgbpaaW.PrintWords Go.Proofs.YteelppebdcgbpaaW.PrintLast Go.Proofs.YteelppebdcgbpaaW.PrintMore
attribute [local go_sem] max2_int min2_int max_two min_two max_three min_three max_four min_four   -- for this text's walks alone
set_option linter.unusedVariables false
set_option linter.unusedSimpArgs false

/-! ### nat_Trim: function 40 -/
def nat_Trim.f (l0 : List Int) : Option (List Int) := if okN 262144 l0 then some (ofN (nI l0)) else none
theorem nat_Trim.calls (A0 : Option Addr) (c0 : Nat) (l0 : List Int) (r : List Int) (w : World) (hr0 : Kd.C (Kd.int .u64) w A0 l0.length l0) (hc0 : l0.length ≤ c0) (h : nat_Trim.f l0 = some r) :
    Calls Try.prog 40 #[.slice A0 l0.length c0] w fun e w' => ∃ v0_ : Value, e = .returned (v0_) ∧ Kd.R (Kd.int .u64) 35 w' w.heap.size (fun _ => True) v0_ r ∧ Below w.heap.size w w' := by
  exact trim_giv hr0 hc0 h

/-! ### bits_LeadingZeros64: function 50 -/
def bits_LeadingZeros64.f (a0 : Int) : Option (Int) := if 0 ≤ a0 ∧ a0 < 18446744073709551616 then some (64 - (Lib.bitLen a0.toNat : Int)) else none
theorem bits_LeadingZeros64.calls (a0 : Int) (r : Int) (w : World) (h : bits_LeadingZeros64.f a0 = some r) :
    Calls Try.prog 50 #[.int .u64 a0] w fun e w' => e = .returned (.int .i64 r) ∧ Drawn0 w w' := by
  exact lz_giv h

/-! ### nat_Bits: function 24 -/
def nat_Bits.f (l0 : List Int) : Option (Int) := (nat_Trim.f l0).bind fun t101 => (if (t101.length : Int) = 0 then (some 0) else (if 0 ≤ (wrap64 ((t101.length : Int) - 1)) then (if (wrap64 ((t101.length : Int) - 1)) < (t101.length : Int) then ((bits_LeadingZeros64.f (rd t101 (wrap64 ((t101.length : Int) - 1)))).bind fun t105 => (some (wrap64 ((wrap64 (64 * (t101.length : Int))) - t105)))) else (none)) else (none)))
set_option maxHeartbeats 8000000 in
set_option maxRecDepth 100000 in
theorem nat_Bits.calls (A0 : Option Addr) (c0 : Nat) (l0 : List Int) (r : Int) (w : World) (hr0 : Kd.C (Kd.int .u64) w A0 l0.length l0) (hc0 : l0.length ≤ c0) (h : nat_Bits.f l0 = some r) :
    Calls Try.prog 24 #[.slice A0 l0.length c0] w fun e w' => e = .returned (.int .i64 r) ∧ Below w.heap.size w w' := by
  have HR0 := Aside0.mk hr0
  have HC0 := Aside0.mk hc0
  clear hr0 hc0
  have HB := Aside0.mk (Below.refl w.heap.size w)
  have H : ((nat_Trim.f l0).bind fun t101 => (if (t101.length : Int) = 0 then (some 0) else (if 0 ≤ (wrap64 ((t101.length : Int) - 1)) then (if (wrap64 ((t101.length : Int) - 1)) < (t101.length : Int) then ((bits_LeadingZeros64.f (rd t101 (wrap64 ((t101.length : Int) - 1)))).bind fun t105 => (some (wrap64 ((wrap64 (64 * (t101.length : Int))) - t105)))) else (none)) else (none)))) = some r := h
  clear h
  replace H := Option.bind_eq_some_iff.mp H
  obtain ⟨t101, A20, H⟩ := H
  replace H : (if (t101.length : Int) = 0 then (some 0) else (if 0 ≤ (wrap64 ((t101.length : Int) - 1)) then (if (wrap64 ((t101.length : Int) - 1)) < (t101.length : Int) then ((bits_LeadingZeros64.f (rd t101 (wrap64 ((t101.length : Int) - 1)))).bind fun t105 => (some (wrap64 ((wrap64 (64 * (t101.length : Int))) - t105)))) else (none)) else (none))) = some r := H
  have A2 := Aside0.mk A20
  clear A20
  by_cases c3 : (t101.length : Int) = 0
  · rw [if_pos c3] at H
    have c3b0 : ((t101.length : Int) == 0) = true := beq_iff_eq.mpr c3
    have c3b1 : ((t101.length : Int) != 0) = false := bne_eq_false_iff_eq.mpr c3
    clear c3
    obtain rfl := Option.some.inj H
    simp only [Option.some.injEq, Prod.mk.injEq] at H
    obtain ⟨rfl⟩ := H
    go_enter Try.func24, Try.ntmps24
    go_wp2_with (first | ((with_reducible refine gate_callee (f := 40) rfl ?_); refine goesL_ (some 4) rfl rfl Try.func40 (by kernel_rfl) rfl #[.slice A0 l0.length c0] rfl (by (try simp only [List.map_toArray, List.map_cons, List.map_nil]); first | done | rfl | (simp only [List.length_drop, List.length_take]; rfl)) ?_; (with_reducible refine (nat_Trim.calls _ _ l0 t101 _ ?side1 ?side2 A2.out).mono ?_); (case side1 => repeat (first | exact HR0.out | (with_reducible refine Kd.C_alloc ?_ _) | (with_reducible refine Kd.C_drewN ?_ _) | (with_reducible refine Kd.C_drew ?_))); (case side2 => exact HC0.out); rintro e w4 ⟨v102, rfl, ho0, hb⟩; refine ⟨_, rfl, ?_⟩; have n0_ := Aside0.mk (Kd.R_lower ho0 (below_size (by repeat (first | (with_reducible first | exact HB.out | apply below_alloc | apply pw_below_drewN | apply below_drew1) | exact HB.out)))); have n1_ := Aside0.mk (below_step (by repeat (first | (with_reducible first | exact HB.out | apply below_alloc | apply pw_below_drewN | apply below_drew1) | exact HB.out)) hb); clear HB; have HO103 := n0_; have HB := n1_; clear n0_ n1_; (try clear hb); (try clear hb2); (try clear hk); (try clear hi); (try clear ho0); obtain ⟨Ao5, co5, eo5⟩ := Kd.R_slice HO103.out; subst eo5))
    go_ret
    exact ⟨by first | rfl | (simp [errW_none, errW_some] <;> rfl) | (simp [*, errW_none, errW_some] <;> rfl), by repeat (first | (with_reducible first | exact HB.out | apply below_alloc | apply pw_below_drewN | apply below_drew1) | exact HB.out)⟩
  · rw [if_neg c3] at H
    have c3b0 : ((t101.length : Int) == 0) = false := beq_eq_false_iff_ne.mpr c3
    have c3b1 : ((t101.length : Int) != 0) = true := bne_iff_ne.mpr c3
    have c3b2 : ¬ (t101 = []) := fun h_ => c3 (by rw [h_]; rfl)
    obtain ⟨ji6, hji6⟩ : ∃ j_ : Int, (wrap64 ((t101.length : Int) - 1)) = j_ := ⟨_, rfl⟩
    replace H : (if 0 ≤ (ji6) then (if (ji6) < (t101.length : Int) then ((bits_LeadingZeros64.f (rd t101 (ji6))).bind fun t105 => (some (wrap64 ((wrap64 (64 * (t101.length : Int))) - t105)))) else (none)) else (none)) = some r := by first | (rw [hji6] at H; exact H) | (simp only [hji6] at H ⊢; exact H)
    (try rw [hji6] at A2)
    have hji6w : (IntKind.i64.wrap ((t101.length : Int) - 1)) = ji6 := (i64_w _).trans hji6
    by_cases c7 : 0 ≤ (ji6)
    · rw [if_pos c7] at H
      have c7b0 : decide (0 ≤ (ji6)) = true := decide_eq_true c7
      clear c7
      by_cases c8 : (ji6) < (t101.length : Int)
      · rw [if_pos c8] at H
        have c8b0 : decide ((ji6) < (t101.length : Int)) = true := decide_eq_true c8
        clear c8
        replace H := Option.bind_eq_some_iff.mp H
        obtain ⟨t105, A90, H⟩ := H
        replace H : (some (wrap64 ((wrap64 (64 * (t101.length : Int))) - t105))) = some r := H
        have A9 := Aside0.mk A90
        clear A90
        obtain rfl := Option.some.inj H
        simp only [Option.some.injEq, Prod.mk.injEq] at H
        obtain ⟨rfl⟩ := H
        go_enter Try.func24, Try.ntmps24
        go_wp2_with (first | ((with_reducible refine gate_callee (f := 40) rfl ?_); refine goesL_ (some 4) rfl rfl Try.func40 (by kernel_rfl) rfl #[.slice A0 l0.length c0] rfl (by (try simp only [List.map_toArray, List.map_cons, List.map_nil]); first | done | rfl | (simp only [List.length_drop, List.length_take]; rfl)) ?_; (with_reducible refine (nat_Trim.calls _ _ l0 t101 _ ?side1 ?side2 A2.out).mono ?_); (case side1 => repeat (first | exact HR0.out | (with_reducible refine Kd.C_alloc ?_ _) | (with_reducible refine Kd.C_drewN ?_ _) | (with_reducible refine Kd.C_drew ?_))); (case side2 => exact HC0.out); rintro e w10 ⟨v102, rfl, ho0, hb⟩; refine ⟨_, rfl, ?_⟩; have n0_ := Aside0.mk (Kd.R_lower ho0 (below_size (by repeat (first | (with_reducible first | exact HB.out | apply below_alloc | apply pw_below_drewN | apply below_drew1) | exact HB.out)))); have n1_ := Aside0.mk (below_step (by repeat (first | (with_reducible first | exact HB.out | apply below_alloc | apply pw_below_drewN | apply below_drew1) | exact HB.out)) hb); clear HB; have HO103 := n0_; have HB := n1_; clear n0_ n1_; (try clear hb); (try clear hb2); (try clear hk); (try clear hi); (try clear ho0); obtain ⟨Ao11, co11, eo11⟩ := Kd.R_slice HO103.out; subst eo11; have p104 : 0 ≤ ((ji6) : Int) := of_decide_eq_true (by first | (with_reducible assumption) | assumption); have q104 : (ji6) < (t101.length : Int) := of_decide_eq_true (by first | (with_reducible assumption) | assumption); obtain ⟨ad104, e104, hx104_0⟩ := Kd.at_int (Kd.R_reads' HO103.out).2.2 (ji6) p104 q104; cases e104; replace p104 := eq_true p104; replace q104 := eq_true q104) | ((with_reducible refine gate_callee (f := 50) rfl ?_); refine goesL_ (some 17) rfl rfl Try.func50 (by kernel_rfl) rfl #[.int .u64 (rd t101 (ji6))] rfl (by (try simp only [List.map_toArray, List.map_cons, List.map_nil]); first | done | (simp only [hji6]; rfl) | rfl | (simp only [List.length_drop, List.length_take]; rfl)) ?_; (with_reducible refine (bits_LeadingZeros64.calls (rd t101 (ji6)) t105 _ A9.out).mono ?_); rintro e w' ⟨rfl, ⟨nd, rfl⟩⟩; refine ⟨_, rfl, ?_⟩))
        go_ret
        exact ⟨by first | rfl | (simp [errW_none, errW_some] <;> rfl) | (simp only [← hji6]; first | rfl | (simp [errW_none, errW_some] <;> rfl)) | (simp [*, errW_none, errW_some] <;> rfl), by repeat (first | (with_reducible first | exact HB.out | apply below_alloc | apply pw_below_drewN | apply below_drew1) | exact HB.out)⟩
      · rw [if_neg c8] at H
        exact absurd H (by simp)
    · rw [if_neg c7] at H
      exact absurd H (by simp)

/-! ### nat_Bit: function 42 -/
def nat_Bit.f (l0 : List Int) (a1 : Int) : Option (Int) := if a1 < 0 then (some 0) else (if (wrap64 (Int.tdiv a1 64)) ≥ (l0.length : Int) then (some 0) else (if 0 ≤ (wrap64 (Int.tdiv a1 64)) then (if (wrap64 (Int.tdiv a1 64)) < (l0.length : Int) then (if 0 ≤ (Int.tmod a1 64) then (some (wrap64 (Go.bits .and .u64 (shr .u64 (rd l0 (wrap64 (Int.tdiv a1 64))) (Int.tmod a1 64)) 1))) else (none)) else (none)) else (none)))
set_option maxHeartbeats 8000000 in
set_option maxRecDepth 100000 in
theorem nat_Bit.calls (A0 : Option Addr) (c0 : Nat) (l0 : List Int) (a1 : Int) (r : Int) (w : World) (hr0 : Kd.C (Kd.int .u64) w A0 l0.length l0) (hc0 : l0.length ≤ c0) (h : nat_Bit.f l0 a1 = some r) :
    Calls Try.prog 42 #[.slice A0 l0.length c0, .int .i64 a1] w fun e w' => e = .returned (.int .i64 r) ∧ Drawn0 w w' := by
  have HR0 := Aside0.mk hr0
  have HC0 := Aside0.mk hc0
  clear hr0 hc0
  have H : (if a1 < 0 then (some 0) else (if (wrap64 (Int.tdiv a1 64)) ≥ (l0.length : Int) then (some 0) else (if 0 ≤ (wrap64 (Int.tdiv a1 64)) then (if (wrap64 (Int.tdiv a1 64)) < (l0.length : Int) then (if 0 ≤ (Int.tmod a1 64) then (some (wrap64 (Go.bits .and .u64 (shr .u64 (rd l0 (wrap64 (Int.tdiv a1 64))) (Int.tmod a1 64)) 1))) else (none)) else (none)) else (none)))) = some r := h
  clear h
  by_cases c3 : a1 < 0
  · rw [if_pos c3] at H
    have c3b0 : decide (a1 < 0) = true := decide_eq_true c3
    clear c3
    obtain rfl := Option.some.inj H
    simp only [Option.some.injEq, Prod.mk.injEq] at H
    obtain ⟨rfl⟩ := H
    go_enter Try.func42, Try.ntmps42
    go_wp2
    go_ret
    exact ⟨by first | rfl | (simp; done) | (simp [*]; done), by repeat (first | exact Drawn0.refl _ | apply Drawn0.step)⟩
  · rw [if_neg c3] at H
    have c3b0 : decide (a1 < 0) = false := decide_eq_false c3
    clear c3
    by_cases c4 : (wrap64 (Int.tdiv a1 64)) ≥ (l0.length : Int)
    · rw [if_pos c4] at H
      have c4b0 : decide ((l0.length : Int) ≤ (wrap64 (Int.tdiv a1 64))) = true := decide_eq_true c4
      clear c4
      obtain rfl := Option.some.inj H
      simp only [Option.some.injEq, Prod.mk.injEq] at H
      obtain ⟨rfl⟩ := H
      go_enter Try.func42, Try.ntmps42
      go_wp2
      go_ret
      exact ⟨by first | rfl | (simp; done) | (simp [*]; done), by repeat (first | exact Drawn0.refl _ | apply Drawn0.step)⟩
    · rw [if_neg c4] at H
      have c4b0 : decide ((l0.length : Int) ≤ (wrap64 (Int.tdiv a1 64))) = false := decide_eq_false c4
      clear c4
      obtain ⟨ji5, hji5⟩ : ∃ j_ : Int, (wrap64 (Int.tdiv a1 64)) = j_ := ⟨_, rfl⟩
      replace H : (if 0 ≤ (ji5) then (if (ji5) < (l0.length : Int) then (if 0 ≤ (Int.tmod a1 64) then (some (wrap64 (Go.bits .and .u64 (shr .u64 (rd l0 (ji5)) (Int.tmod a1 64)) 1))) else (none)) else (none)) else (none)) = some r := by first | (rw [hji5] at H; exact H) | (simp only [hji5] at H ⊢; exact H)
      (try rw [hji5] at c4b0)
      have hji5w : (IntKind.i64.wrap (Int.tdiv a1 64)) = ji5 := (i64_w _).trans hji5
      by_cases c6 : 0 ≤ (ji5)
      · rw [if_pos c6] at H
        have c6b0 : decide (0 ≤ (ji5)) = true := decide_eq_true c6
        clear c6
        by_cases c7 : (ji5) < (l0.length : Int)
        · rw [if_pos c7] at H
          have c7b0 : decide ((ji5) < (l0.length : Int)) = true := decide_eq_true c7
          clear c7
          obtain ⟨ji8, hji8⟩ : ∃ j_ : Int, (Int.tmod a1 64) = j_ := ⟨_, rfl⟩
          replace H : (if 0 ≤ (ji8) then (some (wrap64 (Go.bits .and .u64 (shr .u64 (rd l0 (ji5)) (ji8)) 1))) else (none)) = some r := by first | (rw [hji8] at H; exact H) | (simp only [hji8] at H ⊢; exact H)
          by_cases c9 : 0 ≤ (ji8)
          · rw [if_pos c9] at H
            have c9b0 := eq_true c9
            have c9b1 : decide (0 ≤ (ji8)) = true := decide_eq_true c9
            clear c9
            obtain ⟨ji10, hji10⟩ : ∃ j_ : Int, (shr .u64 (rd l0 (ji5)) (ji8)) = j_ := ⟨_, rfl⟩
            replace H : (some (wrap64 (Go.bits .and .u64 (ji10) 1))) = some r := by first | (rw [hji10] at H; exact H) | (simp only [hji10] at H ⊢; exact H)
            have hji10_ : ((rd l0 (ji5)) / 2 ^ min (ji8).toNat 64) = ji10 := hji10
            have hji10z : (ji8) ≤ 64 → ((rd l0 (ji5)) / 2 ^ (ji8).toNat) = ji10 := shr_small hji10
            obtain rfl := Option.some.inj H
            simp only [Option.some.injEq, Prod.mk.injEq] at H
            obtain ⟨rfl⟩ := H
            have p106 : 0 ≤ ((ji5) : Int) := of_decide_eq_true (by first | (with_reducible assumption) | assumption)
            have q106 : (ji5) < (l0.length : Int) := of_decide_eq_true (by first | (with_reducible assumption) | assumption)
            obtain ⟨ad106, e106, hx106_0⟩ := Kd.at_int HR0.out (ji5) p106 q106
            cases e106
            replace p106 := eq_true p106
            replace q106 := eq_true q106
            go_enter Try.func42, Try.ntmps42
            go_wp2
            go_ret
            exact ⟨by first | rfl | (simp; done) | (simp only [← hji5, ← hji8, ← hji10] <;> (first | rfl | simp)) | (simp [*]; done), by repeat (first | exact Drawn0.refl _ | apply Drawn0.step)⟩
          · rw [if_neg c9] at H
            exact absurd H (by simp)
        · rw [if_neg c7] at H
          exact absurd H (by simp)
      · rw [if_neg c6] at H
        exact absurd H (by simp)

end Go.Proofs.Yteelppebdcgbpaa.Ca

/- What the printed functions Bits, Bit, Read and Write of package nat answer: plain laws. -/
namespace Go.Proofs.Yteelppebdcgbpaa
set_option linter.unusedSimpArgs false
set_option linter.unusedVariables false
open Go.RowKit Go.Proofs.YteelppebdcgbpaaW.PrintWords Go.Proofs.YteelppebdcgbpaaW.PrintLast Go.Proofs.YteelppebdcgbpaaW.PrintMore

theorem blen_eq {x k : Nat} (h0 : 2 ^ k ≤ x) (h1 : x < 2 ^ (k + 1)) : blen x = k + 1 := by
  refine Nat.le_antisymm (blen_le.2 h1) ?_
  rcases Nat.lt_or_ge k (blen x) with h | h
  · exact h
  · have := blen_le.1 h; omega
/-- the highest limb tells how many binary digits there are -/
theorem blen_top {x : Nat} (hx : x ≠ 0) : ∃ k, Lib.bitLen (gd (limbs x) (ln x - 1)) = k + 1 ∧ k < 64 ∧ blen x = 64 * (ln x - 1) + k + 1 := by
  have hl1 : ln x ≠ 0 := by have := ln_pos hx; omega
  have hll : (limbs x).length = ln x := rfl
  have htop0 : gd (limbs x) (ln x - 1) ≠ 0 := by
    refine limbs_last x _ ?_
    rw [List.getLast?_eq_getElem?]; exact gd_get (by omega)
  obtain ⟨k, hk, hk64, hk1, hk2⟩ := bitLen_spec (gd (limbs x) (ln x - 1)) htop0 ((limbs_b64 x).gd _)
  refine ⟨k, hk, hk64, ?_⟩
  obtain ⟨m, hm⟩ : ∃ m, ln x - 1 = m := ⟨_, rfl⟩
  have hlm : ln x = m + 1 := by omega
  rw [hm] at htop0 hk hk1 hk2
  rw [hm]
  have s := nv_split (limbs x) m (by omega)
  rw [nv_limbs, nv_drop (by omega), List.drop_eq_nil_of_le (by omega)] at s
  simp only [nv, Nat.mul_zero, Nat.add_zero] at s
  have hlo := nv_take_lt (limbs_b64 x) m
  generalize gd (limbs x) m = t at *
  generalize nv ((limbs x).take m) = lo at *
  rw [wpow] at s hlo
  have e1 : 2 ^ (64 * m + k) = 2 ^ (64 * m) * 2 ^ k := Nat.pow_add _ _ _
  have e2 : 2 ^ (64 * m + k + 1) = 2 ^ (64 * m) * 2 ^ (k + 1) := by rw [Nat.add_assoc, Nat.pow_add]
  have h1 := Nat.mul_le_mul_left (2 ^ (64 * m)) hk1
  have h2 := Nat.mul_le_mul_left (2 ^ (64 * m)) hk2
  have h2' : 2 ^ (64 * m) * (t + 1) ≤ 2 ^ (64 * m) * 2 ^ (k + 1) := h2
  rw [Nat.mul_add] at h2'
  exact blen_eq (by omega) (by omega)
theorem rd_ofN (x j : Nat) (h : j < ln x) : rd (ofN x) (j : Int) = ((gd (limbs x) j : Nat) : Int) := by
  rw [rd_getD, List.getD_eq_getElem?_getD]
  unfold ofN
  rw [List.getElem?_map, gd_get (show j < (limbs x).length from h)]; rfl
theorem rd_toN {m : Nat} {l : List Int} (h : okN m l) {j : Nat} (hj : j < l.length) : rd l (j : Int) = ((gd (toN l) j : Nat) : Int) := by
  rw [rd_getD, List.getD_eq_getElem?_getD, List.getElem?_eq_getElem hj, Option.getD_some]
  have := h.2 _ (List.getElem_mem hj)
  have e : gd (toN l) j = l[j].toNat := gd_some (by simp [toN, List.getElem?_eq_getElem hj])
  rw [e]; omega

theorem bits_pure {l0 : List Int} (h : okN 262144 l0) : Ca.nat_Bits.f l0 = some ((blen (nI l0) : Nat) : Int) := by
  have hln := ln_nI h
  unfold Ca.nat_Bits.f Ca.nat_Trim.f
  rw [if_pos h, Option.bind_some, ofN_length]
  by_cases h0 : nI l0 = 0
  · rw [h0, ln_zero, blen_zero]; rfl
  · have h1 : ln (nI l0) ≠ 0 := by have := ln_pos h0; omega
    have e : wrap64 ((ln (nI l0) : Int) - 1) = ((ln (nI l0) - 1 : Nat) : Int) := by rw [wr (by omega) (by omega)]; omega
    obtain ⟨k, hk, hk64, hb⟩ := blen_top h0
    have ht := (limbs_b64 (nI l0)).gd (ln (nI l0) - 1)
    rw [if_neg (by omega), e, if_pos (by omega), if_pos (by omega), rd_ofN _ _ (by omega)]
    unfold Ca.bits_LeadingZeros64.f
    rw [if_pos (by omega), Option.bind_some, Int.toNat_natCast, hk, hb]
    rw [wr (x := 64 * (ln (nI l0) : Int)) (by omega) (by omega), wr (by omega) (by omega)]
    congr 1; omega

/-- some digits of a limb are the number's -/
theorem limb_part (xs : List Nat) (h : B64 xs) (q r w : Nat) (hr : r + w ≤ 64) : gd xs q / 2 ^ r % 2 ^ w = nv xs / 2 ^ (64 * q + r) % 2 ^ w := by
  have e1 : nv xs / 2 ^ (64 * q) = nv (xs.drop q) := by rw [nv_drop_div h, wpow]
  have e2 : nv xs / 2 ^ (64 * q + r) = nv (xs.drop q) / 2 ^ r := by
    rw [← e1, Nat.div_div_eq_div_mul, ← Nat.pow_add]
  rw [e2, nv_drop_any]
  generalize nv (xs.drop (q + 1)) = Y
  generalize gd xs q = x
  have e3 : 18446744073709551616 * Y = 2 ^ r * (2 ^ w * (2 ^ (64 - r - w) * Y)) := by
    rw [← Nat.mul_assoc, ← Nat.mul_assoc, show 2 ^ r * 2 ^ w * 2 ^ (64 - r - w) = 18446744073709551616 by rw [← Nat.pow_add, ← Nat.pow_add, show r + w + (64 - r - w) = 64 by omega]]
  rw [e3, Nat.add_mul_div_left _ _ (Nat.pow_pos (by omega)), Nat.add_mul_mod_self_left]

/-- a limb's binary digit is the number's -/
theorem limb_bit (xs : List Nat) (h : B64 xs) (i : Nat) : gd xs (i / 64) / 2 ^ (i % 64) % 2 = nv xs / 2 ^ i % 2 := by
  have e1 : nv xs / 2 ^ (64 * (i / 64)) = nv (xs.drop (i / 64)) := by rw [nv_drop_div h, wpow]
  have e2 : nv xs / 2 ^ i = nv (xs.drop (i / 64)) / 2 ^ (i % 64) := by
    rw [← e1, Nat.div_div_eq_div_mul, ← Nat.pow_add, show 64 * (i / 64) + i % 64 = i by omega]
  rw [e2, nv_drop_any]
  have hr : i % 64 < 64 := Nat.mod_lt _ (by omega)
  generalize i % 64 = r at *
  generalize nv (xs.drop (i / 64 + 1)) = Y
  generalize gd xs (i / 64) = x
  have e3 : 18446744073709551616 * Y = 2 ^ r * (2 * (2 ^ (63 - r) * Y)) := by
    rw [← Nat.mul_assoc, ← Nat.mul_assoc, show 2 ^ r * 2 * 2 ^ (63 - r) = 18446744073709551616 by rw [← Nat.pow_succ, ← Nat.pow_add, show r.succ + (63 - r) = 64 by omega]]
  rw [e3, Nat.add_mul_div_left _ _ (Nat.pow_pos (by omega))]; omega

theorem bit_pure {l0 : List Int} (a1 : Int) (h : okN 262144 l0) (ha : a1 ≤ 9223372036854775807) : Ca.nat_Bit.f l0 a1 = some (if a1 < 0 then 0 else ((nI l0 / 2 ^ a1.toNat % 2 : Nat) : Int)) := by
  unfold Ca.nat_Bit.f
  by_cases h0 : a1 < 0
  · rw [if_pos h0, if_pos h0]
  · obtain ⟨i, rfl⟩ : ∃ i : Nat, a1 = i := ⟨a1.toNat, by omega⟩
    have hl := h.1
    have e : Int.tdiv (i : Int) 64 = ((i / 64 : Nat) : Int) := by rw [Int.tdiv_eq_ediv_of_nonneg (by omega)]; omega
    have e2 : Int.tmod (i : Int) 64 = ((i % 64 : Nat) : Int) := by rw [Int.tmod_eq_emod_of_nonneg (by omega)]; omega
    have hr : i % 64 < 64 := Nat.mod_lt _ (by omega)
    rw [if_neg h0, if_neg h0, e, e2, wr (by omega) (by omega), Int.toNat_natCast]
    have hb := limb_bit (toN l0) h.b64 i
    unfold nI
    by_cases h1 : i / 64 < l0.length
    · rw [if_neg (by omega), if_pos (by omega), if_pos (by omega), if_pos (by omega), rd_toN h h1]
      have hg := h.b64.gd (i / 64)
      have es : shr .u64 ((gd (toN l0) (i / 64) : Nat) : Int) ((i % 64 : Nat) : Int) = ((gd (toN l0) (i / 64) / 2 ^ (i % 64) : Nat) : Int) := by
        unfold shr
        rw [Int.toNat_natCast, show min (i % 64) IntKind.u64.bits = i % 64 from Nat.min_eq_left (by have : IntKind.u64.bits = 64 := rfl; omega)]
        push_cast; rfl
      rw [es, nv_bits_and _ (Nat.lt_of_le_of_lt (Nat.div_le_self _ _) hg), hb, wr (by omega) (by omega)]
    · rw [if_pos (by omega)]
      rw [gd_ge (by rw [toN_length]; omega)] at hb
      simp at hb
      rw [← hb]; rfl
end Go.Proofs.Yteelppebdcgbpaa

-- Written by this workplace's program wip/tools/given.py out of the translation. Not trusted: Lean checks it.
namespace Go.Proofs.Yteelppebdcgbpaa.Cs
open Go.RowKit Go.Proofs.YteelppebdcgbpaaW.PrintWords Go.Proofs.YteelppebdcgbpaaW.PrintLast Go.Proofs.YteelppebdcgbpaaW.PrintMore
attribute [local go_sem] max2_int min2_int max_two min_two max_three min_three max_four min_four   -- for this text's walks alone
set_option linter.unusedVariables false
set_option linter.unusedSimpArgs false



def errW : Option Int → Value
  | none => .nilIface
  | some c => .iface 0 (.int .i64 c)
theorem errW_none : errW none = .nilIface := rfl
theorem errW_some (c : Int) : errW (some c) = .iface 0 (.int .i64 c) := rfl

-- the values' own types

end Go.Proofs.Yteelppebdcgbpaa.Cs

-- Written by this workplace's program wip/tools/given.py out of the translation. Not trusted: Lean checks it.
namespace Go.Proofs.Yteelppebdcgbpaa.Cs
open Go.RowKit Go.Proofs.YteelppebdcgbpaaW.PrintWords Go.Proofs.YteelppebdcgbpaaW.PrintLast Go.Proofs.YteelppebdcgbpaaW.PrintMore
attribute [local go_sem] max2_int min2_int max_two min_two max_three min_three max_four min_four   -- for this text's walks alone
set_option linter.unusedVariables false
set_option linter.unusedSimpArgs false

/-! ### clepsydraref01_Same: function 17 -/
def clepsydraref01_Same.l0 : Nat → List Int → List Int → Int → Option (Bool)
  | 0, _, _, _ => none
  | k + 1, x0, x1, x5 => if x5 < (x0.length : Int) then (if 0 ≤ x5 then (if x5 < (x1.length : Int) then (if (rd x0 x5) = (rd x1 x5) then (clepsydraref01_Same.l0 k x0 x1 (wrap64 (x5 + 1))) else (some false)) else (none)) else (none)) else (some true)
def clepsydraref01_Same.f (k : Nat) (l0 : List Int) (l1 : List Int) : Option (Bool) := if (l0.length : Int) = (l1.length : Int) then (clepsydraref01_Same.l0 k l0 l1 0) else (some false)
theorem clepsydraref01_Same.mono_l : ∀ k, (∀ y0 y1 y2, LeO (clepsydraref01_Same.l0 k y0 y1 y2) (clepsydraref01_Same.l0 (k + 1) y0 y1 y2))
  | 0 => fun _ _ _ r h => by simp [clepsydraref01_Same.l0] at h
  | k + 1 => by
    have ih0 := clepsydraref01_Same.mono_l k
    · intro y0 y1 y2
      unfold clepsydraref01_Same.l0
      repeat' first
      | (with_reducible exact ih0 _ _ _)
      | (with_reducible exact LeO.refl _)
      | (with_reducible exact LeO.none _)
      | (with_reducible refine LeO.ite ?_ ?_)
      | (with_reducible refine LeO.bind ?_ (fun _ => ?_))
      | exact ih0 _ _ _
      | exact LeO.none _
      | refine LeO.ite ?_ ?_
      | refine LeO.bind ?_ (fun _ => ?_)
theorem clepsydraref01_Same.mono : ∀ a0 a1 k, LeO (clepsydraref01_Same.f k a0 a1) (clepsydraref01_Same.f (k + 1) a0 a1) := by
  intro a0 a1 k
  have ih0 := clepsydraref01_Same.mono_l k
  unfold clepsydraref01_Same.f
  repeat' first
      | (with_reducible exact ih0 _ _ _)
      | (with_reducible exact LeO.refl _)
      | (with_reducible exact LeO.none _)
      | (with_reducible refine LeO.ite ?_ ?_)
      | (with_reducible refine LeO.bind ?_ (fun _ => ?_))
      | exact ih0 _ _ _
      | exact LeO.none _
      | refine LeO.ite ?_ ?_
      | refine LeO.bind ?_ (fun _ => ?_)
set_option maxHeartbeats 8000000 in
set_option maxRecDepth 100000 in
theorem clepsydraref01_Same.calls (k : Nat) (A0 : Option Addr) (c0 : Nat) (l0 : List Int) (A1 : Option Addr) (c1 : Nat) (l1 : List Int) (r : Bool) (w : World) (hr0 : Kd.C (Kd.int .u64) w A0 l0.length l0) (hc0 : l0.length ≤ c0) (hr1 : Kd.C (Kd.int .u64) w A1 l1.length l1) (hc1 : l1.length ≤ c1) (h : clepsydraref01_Same.f k l0 l1 = some r) :
    Calls Try.prog 17 #[.slice A0 l0.length c0, .slice A1 l1.length c1] w fun e w' => e = .returned (.bool r) ∧ Drawn0 w w' := by
  have HR0 := Aside0.mk hr0
  have HC0 := Aside0.mk hc0
  clear hr0 hc0
  have HR1 := Aside0.mk hr1
  have HC1 := Aside0.mk hc1
  clear hr1 hc1
  have H : (if (l0.length : Int) = (l1.length : Int) then (clepsydraref01_Same.l0 k l0 l1 0) else (some false)) = some r := h
  clear h
  by_cases c3 : (l0.length : Int) = (l1.length : Int)
  · rw [if_pos c3] at H
    have c3b0 : ((l0.length : Int) == (l1.length : Int)) = true := beq_iff_eq.mpr c3
    have c3b1 : ((l0.length : Int) != (l1.length : Int)) = false := bne_eq_false_iff_eq.mpr c3
    have c3b2 : (l0.length == l1.length) = true := by first | simpa using c3 | (simp at c3 ⊢; omega)
    clear c3
    have H' := Aside0.mk H
    clear H
    go_enter Try.func17, Try.ntmps17
    go_wp2
    repeat (go_quiet (fail); try go_wp2)
    go_loopg [5] k (fun kq v5 w' => ∃ (x5_1 : Int), v5 = .int .i64 x5_1 ∧ Aside0 (clepsydraref01_Same.l0 kq l0 l1 x5_1 = some r) ∧ Aside0 (kq ≤ k) ∧ Drawn0 w w')
    case atStart => exact ⟨(0), (by first | rfl | (simp; done) | (simp [*]; done)), H', ⟨Nat.le_refl _⟩, by repeat (first | exact Drawn0.refl _ | apply Drawn0.step)⟩
    case round =>
      clear H'
      try clear c1
      try clear p2
      try clear c3
      try clear c3b0
      try clear c3b1
      try clear c3b2
      obtain ⟨x5_1, rfl, HA, HK1, ⟨m1, rfl⟩⟩ := hrel
      cases gk with
      | zero => exact absurd HA.out (by simp [clepsydraref01_Same.l0])
      | succ k1 =>
        have H := HA.out
        clear HA
        simp only [clepsydraref01_Same.l0] at H
        by_cases c4 : x5_1 < (l0.length : Int)
        · rw [if_pos c4] at H
          have c4b0 : decide (x5_1 < (l0.length : Int)) = true := decide_eq_true c4
          clear c4
          by_cases c5 : 0 ≤ x5_1
          · rw [if_pos c5] at H
            have c5b0 : decide (0 ≤ x5_1) = true := decide_eq_true c5
            clear c5
            by_cases c6 : x5_1 < (l1.length : Int)
            · rw [if_pos c6] at H
              have c6b0 : decide (x5_1 < (l1.length : Int)) = true := decide_eq_true c6
              clear c6
              by_cases c7 : (rd l0 x5_1) = (rd l1 x5_1)
              · rw [if_pos c7] at H
                have c7b0 : ((rd l0 x5_1) == (rd l1 x5_1)) = true := beq_iff_eq.mpr c7
                have c7b1 : ((rd l0 x5_1) != (rd l1 x5_1)) = false := bne_eq_false_iff_eq.mpr c7
                clear c7
                have H' := Aside0.mk H
                clear H
                have p101 : 0 ≤ (x5_1 : Int) := of_decide_eq_true (by first | (with_reducible assumption) | assumption)
                have q101 : x5_1 < (l0.length : Int) := of_decide_eq_true (by first | (with_reducible assumption) | assumption)
                obtain ⟨ad101, e101, hx101_0⟩ := Kd.at_int HR0.out x5_1 p101 q101
                cases e101
                replace p101 := eq_true p101
                replace q101 := eq_true q101
                have p102 : 0 ≤ (x5_1 : Int) := of_decide_eq_true (by first | (with_reducible assumption) | assumption)
                have q102 : x5_1 < (l1.length : Int) := of_decide_eq_true (by first | (with_reducible assumption) | assumption)
                obtain ⟨ad102, e102, hx102_0⟩ := Kd.at_int HR1.out x5_1 p102 q102
                cases e102
                replace p102 := eq_true p102
                replace q102 := eq_true q102
                go_wp2
                repeat (go_quiet (fail); try go_wp2)
                go_roundg k1
                case measure => have := HK1.out; omega
                case rel => exact ⟨(wrap64 (x5_1 + 1)), (by first | rfl | (simp; done) | (simp [*]; done)), H', ⟨by have := HK1.out; omega⟩, by repeat (first | exact Drawn0.refl _ | apply Drawn0.step)⟩
              · rw [if_neg c7] at H
                have c7b0 : ((rd l0 x5_1) == (rd l1 x5_1)) = false := beq_eq_false_iff_ne.mpr c7
                have c7b1 : ((rd l0 x5_1) != (rd l1 x5_1)) = true := bne_iff_ne.mpr c7
                obtain rfl := Option.some.inj H
                simp only [Option.some.injEq, Prod.mk.injEq] at H
                obtain ⟨rfl⟩ := H
                have p101 : 0 ≤ (x5_1 : Int) := of_decide_eq_true (by first | (with_reducible assumption) | assumption)
                have q101 : x5_1 < (l0.length : Int) := of_decide_eq_true (by first | (with_reducible assumption) | assumption)
                obtain ⟨ad101, e101, hx101_0⟩ := Kd.at_int HR0.out x5_1 p101 q101
                cases e101
                replace p101 := eq_true p101
                replace q101 := eq_true q101
                have p102 : 0 ≤ (x5_1 : Int) := of_decide_eq_true (by first | (with_reducible assumption) | assumption)
                have q102 : x5_1 < (l1.length : Int) := of_decide_eq_true (by first | (with_reducible assumption) | assumption)
                obtain ⟨ad102, e102, hx102_0⟩ := Kd.at_int HR1.out x5_1 p102 q102
                cases e102
                replace p102 := eq_true p102
                replace q102 := eq_true q102
                go_wp2
                repeat (go_quiet (fail); try go_wp2)
                go_ret
                exact ⟨by first | rfl | (simp; done) | (simp [*]; done), by repeat (first | exact Drawn0.refl _ | apply Drawn0.step)⟩
            · rw [if_neg c6] at H
              exact absurd H (by simp)
          · rw [if_neg c5] at H
            exact absurd H (by simp)
        · rw [if_neg c4] at H
          have c4b0 : decide (x5_1 < (l0.length : Int)) = false := decide_eq_false c4
          clear c4
          obtain rfl := Option.some.inj H
          simp only [Option.some.injEq, Prod.mk.injEq] at H
          obtain ⟨rfl⟩ := H
          go_wp2
          repeat (go_quiet (fail); try go_wp2)
          go_ret
          exact ⟨by first | rfl | (simp; done) | (simp [*]; done), by repeat (first | exact Drawn0.refl _ | apply Drawn0.step)⟩
  · rw [if_neg c3] at H
    have c3b0 : ((l0.length : Int) == (l1.length : Int)) = false := beq_eq_false_iff_ne.mpr c3
    have c3b1 : ((l0.length : Int) != (l1.length : Int)) = true := bne_iff_ne.mpr c3
    have c3b2 : (l0.length == l1.length) = false := by first | simpa using c3 | (simp at c3 ⊢; omega)
    obtain rfl := Option.some.inj H
    simp only [Option.some.injEq, Prod.mk.injEq] at H
    obtain ⟨rfl⟩ := H
    go_enter Try.func17, Try.ntmps17
    go_wp2
    repeat (go_quiet (fail); try go_wp2)
    go_ret
    exact ⟨by first | rfl | (simp; done) | (simp [*]; done), by repeat (first | exact Drawn0.refl _ | apply Drawn0.step)⟩

end Go.Proofs.Yteelppebdcgbpaa.Cs

/- Bits, Bit and the reference's Same, in the words of the printed texts. -/
namespace Go.Proofs.Yteelppebdcgbpaa
set_option linter.unusedSimpArgs false
set_option linter.unusedVariables false
open Go.RowKit Go.Proofs.YteelppebdcgbpaaW.PrintWords Go.Proofs.YteelppebdcgbpaaW.PrintLast Go.Proofs.YteelppebdcgbpaaW.PrintMore

theorem same_loop {l0 l1 : List Int} (hl : l0.length = l1.length) (hm : l0.length ≤ 9223372036854775807) (d : Nat) : ∀ (k i : Nat), i + d = l0.length → d < k → Cs.clepsydraref01_Same.l0 k l0 l1 i = some (decide (l0.drop i = l1.drop i)) := by
  induction d with
  | zero =>
    intro k i hi hk
    obtain ⟨k, rfl⟩ : ∃ m, k = m + 1 := ⟨k - 1, by omega⟩
    simp only [Cs.clepsydraref01_Same.l0]
    rw [if_neg (by omega), List.drop_eq_nil_of_le (by omega), List.drop_eq_nil_of_le (by omega)]; simp
  | succ d ih =>
    intro k i hi hk
    obtain ⟨k, rfl⟩ : ∃ m, k = m + 1 := ⟨k - 1, by omega⟩
    have h0 : i < l0.length := by omega
    have h1 : i < l1.length := by omega
    have hih := ih k (i + 1) (by omega) (by omega)
    simp only [Cs.clepsydraref01_Same.l0]
    rw [if_pos (by omega), if_pos (by omega), if_pos (by omega), List.drop_eq_getElem_cons h0, List.drop_eq_getElem_cons h1, rd_getD, rd_getD, List.getD_eq_getElem?_getD, List.getD_eq_getElem?_getD, List.getElem?_eq_getElem h0, List.getElem?_eq_getElem h1, Option.getD_some, Option.getD_some, wn1 (by omega), hih]
    by_cases he : l0[i] = l1[i]
    · rw [if_pos he]; simp only [List.cons.injEq, he, true_and]
    · rw [if_neg he]; simp only [List.cons.injEq, he, false_and, decide_false]
theorem same_pure {l0 l1 : List Int} (hm : l0.length ≤ 9223372036854775807) : ∀ k, l0.length < k → Cs.clepsydraref01_Same.f k l0 l1 = some (decide (l0 = l1)) := by
  intro k hk
  unfold Cs.clepsydraref01_Same.f
  by_cases h : l0.length = l1.length
  · rw [if_pos (by omega)]
    have := same_loop h hm l0.length k 0 (by omega) (by omega)
    simpa using this
  · rw [if_neg (by omega)]
    have : ¬ l0 = l1 := fun e => h (by rw [e])
    simp [this]

section
variable {A0 A1 : Option Addr} {c0 c1 : Nat} {l0 l1 : List Int} {w : World}
theorem same_giv {r : Bool} (hr0 : Kd.C (Kd.int .u64) w A0 l0.length l0) (hc0 : l0.length ≤ c0) (hr1 : Kd.C (Kd.int .u64) w A1 l1.length l1) (hc1 : l1.length ≤ c1) (h : some (decide (l0 = l1)) = some r) :
    Calls Try.prog 17 #[.slice A0 l0.length c0, .slice A1 l1.length c1] w fun e w' => e = .returned (.bool r) ∧ Drawn0 w w' :=
  Cs.clepsydraref01_Same.calls (l0.length + 1) _ _ _ _ _ _ _ _ hr0 hc0 hr1 hc1 ((same_pure hr0.2.1 _ (by omega)).trans h)
theorem bits_giv {r : Int} (hr0 : Kd.C (Kd.int .u64) w A0 l0.length l0) (hc0 : l0.length ≤ c0) (h : (if okN 262144 l0 then some ((blen (nI l0) : Nat) : Int) else none) = some r) :
    Calls Try.prog 24 #[.slice A0 l0.length c0] w fun e w' => e = .returned (.int .i64 r) ∧ Below w.heap.size w w' := by
  obtain ⟨h0, rfl⟩ := of_ite h
  exact Ca.nat_Bits.calls _ _ _ _ _ hr0 hc0 (bits_pure h0)
theorem bit_giv {a1 r : Int} (hr0 : Kd.C (Kd.int .u64) w A0 l0.length l0) (hc0 : l0.length ≤ c0) (h : (if okN 262144 l0 ∧ a1 ≤ 9223372036854775807 then some (if a1 < 0 then 0 else ((nI l0 / 2 ^ a1.toNat % 2 : Nat) : Int)) else none) = some r) :
    Calls Try.prog 42 #[.slice A0 l0.length c0, .int .i64 a1] w fun e w' => e = .returned (.int .i64 r) ∧ Drawn0 w w' := by
  obtain ⟨h0, rfl⟩ := of_ite h
  exact Ca.nat_Bit.calls _ _ _ _ _ _ hr0 hc0 (bit_pure a1 h0.1 h0.2)
end
end Go.Proofs.Yteelppebdcgbpaa

/- From rows that read as numbers to the printed words, and Bits and Bit over numbers. -/
namespace Go.Proofs.Yteelppebdcgbpaa
set_option linter.unusedSimpArgs false
set_option linter.unusedVariables false
open Go.RowKit Go.Proofs.YteelppebdcgbpaaW.PrintWords Go.Proofs.YteelppebdcgbpaaW.PrintLast Go.Proofs.YteelppebdcgbpaaW.PrintMore

def cI (xs : List Nat) : List Int := xs.map fun (x : Nat) => (x : Int)
theorem cI_length (xs : List Nat) : (cI xs).length = xs.length := by simp [cI]
theorem cI_toN {l : List Int} (h : ∀ x ∈ l, 0 ≤ x) : cI (toN l) = l := by
  simp only [cI, toN, List.map_map]
  conv => rhs; rw [← List.map_id l]
  refine List.map_congr_left fun x hx => ?_
  have := h x hx
  simp only [Function.comp, id]; omega
theorem toN_cI (xs : List Nat) : toN (cI xs) = xs := by simp [cI, toN, Function.comp_def]
theorem C_of_Rd {k : IntKind} {w : World} {A : Option Addr} {n c : Nat} {xs : List Nat} (h : Rd k w A n c xs) : Kd.C (Kd.int k) w A (cI xs).length (cI xs) := by
  refine Kd.C_of_reads (d := (0 : Int)) ⟨rfl, by rw [cI_length, h.len]; exact h.max, fun hn => ?_⟩
  rw [cI_length, h.len] at hn
  obtain ⟨ad, e, _, hc⟩ := h.form hn
  refine ⟨ad, e, fun j hj => ?_⟩
  rw [cI_length, h.len] at hj
  rw [hc j hj]
  have : (cI xs).getD j 0 = ((gd xs j : Nat) : Int) := by
    rw [List.getD_eq_getElem?_getD]; unfold cI
    rw [List.getElem?_map, gd_get (by rw [h.len]; exact hj)]; rfl
  rw [this]
theorem Own.of_R {k : IntKind} {e : Nat} {w : World} {base : Nat} {ok : Nat → Prop} {v : Value} {l : List Int} (h : Kd.R (Kd.int k) e w base ok v l) (h0 : ∀ x ∈ l, 0 ≤ x) : ∃ A c, v = .slice A l.length c ∧ Own k e w base A l.length c (toN l) := by
  obtain ⟨A, c, rfl⟩ := Kd.R_slice h
  refine ⟨A, c, rfl, ?_⟩
  have ho := Kd.own_of_R h
  have e1 : encs (Value.int k) l = vs k (toN l) := by
    unfold encs vs
    rw [show toN l = l.map Int.toNat from rfl, List.map_map]
    refine List.map_congr_left fun x hx => ?_
    have := h0 x hx
    simp only [Function.comp]; congr 1; omega
  rw [e1] at ho
  exact ho
theorem cI_ok {xs : List Nat} {m : Nat} (hb : B64 xs) (hl : xs.length ≤ m) : okN m (cI xs) := by
  refine ⟨by rw [cI_length]; exact hl, fun x hx => ?_⟩
  simp only [cI, List.mem_map] at hx
  obtain ⟨y, hy, rfl⟩ := hx
  have := hb y hy
  omega
theorem nI_cI (xs : List Nat) : nI (cI xs) = nv xs := by unfold nI; rw [toN_cI]
theorem bits_any (w : World) {A : Option Addr} {n c x : Nat} (hx : NA w A n c x) (hn : n ≤ 262144) (hc : n ≤ c) :
    Calls Try.prog 24 #[.slice A n c] w fun e w' => e = .returned (.int .i64 ((blen x : Nat) : Int)) ∧ Below w.heap.size w w' := by
  obtain ⟨xs, h, b, rfl⟩ := hx
  have hl := h.len
  have := bits_giv (A0 := A) (c0 := c) (l0 := cI xs) (w := w) (C_of_Rd h) (by rw [cI_length, hl]; exact hc) (by rw [if_pos (cI_ok b (by omega)), nI_cI])
  rwa [cI_length, hl] at this
theorem bit_any (w : World) {A : Option Addr} {n c x : Nat} (i : Nat) (hx : NA w A n c x) (hn : n ≤ 262144) (hi : i ≤ 9223372036854775807) (hc : n ≤ c) :
    Calls Try.prog 42 #[.slice A n c, .int .i64 i] w fun e w' => e = .returned (.int .i64 ((x / 2 ^ i % 2 : Nat) : Int)) ∧ Drawn0 w w' := by
  obtain ⟨xs, h, b, rfl⟩ := hx
  have hl := h.len
  have := bit_giv (A0 := A) (c0 := c) (l0 := cI xs) (w := w) (a1 := (i : Int)) (r := ((nv xs / 2 ^ i % 2 : Nat) : Int)) (C_of_Rd h) (by rw [cI_length, hl]; exact hc) (by rw [if_pos ⟨cI_ok b (by omega), by omega⟩, nI_cI, if_neg (by omega), Int.toNat_natCast])
  rwa [cI_length, hl] at this
end Go.Proofs.Yteelppebdcgbpaa

/- Small facts for laws about numbers. -/
namespace Go.Proofs.Yteelppebdcgbpaa
set_option linter.unusedSimpArgs false
set_option linter.unusedVariables false
open Go.RowKit

theorem ok {n m : Nat} (h : ln n ≤ m) (hm : m ≤ 262144) : okN 262144 (ofN n) := okN_ofN (Nat.le_trans h hm)
theorem ofN_inj {a b : Nat} (h : ofN a = ofN b) : a = b := by rw [← nI_ofN a, h, nI_ofN]
theorem cmpN_neg (a b : Nat) : cmpN a b = -cmpN b a := by unfold cmpN; split <;> split <;> (try split) <;> omega
theorem cmpN_add (a b c : Nat) : cmpN (a + c) (b + c) = cmpN a b := by unfold cmpN; split <;> split <;> (try split) <;> (try split) <;> omega
end Go.Proofs.Yteelppebdcgbpaa
