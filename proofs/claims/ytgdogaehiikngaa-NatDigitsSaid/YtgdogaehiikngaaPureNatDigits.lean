/- Noughts are trimmed, binary digits counted, told and moved as the document says. -/
import Derived.Test.YtgdogaehiikngaaLNatDigitsx1
import Derived.Test.YtgdogaehiikngaaMF
import Derived.Test.YtgdogaehiikngaaMG
namespace Go.Proofs.Ytgdogaehiikngaa.Pure
open Go.RowKit Go.Proofs.Ytgdogaehiikngaa.LNatDigits Go.Proofs.YtgdogaehiikngaaW.PrintWords Go.Proofs.YtgdogaehiikngaaW.PrintLast

theorem far_zero {x m : Nat} (h : ln x ≤ m) (e : Nat) (he : 64 * m ≤ e) : x / 2 ^ e = 0 := by
  refine Nat.div_eq_of_lt (Nat.lt_of_lt_of_le (lt_ln x) ?_)
  rw [wpow]
  exact Nat.pow_le_pow_right (by omega) (by omega)
theorem NatDigits : clepsydralaw01_NatDigits.Pure := by
  intro l0 a1 a2 _ _ hw0 hw1 hw2
  refine ⟨1, ?_⟩
  have b1 := i64_wf hw1
  have b2 := i64_wf hw2
  unfold clepsydralaw01_NatDigits.f clepsydralaw01_heavy.f
  simp only [Option.bind_some, decide_eq_true_eq, clepsydralaw01_NatDigits.j0, clepsydralaw01_alive.f, if_true, Bool.false_eq_true, if_false]
  by_cases h0 : (l0.length : Int) > 12
  · rw [if_pos h0]
  rw [if_neg h0]
  have k0 := okL (m := 12) (by omega) hw0
  have n0 := ln_nI k0
  have o0 := k0.le (m' := 262144) (by omega)
  have C : ∀ {a}, okN 12 a → clepsydralaw01_copied.f a = some a := fun ha => by have := ha.1; unfold clepsydralaw01_copied.f; rw [if_pos (by simp; omega)]; rfl
  have S : ∀ a : List Int, clepsydraref01_Same.f a a = some true := fun a => by unfold clepsydraref01_Same.f; simp
  have T : nat_Trim.f l0 = some (ofN (nI l0)) := if_pos o0
  have RT : clepsydraref01_Trim.f l0 = some (ofN (nI l0)) := if_pos o0
  have B : nat_Bits.f l0 = some ((blen (nI l0) : Nat) : Int) := if_pos o0
  have RB : clepsydraref01_Bits.f l0 = some ((blen (nI l0) : Nat) : Int) := if_pos o0
  have D : nat_Bit.f l0 a1 = some (if a1 < 0 then 0 else ((nI l0 / 2 ^ a1.toNat % 2 : Nat) : Int)) := if_pos ⟨o0, b1.2⟩
  have RD : clepsydraref01_Bit.f l0 a1 = some (if a1 < 0 then 0 else ((nI l0 / 2 ^ a1.toNat % 2 : Nat) : Int)) := if_pos o0
  have H : nat_Shift.f l0 a2 = some (ofN (shiftN (nI l0) a2)) := if_pos o0
  have RH : clepsydraref01_Shift.f l0 a2 = some (rshiftN (nI l0) a2) := if_pos ⟨o0, b2.1⟩
  have hsh : rshiftN (nI l0) a2 = ofN (shiftN (nI l0) a2) := by
    unfold rshiftN shiftN
    by_cases h : 0 ≤ a2
    · rw [if_pos h, if_pos h]
    · rw [if_neg h, if_neg h]
      congr 1
      by_cases h' : -a2 ≤ 65536
      · rw [show (min (-a2) 65536).toNat = (-a2).toNat by omega]
      · rw [far_zero n0 _ (by omega), far_zero n0 _ (by omega)]
  have main : ((clepsydralaw01_copied.f l0).bind fun t106 => ((nat_Trim.f t106).bind fun t110 => ((clepsydraref01_Trim.f l0).bind fun t113 => ((clepsydraref01_Same.f t110 t113).bind fun t116 => (if t116 = true then ((nat_Bits.f t106).bind fun t117 => ((clepsydraref01_Bits.f l0).bind fun t118 => (if t117 = t118 then ((nat_Bit.f t106 a1).bind fun t119 => ((clepsydraref01_Bit.f l0 a1).bind fun t120 => (if t119 = t120 then (if a2 > 65536 then ((clepsydraref01_Same.f t106 l0).bind fun t121 => (some t121)) else ((nat_Shift.f t106 a2).bind fun t122 => ((clepsydraref01_Shift.f l0 a2).bind fun t125 => ((clepsydraref01_Same.f t122 t125).bind fun t128 => (if t128 = true then ((clepsydraref01_Same.f t106 l0).bind fun t129 => (some t129)) else (some false)))))) else (some false)))) else (some false)))) else (some false)))))) = some true := by
    rw [C k0, Option.bind_some, T, Option.bind_some, RT, Option.bind_some, S, Option.bind_some]
    simp only [if_true, B, RB, D, RD, H, RH, hsh, S, Option.bind_some]
    split <;> rfl
  by_cases h1 : a2 > 2000
  · rw [if_pos h1]
    by_cases h2 : a2 ≤ 65536
    · rw [if_pos h2]
    · rw [if_neg h2]; exact main
  · rw [if_neg h1]; exact main
end Go.Proofs.Ytgdogaehiikngaa.Pure
