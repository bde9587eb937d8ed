/- A number is parted by another one as the document says. -/
import Derived.Test.YtgdogaehiikngaaLNatPartsx1
import Derived.Test.YtgdogaehiikngaaMF
import Derived.Test.YtgdogaehiikngaaMG
import Derived.Test.YtgdogaehiikngaaMH
namespace Go.Proofs.Ytgdogaehiikngaa.Pure
open Go.RowKit Go.Proofs.Ytgdogaehiikngaa.LNatParts Go.Proofs.YtgdogaehiikngaaW.PrintWords Go.Proofs.YtgdogaehiikngaaW.PrintLast

theorem NatParts : clepsydralaw01_NatParts.Pure := by
  intro l0 l1 _ _ hw0 _ _ hw1
  refine ⟨1, ?_⟩
  unfold clepsydralaw01_NatParts.f clepsydralaw01_heavy.f
  simp only [Option.bind_some, decide_eq_true_eq, clepsydralaw01_NatParts.j0, clepsydralaw01_alive.f, if_true]
  by_cases h0 : (l0.length : Int) > 12
  · rw [if_pos h0]
  rw [if_neg h0]
  by_cases h1 : (l1.length : Int) > 12
  · rw [if_pos h1]
  rw [if_neg h1]
  have k0 := okL (m := 12) (by omega) hw0
  have k1 := okL (m := 12) (by omega) hw1
  have n0 := ln_nI k0
  have n1 := ln_nI k1
  have o0 := k0.le (m' := 262144) (by omega)
  have o1 := k1.le (m' := 262144) (by omega)
  have C : ∀ {a}, okN 12 a → clepsydralaw01_copied.f a = some a := fun ha => by have := ha.1; unfold clepsydralaw01_copied.f; rw [if_pos (by simp; omega)]; rfl
  have S : ∀ a : List Int, clepsydraref01_Same.f a a = some true := fun a => by unfold clepsydraref01_Same.f; simp
  have D : nat_Div.f l0 l1 = some (divR (nI l0) (nI l1)) := if_pos ⟨o0, o1⟩
  have RD : clepsydraref01_Div.f l0 l1 = some (divR (nI l0) (nI l1)) := if_pos ⟨k0.le (by omega), k1.le (by omega)⟩
  rw [C k0, Option.bind_some, C k1, Option.bind_some, D, Option.bind_some, RD, Option.bind_some]
  simp only [S, Option.bind_some, if_true]
end Go.Proofs.Ytgdogaehiikngaa.Pure
