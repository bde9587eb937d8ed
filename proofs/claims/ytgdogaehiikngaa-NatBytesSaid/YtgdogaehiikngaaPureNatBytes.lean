/- Bytes are read as a number, and a number is written in so many bytes, or does not fit, as the document says. -/
import Derived.Test.YtgdogaehiikngaaLNatBytesx1
import Derived.Test.YtgdogaehiikngaaMF
import Derived.Test.YtgdogaehiikngaaMG
namespace Go.Proofs.Ytgdogaehiikngaa.Pure
open Go.RowKit Go.Proofs.Ytgdogaehiikngaa.LNatBytes Go.Proofs.YtgdogaehiikngaaW.PrintWords Go.Proofs.YtgdogaehiikngaaW.PrintLast

theorem NatBytes : clepsydralaw01_NatBytes.Pure := by
  intro l0 l1 a2 _ _ hw0 _ _ hw1 hw2
  refine ⟨1, ?_⟩
  unfold clepsydralaw01_NatBytes.f clepsydralaw01_heavy.f
  simp only [Option.bind_some, decide_eq_true_eq, clepsydralaw01_NatBytes.j0, clepsydralaw01_alive.f, if_true, Bool.false_eq_true, if_false]
  by_cases h1 : (l1.length : Int) > 12
  · rw [if_pos h1]
  rw [if_neg h1]
  by_cases h0 : (l0.length : Int) > 100
  · rw [if_pos h0]
  rw [if_neg h0]
  have k1 := okL (m := 12) (by omega) hw1
  have o1 := k1.le (m' := 262144) (by omega)
  have b0 := okB_wf hw0
  have S : ∀ a : List Int, clepsydraref01_Same.f a a = some true := fun a => by unfold clepsydraref01_Same.f; simp
  have X : nat_Write.f l1 a2 = some (writeR (nI l1) a2) := if_pos o1
  have RX : clepsydraref01_Write.f l1 a2 = some (writeR (nI l1) a2) := if_pos o1
  have R : nat_Read.f l0 = some (ofN (beV l0)) := if_pos ⟨b0, by omega⟩
  have RR : clepsydraref01_Read.f l0 = some (ofN (beV l0)) := if_pos ⟨b0, by omega⟩
  simp only [X, RX, R, RR, S, Option.bind_some, if_true, beq_self_eq_true]
  by_cases h2 : a2 > 200
  · rw [if_pos h2]; split <;> rfl
  · rw [if_neg h2]
end Go.Proofs.Ytgdogaehiikngaa.Pure
