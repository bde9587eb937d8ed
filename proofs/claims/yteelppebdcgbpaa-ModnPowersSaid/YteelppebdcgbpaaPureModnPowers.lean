/- Powers modulo a number, odd or even, are told. -/
import Derived.Test.YteelppebdcgbpaaLModnPowersx1
import Derived.Test.YteelppebdcgbpaaPF
namespace Go.Proofs.Yteelppebdcgbpaa.Pure
open Go.RowKit Go.Proofs.Yteelppebdcgbpaa.LModnPowers Go.Proofs.YteelppebdcgbpaaW.PrintWords Go.Proofs.YteelppebdcgbpaaW.PrintLast

theorem ModnPowers : clepsydralaw03_ModnPowers.Pure := by
  intro l0 l1 l2 _ _ hw0 _ _ hw1 _ _ hw2
  refine ⟨1, ?_⟩
  have J : clepsydralaw03_ModnPowers.j0 1 l0 l1 l2 true = some true := by
    simp only [clepsydralaw03_ModnPowers.j0, if_true, clepsydralaw03_alive.f, Option.bind_some]
  unfold clepsydralaw03_ModnPowers.f clepsydralaw03_heavy.f
  simp only [Option.bind_some, decide_eq_true_eq, J]
  by_cases h0 : (l0.length : Int) > 5
  · rw [if_pos h0]
  rw [if_neg h0]
  by_cases h1 : (l1.length : Int) > 2
  · rw [if_pos h1]
  rw [if_neg h1]
  by_cases h2 : (l2.length : Int) > 4
  · rw [decide_eq_true h2]; exact J
  rw [decide_eq_false h2]
  have k0 := okL (m := 5) (by omega) hw0
  have k1 := okL (m := 2) (by omega) hw1
  have k2 := okL (m := 4) (by omega) hw2
  have S : ∀ l : List Int, clepsydraref01_Same.f l l = some true := fun l => by unfold clepsydraref01_Same.f; simp
  have a : modn_Pow.f l0 l1 l2 = some (powR (nI l0) (nI l1) (nI l2)) := if_pos ⟨k0.le (by omega), k1.le (by omega), k2.le (by omega)⟩
  have b : clepsydraref03_Pow.f l0 l1 l2 = some (powR (nI l0) (nI l1) (nI l2)) := if_pos ⟨k0.le (by omega), k1.le (by omega), k2.le (by omega)⟩
  simp only [clepsydralaw03_ModnPowers.j0, Bool.false_eq_true, if_false]
  rw [a, Option.bind_some, b, Option.bind_some]
  simp only [clepsydralaw03_alive.f, Option.bind_some, if_true, S, beq_self_eq_true]
end Go.Proofs.Yteelppebdcgbpaa.Pure
