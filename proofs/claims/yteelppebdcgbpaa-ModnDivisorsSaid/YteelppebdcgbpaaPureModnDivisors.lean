/- The greatest common divisor and the inverse are told. -/
import Derived.Test.YteelppebdcgbpaaLModnDivisorsx1
import Derived.Test.YteelppebdcgbpaaPF
namespace Go.Proofs.Yteelppebdcgbpaa.Pure
open Go.RowKit Go.Proofs.Yteelppebdcgbpaa.LModnDivisors Go.Proofs.YteelppebdcgbpaaW.PrintWords Go.Proofs.YteelppebdcgbpaaW.PrintLast

theorem ModnDivisors : clepsydralaw03_ModnDivisors.Pure := by
  intro l0 l1 _ _ hw0 _ _ hw1
  refine ⟨1, ?_⟩
  have J : clepsydralaw03_ModnDivisors.j0 1 l0 l1 true = some true := by
    simp only [clepsydralaw03_ModnDivisors.j0, if_true, clepsydralaw03_alive.f, Option.bind_some]
  unfold clepsydralaw03_ModnDivisors.f clepsydralaw03_heavy.f
  simp only [Option.bind_some, decide_eq_true_eq, J]
  by_cases h0 : (l0.length : Int) > 5
  · rw [if_pos h0]
  rw [if_neg h0]
  by_cases h1 : (l1.length : Int) > 5
  · rw [decide_eq_true h1]; exact J
  rw [decide_eq_false h1]
  have k0 := okL (m := 5) (by omega) hw0
  have k1 := okL (m := 5) (by omega) hw1
  have S : ∀ l : List Int, clepsydraref01_Same.f l l = some true := fun l => by unfold clepsydraref01_Same.f; simp
  have a : modn_Inverse.f l0 l1 = some (invR (nI l0) (nI l1)) := if_pos ⟨k0.le (by omega), k1.le (by omega)⟩
  have b : clepsydraref03_Inverse.f l0 l1 = some (invR (nI l0) (nI l1)) := if_pos ⟨k0.le (by omega), k1.le (by omega)⟩
  have c : modn_Gcd.f l0 l1 = some (ofN (Nat.gcd (nI l0) (nI l1))) := if_pos ⟨k0.le (by omega), k1.le (by omega)⟩
  have d : clepsydraref03_Gcd.f l0 l1 = some (ofN (Nat.gcd (nI l0) (nI l1))) := if_pos ⟨k0.le (by omega), k1.le (by omega)⟩
  simp only [clepsydralaw03_ModnDivisors.j0, Bool.false_eq_true, if_false]
  rw [a, Option.bind_some, b, Option.bind_some]
  simp only [clepsydralaw03_alive.f, Option.bind_some, if_true, S, beq_self_eq_true, c, d]
end Go.Proofs.Yteelppebdcgbpaa.Pure
