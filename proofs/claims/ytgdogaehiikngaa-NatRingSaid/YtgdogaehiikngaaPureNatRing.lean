/- The order of sums and products is of no matter, and a sum's product is the sum of the products. -/
import Derived.Test.YtgdogaehiikngaaLNatRingx1
import Derived.Test.YtgdogaehiikngaaMF
namespace Go.Proofs.Ytgdogaehiikngaa.Pure
open Go.RowKit Go.Proofs.Ytgdogaehiikngaa.LNatRing Go.Proofs.YtgdogaehiikngaaW.PrintWords Go.Proofs.YtgdogaehiikngaaW.PrintLast

theorem NatRing : clepsydralaw01_NatRing.Pure := by
  intro l0 l1 l2 _ _ hw0 _ _ hw1 _ _ hw2
  refine ⟨1, ?_⟩
  unfold clepsydralaw01_NatRing.f clepsydralaw01_heavy.f
  simp only [Option.bind_some, decide_eq_true_eq, clepsydralaw01_NatRing.j0, clepsydralaw01_alive.f, if_true]
  by_cases h0 : (l0.length : Int) > 12
  · rw [if_pos h0]
  rw [if_neg h0]
  by_cases h1 : (l1.length : Int) > 12
  · rw [if_pos h1]
  rw [if_neg h1]
  by_cases h2 : (l2.length : Int) > 12
  · rw [if_pos h2]
  rw [if_neg h2]
  have k0 := okL (m := 12) (by omega) hw0
  have k1 := okL (m := 12) (by omega) hw1
  have k2 := okL (m := 12) (by omega) hw2
  have n0 := ln_nI k0
  have n1 := ln_nI k1
  have n2 := ln_nI k2
  have o0 := k0.le (m' := 262144) (by omega)
  have o1 := k1.le (m' := 262144) (by omega)
  have o2 := k2.le (m' := 262144) (by omega)
  have A : ∀ {a b}, okN 262144 a → okN 262144 b → nat_Add.f a b = some (ofN (nI a + nI b)) := fun ha hb => if_pos ⟨ha, hb⟩
  have M : ∀ {a b}, okN 262144 a → okN 262144 b → nat_Mul.f a b = some (ofN (nI a * nI b)) := fun ha hb => if_pos ⟨ha, hb⟩
  have S : ∀ a b : Nat, a = b → clepsydraref01_Same.f (ofN a) (ofN b) = some true := fun a b h => by subst h; unfold clepsydraref01_Same.f; simp
  generalize hx : nI l0 = x at *
  generalize hy : nI l1 = y at *
  generalize hz : nI l2 = z at *
  have a1 : ln (y + z) ≤ 13 := ln2 n1 n2 (by omega)
  have a2 : ln (z * x) ≤ 24 := lnm n2 n0 (by omega)
  have a3 : ln (y * x) ≤ 24 := lnm n1 n0 (by omega)
  have a4 : ln (x + y) ≤ 13 := ln2 n0 n1 (by omega)
  have a5 : ln (z + y) ≤ 13 := ln2 n2 n1 (by omega)
  have a6 : ln (x * y) ≤ 24 := lnm n0 n1 (by omega)
  have a7 : ln (y * z) ≤ 24 := lnm n1 n2 (by omega)
  rw [A o1 o2, hy, hz, Option.bind_some, M o0 (ok a1 (by omega)), nI_ofN, hx, Option.bind_some, M o2 o0, hz, hx, Option.bind_some, M o1 o0, hy, hx, Option.bind_some,
    A (ok a2 (by omega)) (ok a3 (by omega)), nI_ofN, nI_ofN, Option.bind_some, A o0 o1, hx, hy, Option.bind_some, A (ok a4 (by omega)) o2, nI_ofN, hz, Option.bind_some, A o2 o1, hz, hy, Option.bind_some, A o0 (ok a5 (by omega)), nI_ofN, hx, Option.bind_some]
  rw [S _ _ (by rw [Nat.mul_add, Nat.mul_comm z, Nat.mul_comm y]; omega), Option.bind_some, S _ _ (by omega), Option.bind_some, M o0 o1, hx, hy, Option.bind_some, M (ok a6 (by omega)) o2, nI_ofN, hz, Option.bind_some, M o1 o2, hy, hz, Option.bind_some, M o0 (ok a7 (by omega)), nI_ofN, hx, Option.bind_some, S _ _ (Nat.mul_assoc _ _ _)]
  rfl
end Go.Proofs.Ytgdogaehiikngaa.Pure
