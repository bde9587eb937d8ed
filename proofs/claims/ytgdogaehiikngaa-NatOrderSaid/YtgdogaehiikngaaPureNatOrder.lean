/- Of two numbers the greater one can be taken the other from, and just then the difference is there. -/
import Derived.Test.YtgdogaehiikngaaLNatOrderx1
import Derived.Test.YtgdogaehiikngaaMF
namespace Go.Proofs.Ytgdogaehiikngaa.Pure
open Go.RowKit Go.Proofs.Ytgdogaehiikngaa.LNatOrder Go.Proofs.YtgdogaehiikngaaW.PrintWords Go.Proofs.YtgdogaehiikngaaW.PrintLast

theorem NatOrder : clepsydralaw01_NatOrder.Pure := by
  intro l0 l1 l2 _ _ hw0 _ _ hw1 _ _ hw2
  refine ⟨1, ?_⟩
  unfold clepsydralaw01_NatOrder.f clepsydralaw01_heavy.f
  simp only [Option.bind_some, decide_eq_true_eq, clepsydralaw01_NatOrder.j0, clepsydralaw01_alive.f, if_true]
  by_cases h0 : (l0.length : Int) > 12
  · rw [if_pos h0]
  rw [if_neg h0]
  by_cases h1 : (l1.length : Int) > 12
  · rw [if_pos h1]
  rw [if_neg h1]
  by_cases h2 : (l2.length : Int) > 12
  · rw [if_pos h2]
  rw [if_neg h2]
  have k0 := okL (m := 12) (by omega) hw0
  have k1 := okL (m := 12) (by omega) hw1
  have k2 := okL (m := 12) (by omega) hw2
  have n0 := ln_nI k0
  have n1 := ln_nI k1
  have n2 := ln_nI k2
  have o0 := k0.le (m' := 262144) (by omega)
  have o1 := k1.le (m' := 262144) (by omega)
  have o2 := k2.le (m' := 262144) (by omega)
  have A : ∀ {a b}, okN 262144 a → okN 262144 b → nat_Add.f a b = some (ofN (nI a + nI b)) := fun ha hb => if_pos ⟨ha, hb⟩
  have B : ∀ {a b}, okN 262144 a → okN 262144 b → nat_Sub.f a b = some (ofN (nI a - nI b), (if nI a < nI b then 10 else 0 : Int)) := fun ha hb => if_pos ⟨ha, hb⟩
  have K : ∀ {a b}, okN 262144 a → okN 262144 b → nat_Cmp.f a b = some (cmpN (nI a) (nI b)) := fun ha hb => if_pos ⟨ha, hb⟩
  generalize hx : nI l0 = x at *
  generalize hy : nI l1 = y at *
  generalize hz : nI l2 = z at *
  have a1 : ln (x + z) ≤ 13 := ln2 n0 n2 (by omega)
  have a2 : ln (y + z) ≤ 13 := ln2 n1 n2 (by omega)
  have c1 : cmpN x y = wrap64 (-cmpN y x) := by rw [wr, ← cmpN_neg] <;> unfold cmpN <;> split <;> (try split) <;> omega
  rw [K o0 o1, hx, hy, Option.bind_some, B o0 o1, hx, hy, Option.bind_some, K o1 o0, hx, hy, Option.bind_some, if_pos c1, A o0 o2, hx, hz, Option.bind_some, A o1 o2, hy, hz, Option.bind_some, K (ok a1 (by omega)) (ok a2 (by omega)), nI_ofN, nI_ofN, cmpN_add, Option.bind_some, if_pos rfl]
  have hc : ((if x < y then (10 : Int) else 0) == 0) = decide (cmpN x y ≥ 0) := by unfold cmpN; split <;> (try split) <;> simp
  rw [hc, if_pos (by simp), K o0 o0, hx, Option.bind_some, cmpN_eq rfl]
  rfl
end Go.Proofs.Ytgdogaehiikngaa.Pure
