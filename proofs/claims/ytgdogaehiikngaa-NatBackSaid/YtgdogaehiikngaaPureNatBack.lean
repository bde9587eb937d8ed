/- What was added is taken away again; a quotient times what parted, and what is left, is the whole. -/
import Derived.Test.YtgdogaehiikngaaLNatBackx1
import Derived.Test.YtgdogaehiikngaaMF
namespace Go.Proofs.Ytgdogaehiikngaa.Pure
open Go.RowKit Go.Proofs.Ytgdogaehiikngaa.LNatBack Go.Proofs.YtgdogaehiikngaaW.PrintWords Go.Proofs.YtgdogaehiikngaaW.PrintLast

theorem NatBack : clepsydralaw01_NatBack.Pure := by
  intro l0 l1 _ _ hw0 _ _ hw1
  refine ⟨2, ?_⟩
  unfold clepsydralaw01_NatBack.f clepsydralaw01_heavy.f
  simp only [Option.bind_some, decide_eq_true_eq, clepsydralaw01_NatBack.j0, clepsydralaw01_alive.f, if_true]
  by_cases h0 : (l0.length : Int) > 12
  · rw [if_pos h0]
  rw [if_neg h0]
  by_cases h1 : (l1.length : Int) > 12
  · rw [if_pos h1]
  rw [if_neg h1]
  have k0 := okL (m := 12) (by omega) hw0
  have k1 := okL (m := 12) (by omega) hw1
  have n0 := ln_nI k0
  have n1 := ln_nI k1
  have o0 := k0.le (m' := 262144) (by omega)
  have o1 := k1.le (m' := 262144) (by omega)
  have A : ∀ {a b}, okN 262144 a → okN 262144 b → nat_Add.f a b = some (ofN (nI a + nI b)) := fun ha hb => if_pos ⟨ha, hb⟩
  have B : ∀ {a b}, okN 262144 a → okN 262144 b → nat_Sub.f a b = some (ofN (nI a - nI b), (if nI a < nI b then 10 else 0 : Int)) := fun ha hb => if_pos ⟨ha, hb⟩
  have M : ∀ {a b}, okN 262144 a → okN 262144 b → nat_Mul.f a b = some (ofN (nI a * nI b)) := fun ha hb => if_pos ⟨ha, hb⟩
  have D : ∀ {a b}, okN 262144 a → okN 262144 b → nat_Div.f a b = some (divR (nI a) (nI b)) := fun ha hb => if_pos ⟨ha, hb⟩
  have K : ∀ {a b}, okN 262144 a → okN 262144 b → nat_Cmp.f a b = some (cmpN (nI a) (nI b)) := fun ha hb => if_pos ⟨ha, hb⟩
  have T : ∀ {a}, okN 262144 a → nat_Trim.f a = some (ofN (nI a)) := fun ha => if_pos ha
  have S : ∀ a b : Nat, a = b → clepsydraref01_Same.f (ofN a) (ofN b) = some true := fun a b h => by subst h; unfold clepsydraref01_Same.f; simp
  generalize hx : nI l0 = x at *
  generalize hy : nI l1 = y at *
  have a1 : ln (x + y) ≤ 13 := ln2 n0 n1 (by omega)
  rw [A o0 o1, hx, hy, Option.bind_some, B (ok a1 (by omega)) o1, nI_ofN, hy, Option.bind_some, if_neg (show ¬ x + y < y by omega), if_pos rfl, T o0, hx, Option.bind_some, S _ _ (by omega), Option.bind_some]
  simp only [clepsydralaw01_NatBack.j1, Bool.not_true, Bool.false_eq_true, if_false, Option.bind_some, if_true, clepsydralaw01_alive.f]
  rw [D o0 o1, hx, hy, Option.bind_some, T o1, hy, Option.bind_some, ofN_length]
  unfold divR
  by_cases hy0 : y = 0
  · subst hy0
    simp only [if_true, ln_zero]
    rfl
  · have hl : ln y ≠ 0 := by have := ln_pos hy0; omega
    simp only [if_neg hy0, if_true]
    rw [if_neg (by omega)]
    have a2 : ln (x / y) ≤ 12 := lnd n0
    have a3 : ln (x % y) ≤ 12 := lnr n0
    have a4 : ln (x / y * y) ≤ 24 := lnm a2 n1 (by omega)
    rw [M (ok a2 (by omega)) o1, nI_ofN, hy, Option.bind_some, A (ok a4 (by omega)) (ok a3 (by omega)), nI_ofN, nI_ofN, Option.bind_some, T o0, hx, Option.bind_some, S _ _ (by rw [Nat.mul_comm]; exact Nat.div_add_mod x y), Option.bind_some]
    simp only [if_true]
    rw [K (ok a3 (by omega)) o1, nI_ofN, hy, Option.bind_some, cmpN_lt (Nat.mod_lt _ (by omega))]
    rfl
end Go.Proofs.Ytgdogaehiikngaa.Pure
