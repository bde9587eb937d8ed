/- A power of a sum is the product of the powers, a power of a product the product of the powers. -/
import Derived.Test.YteelppebdcgbpaaLModnLawsx1
import Derived.Test.YteelppebdcgbpaaMG
import Derived.Test.YteelppebdcgbpaaMD
namespace Go.Proofs.Yteelppebdcgbpaa.Pure
open Go.RowKit Go.Proofs.Yteelppebdcgbpaa.LModnLaws Go.Proofs.YteelppebdcgbpaaW.PrintWords Go.Proofs.YteelppebdcgbpaaW.PrintLast

theorem ModnLaws : clepsydralaw03_ModnLaws.Pure := by
  intro l0 l1 l2 l3 l4 _ _ hw0 _ _ hw1 _ _ hw2 _ _ hw3 _ _ hw4
  refine ⟨1, ?_⟩
  have J : clepsydralaw03_ModnLaws.j0 1 l0 l1 l2 l3 l4 true = some true := by
    simp only [clepsydralaw03_ModnLaws.j0, if_true, clepsydralaw03_alive.f, Option.bind_some]
  unfold clepsydralaw03_ModnLaws.f clepsydralaw03_heavy.f
  simp only [Option.bind_some, decide_eq_true_eq, J]
  by_cases h0 : (l0.length : Int) > 5
  · rw [if_pos h0]
  rw [if_neg h0]
  by_cases h1 : (l1.length : Int) > 5
  · rw [if_pos h1]
  rw [if_neg h1]
  by_cases h4 : (l4.length : Int) > 5
  · rw [if_pos h4]
  rw [if_neg h4]
  by_cases h2 : (l2.length : Int) > 2
  · rw [if_pos h2]
  rw [if_neg h2]
  by_cases h3 : (l3.length : Int) > 2
  · rw [if_pos h3]
  rw [if_neg h3]
  have k0 := okL (m := 5) (by omega) hw0
  have k1 := okL (m := 5) (by omega) hw1
  have k4 := okL (m := 5) (by omega) hw4
  have k2 := okL (m := 2) (by omega) hw2
  have k3 := okL (m := 2) (by omega) hw3
  have n0 := ln_nI k0
  have n1 := ln_nI k1
  have n2 := ln_nI k2
  have n3 := ln_nI k3
  have n4 := ln_nI k4
  have B : nat_Bits.f l4 = some ((blen (nI l4) : Nat) : Int) := if_pos (k4.le (by omega))
  rw [B, Option.bind_some]
  by_cases hz : blen (nI l4) = 0
  · rw [hz]; exact J
  have hm : nI l4 ≠ 0 := fun h => hz (by rw [h, blen_zero])
  rw [show (((blen (nI l4) : Nat) : Int) == 0) = false by simp; exact hz]
  have P : ∀ {a b c}, okN 4096 a → okN 4096 b → okN 1024 c → nI c ≠ 0 → modn_Pow.f a b c = some (ofN (powM (nI a) (nI b) (nI c)), 0) := fun ha hb hc h => by
    unfold modn_Pow.f; rw [if_pos ⟨ha, hb, hc⟩, powR_pos h]
  have M : ∀ {a b c}, okN 131072 a → okN 131072 b → okN 262144 c → nI c ≠ 0 → modn_Mul.f a b c = some (ofN (nI a * nI b % nI c), 0) := fun ha hb hc h => by
    unfold modn_Mul.f; rw [if_pos ⟨ha, hb, hc⟩, modR_pos (by omega)]
  have A : ∀ {a b}, okN 262144 a → okN 262144 b → nat_Add.f a b = some (ofN (nI a + nI b)) := fun ha hb => if_pos ⟨ha, hb⟩
  have T : ∀ {a b}, okN 262144 a → okN 262144 b → nat_Mul.f a b = some (ofN (nI a * nI b)) := fun ha hb => if_pos ⟨ha, hb⟩
  have S : ∀ a b : Nat, a = b → clepsydraref01_Same.f (ofN a) (ofN b) = some true := fun a b h => by subst h; unfold clepsydraref01_Same.f; simp
  have m4 : okN 1024 l4 := k4.le (by omega)
  have o0 : okN 4096 l0 := k0.le (by omega)
  have o1 : okN 4096 l1 := k1.le (by omega)
  have o2 : okN 4096 l2 := k2.le (by omega)
  have o3 : okN 4096 l3 := k3.le (by omega)
  have a23 : ln (nI l2 + nI l3) ≤ 3 := ln2 n2 n3 (by omega)
  have a01 : ln (nI l0 * nI l1) ≤ 10 := lnm n0 n1 (by omega)
  have lp : ∀ x f, okN 131072 (ofN (powM x f (nI l4))) := fun x f => okN_ofN (Nat.le_trans (ln_modlt (by omega) n4) (by omega))
  have e23 : okN 4096 (ofN (nI l2 + nI l3)) := okN_ofN (by omega)
  have e01 : okN 4096 (ofN (nI l0 * nI l1)) := okN_ofN (by omega)
  have m4' : okN 262144 l4 := k4.le (by omega)
  simp only [clepsydralaw03_ModnLaws.j0, Bool.false_eq_true, if_false]
  rw [P o0 o2 m4 hm, Option.bind_some, P o0 o3 m4 hm, Option.bind_some, A (k2.le (by omega)) (k3.le (by omega)), Option.bind_some, P o0 e23 m4 hm, Option.bind_some]
  simp only
  rw [M (lp _ _) (lp _ _) m4' hm, Option.bind_some, P o1 o2 m4 hm, Option.bind_some]
  simp only
  rw [M (lp _ _) (lp _ _) m4' hm, Option.bind_some, T (k0.le (by omega)) (k1.le (by omega)), Option.bind_some, P e01 o2 m4 hm, Option.bind_some]
  simp only [clepsydralaw03_alive.f, Option.bind_some, if_true, nI_ofN]
  rw [S _ _ (powM_add _ _ _ _), Option.bind_some, if_pos rfl, S _ _ (powM_mul _ _ _ _), Option.bind_some]
end Go.Proofs.Yteelppebdcgbpaa.Pure
