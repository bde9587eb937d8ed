/- The greatest common divisor parts both, and grows as both are multiplied. -/
import Derived.Test.YteelppebdcgbpaaLModnCommonx1
import Derived.Test.YteelppebdcgbpaaMG
namespace Go.Proofs.Yteelppebdcgbpaa.Pure
open Go.RowKit Go.Proofs.Yteelppebdcgbpaa.LModnCommon Go.Proofs.YteelppebdcgbpaaW.PrintWords Go.Proofs.YteelppebdcgbpaaW.PrintLast

theorem ModnCommon : clepsydralaw03_ModnCommon.Pure := by
  intro l0 l1 l2 _ _ hw0 _ _ hw1 _ _ hw2
  refine ⟨2, ?_⟩
  have J : clepsydralaw03_ModnCommon.j0 2 l0 l1 l2 true = some true := by
    simp only [clepsydralaw03_ModnCommon.j0, if_true, clepsydralaw03_alive.f, Option.bind_some]
  unfold clepsydralaw03_ModnCommon.f clepsydralaw03_heavy.f
  simp only [Option.bind_some, decide_eq_true_eq, J]
  by_cases h0 : (l0.length : Int) > 5
  · rw [if_pos h0]
  rw [if_neg h0]
  by_cases h1 : (l1.length : Int) > 5
  · rw [if_pos h1]
  rw [if_neg h1]
  by_cases h2 : (l2.length : Int) > 5
  · rw [decide_eq_true h2]; exact J
  rw [decide_eq_false h2]
  have k0 := okL (m := 5) (by omega) hw0
  have k1 := okL (m := 5) (by omega) hw1
  have k2 := okL (m := 5) (by omega) hw2
  have n0 := ln_nI k0
  have n1 := ln_nI k1
  have n2 := ln_nI k2
  have o0 := k0.le (m' := 262144) (by omega)
  have o1 := k1.le (m' := 262144) (by omega)
  have o2 := k2.le (m' := 262144) (by omega)
  have B : ∀ {a}, okN 262144 a → nat_Bits.f a = some ((blen (nI a) : Nat) : Int) := fun h => if_pos h
  have G : ∀ {a b}, okN 262144 a → okN 262144 b → modn_Gcd.f a b = some (ofN (Nat.gcd (nI a) (nI b))) := fun h h' => if_pos ⟨h, h'⟩
  have D : ∀ {a b}, okN 262144 a → okN 262144 b → nI b ≠ 0 → modn_Mod.f a b = some (ofN (nI a % nI b), 0) := fun ha hb h => by
    unfold modn_Mod.f; rw [if_pos ⟨ha, hb⟩, modR_pos (by omega)]
  have T : ∀ {a b}, okN 262144 a → okN 262144 b → nat_Mul.f a b = some (ofN (nI a * nI b)) := fun ha hb => if_pos ⟨ha, hb⟩
  have S : ∀ a b : Nat, a = b → clepsydraref01_Same.f (ofN a) (ofN b) = some true := fun a b h => by subst h; unfold clepsydraref01_Same.f; simp
  have lg : ln (Nat.gcd (nI l0) (nI l1)) ≤ 5 := by
    rcases Nat.eq_zero_or_pos (nI l1) with h | h
    · rw [h, Nat.gcd_zero_right]; exact n0
    · exact Nat.le_trans (ln_mono (Nat.gcd_le_right _ h)) n1
  have og : okN 262144 (ofN (Nat.gcd (nI l0) (nI l1))) := ok lg (by omega)
  have J1 : clepsydralaw03_ModnCommon.j1 1 l0 l1 l2 (ofN (Nat.gcd (nI l0) (nI l1))) = some true := by
    have a0 : ln (nI l0 * nI l2) ≤ 10 := lnm n0 n2 (by omega)
    have a1 : ln (nI l1 * nI l2) ≤ 10 := lnm n1 n2 (by omega)
    have p0 : okN 262144 (ofN (nI l0 * nI l2)) := ok a0 (by omega)
    have p1 : okN 262144 (ofN (nI l1 * nI l2)) := ok a1 (by omega)
    simp only [clepsydralaw03_ModnCommon.j1, clepsydralaw03_alive.f, Option.bind_some, if_true]
    rw [T o0 o2, Option.bind_some, T o1 o2, Option.bind_some, G p0 p1, Option.bind_some, T og o2, Option.bind_some, nI_ofN, nI_ofN, nI_ofN, S _ _ (Nat.gcd_mul_right _ _ _), Option.bind_some, if_pos rfl, G o1 o0, Option.bind_some, S _ _ (Nat.gcd_comm _ _), Option.bind_some]
  simp only [clepsydralaw03_ModnCommon.j0, Bool.false_eq_true, if_false]
  rw [G o0 o1, Option.bind_some, B og, Option.bind_some, nI_ofN, J1]
  by_cases hz : Nat.gcd (nI l0) (nI l1) = 0
  · rw [hz, blen_zero, if_neg (by decide)]
  · have hb : blen (Nat.gcd (nI l0) (nI l1)) ≠ 0 := by rw [blen_pos hz]; omega
    rw [if_pos (by omega), D o0 og (by rw [nI_ofN]; exact hz), nI_ofN, Option.bind_some, D o1 og (by rw [nI_ofN]; exact hz), nI_ofN, Option.bind_some]
    simp only [if_true]
    rw [Nat.mod_eq_zero_of_dvd (Nat.gcd_dvd_left _ _), Nat.mod_eq_zero_of_dvd (Nat.gcd_dvd_right _ _), ofN_zero, if_neg (by simp [wrap64])]
end Go.Proofs.Yteelppebdcgbpaa.Pure
