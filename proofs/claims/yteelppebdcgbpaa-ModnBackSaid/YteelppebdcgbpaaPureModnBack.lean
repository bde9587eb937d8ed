/- A number times its inverse is 1, and there is an inverse just if there is no common divisor but 1. -/
import Derived.Test.YteelppebdcgbpaaLModnBackx1
import Derived.Test.YteelppebdcgbpaaMG
namespace Go.Proofs.Yteelppebdcgbpaa.Pure
open Go.RowKit Go.Proofs.Yteelppebdcgbpaa.LModnBack Go.Proofs.YteelppebdcgbpaaW.PrintWords Go.Proofs.YteelppebdcgbpaaW.PrintLast

theorem ModnBack : clepsydralaw03_ModnBack.Pure := by
  intro l0 l1 _ _ hw0 _ _ hw1
  refine ⟨1, ?_⟩
  have J : clepsydralaw03_ModnBack.j0 1 l0 l1 true = some true := by
    simp only [clepsydralaw03_ModnBack.j0, if_true, clepsydralaw03_alive.f, Option.bind_some]
  unfold clepsydralaw03_ModnBack.f clepsydralaw03_heavy.f
  simp only [Option.bind_some, decide_eq_true_eq, J]
  by_cases h0 : (l0.length : Int) > 5
  · rw [if_pos h0]
  rw [if_neg h0]
  by_cases h1 : (l1.length : Int) > 5
  · rw [if_pos h1]
  rw [if_neg h1]
  have k0 := okL (m := 5) (by omega) hw0
  have k1 := okL (m := 5) (by omega) hw1
  have n0 := ln_nI k0
  have n1 := ln_nI k1
  have B : nat_Bits.f l1 = some ((blen (nI l1) : Nat) : Int) := if_pos (k1.le (by omega))
  rw [B, Option.bind_some]
  by_cases hz : blen (nI l1) = 0
  · rw [hz]; exact J
  have hm : nI l1 ≠ 0 := fun h => hz (by rw [h, blen_zero])
  rw [show (((blen (nI l1) : Nat) : Int) == 0) = false by simp; exact hz]
  have I : modn_Inverse.f l0 l1 = some (invR (nI l0) (nI l1)) := if_pos ⟨k0.le (by omega), k1.le (by omega)⟩
  have O : nat_Of.f 1 = some (ofN 1) := by unfold nat_Of.f; rw [if_pos (by omega)]; rfl
  have G : modn_Gcd.f l0 l1 = some (ofN (Nat.gcd (nI l0) (nI l1))) := if_pos ⟨k0.le (by omega), k1.le (by omega)⟩
  have C : ∀ {a b}, okN 262144 a → okN 262144 b → nat_Cmp.f a b = some (cmpN (nI a) (nI b)) := fun ha hb => if_pos ⟨ha, hb⟩
  have M : ∀ {a b c}, okN 131072 a → okN 131072 b → okN 262144 c → nI c ≠ 0 → modn_Mul.f a b c = some (ofN (nI a * nI b % nI c), 0) := fun ha hb hc h => by
    unfold modn_Mul.f; rw [if_pos ⟨ha, hb, hc⟩, modR_pos (by omega)]
  have D : ∀ {a b}, okN 262144 a → okN 262144 b → nI b ≠ 0 → modn_Mod.f a b = some (ofN (nI a % nI b), 0) := fun ha hb h => by
    unfold modn_Mod.f; rw [if_pos ⟨ha, hb⟩, modR_pos (by omega)]
  have S : ∀ a b : Nat, a = b → clepsydraref01_Same.f (ofN a) (ofN b) = some true := fun a b h => by subst h; unfold clepsydraref01_Same.f; simp
  have lg : ln (Nat.gcd (nI l0) (nI l1)) ≤ 5 := Nat.le_trans (ln_mono (Nat.gcd_le_right _ (by omega))) n1
  simp only [clepsydralaw03_ModnBack.j0, Bool.false_eq_true, if_false]
  rw [I, Option.bind_some, O, Option.bind_some, G, Option.bind_some, C (ok lg (by omega)) (okS (by omega)), nI_ofN, nI_ofN, Option.bind_some]
  by_cases hg : Nat.gcd (nI l0) (nI l1) = 1
  · obtain ⟨hi1, hi2⟩ := invN_gcd hm hg
    have li : ln (invN (nI l0) (nI l1)) ≤ 5 := Nat.le_trans (ln_mono (Nat.le_of_lt hi1)) n1
    rw [cmpN_eq hg, if_pos rfl, invR_pos hm hg]
    simp only
    rw [M (k0.le (by omega)) (okN_ofN (by omega)) (k1.le (by omega)) hm, nI_ofN, Option.bind_some, D (okS (by omega)) (k1.le (by omega)) hm, nI_ofN, Option.bind_some]
    simp only [clepsydralaw03_alive.f, Option.bind_some, if_true]
    rw [C (ok li (by omega)) (k1.le (by omega)), nI_ofN, Option.bind_some, cmpN_lt hi1, if_pos (by decide), S _ _ hi2, Option.bind_some]
  · have hc : cmpN (Nat.gcd (nI l0) (nI l1)) 1 ≠ 0 := by
      unfold cmpN; split
      · omega
      · rw [if_pos (by omega)]; omega
    rw [if_neg hc]
    unfold invR
    rw [if_neg hm, if_neg hg]
    simp only [clepsydralaw03_alive.f, Option.bind_some, if_true]
    rfl
end Go.Proofs.Yteelppebdcgbpaa.Pure
