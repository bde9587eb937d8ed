/- Whether a base tells that a number is no prime is told, and whether none of some does; and which small numbers are primes. -/
import Derived.Test.YteelppebdcgbpaaLModnTellsx1
import Derived.Test.YteelppebdcgbpaaQF
namespace Go.Proofs.Yteelppebdcgbpaa.Pure
open Go.RowKit Go.Proofs.Yteelppebdcgbpaa.LModnTells Go.Proofs.YteelppebdcgbpaaW.PrintWords Go.Proofs.YteelppebdcgbpaaW.PrintLast

theorem wf_u32 {x : Int} (h : (Lit.int .u32 x).wf = true) : 0 ≤ x ∧ x < 4294967296 := by
  have e : IntKind.u32.min ≤ x ∧ x ≤ IntKind.u32.max := by simpa [Lit.wf] using h
  have e0 : IntKind.u32.min = 0 := rfl
  have e1 : IntKind.u32.max = 4294967295 := rfl
  omega
theorem ModnTells : clepsydralaw03_ModnTells.Pure := by
  intro l0 l1 a2 _ _ hw0 _ _ hw1 hw2
  refine ⟨l1.length + 2, ?_⟩
  have J : clepsydralaw03_ModnTells.j0 (l1.length + 2) l0 l1 a2 true = some true := by
    simp only [clepsydralaw03_ModnTells.j0, if_true, clepsydralaw03_alive.f, Option.bind_some]
  unfold clepsydralaw03_ModnTells.f
  by_cases h0 : (l0.length : Int) > 3
  · rw [if_pos h0, J]
  rw [if_neg h0]
  by_cases h1 : (l1.length : Int) > 6
  · rw [decide_eq_true h1, J]
  rw [decide_eq_false h1]
  have k0 := okL (m := 3) (by omega) hw0
  have k1 := okL (m := 6) (by omega) hw1
  have u2 := wf_u32 hw2
  have T1 : ∀ x, 0 ≤ x → x < 18446744073709551616 → modn_Tells.f l0 x = some (tellsN (nI l0) x.toNat) := fun x h h' => if_pos ⟨k0.le (by omega), h, h'⟩
  have T2 : ∀ x, 0 ≤ x → x < 18446744073709551616 → clepsydraref03_Tells.f l0 x = some (tellsN (nI l0) x.toNat) := fun x h h' => if_pos ⟨k0.le (by omega), h, h'⟩
  have P1 : modn_Prime.f l0 l1 = some (primeN (nI l0) (toN l1)) := if_pos ⟨k0.le (by omega), k1.le (by omega)⟩
  have P2 : clepsydraref03_Prime.f l0 l1 = some (primeN (nI l0) (toN l1)) := if_pos ⟨k0.le (by omega), k1.le (by omega)⟩
  have S1 : modn_Sure.f a2 = some (sureN a2.toNat) := if_pos u2
  have S2 : clepsydraref03_Sure.f a2 = some (sureN a2.toNat) := if_pos u2
  simp only [clepsydralaw03_ModnTells.j0, Bool.false_eq_true, if_false]
  have key : ∀ (d i k : Nat), i + d = l1.length → d < k → clepsydralaw03_ModnTells.l0 k l0 l1 a2 (i : Int) = some true := by
    intro d
    induction d with
    | zero =>
      intro i k hi hk
      obtain ⟨k, rfl⟩ : ∃ q, k = q + 1 := ⟨k - 1, by omega⟩
      simp only [clepsydralaw03_ModnTells.l0, clepsydralaw03_alive.f, Option.bind_some, if_true]
      rw [if_neg (by omega), P1, P2, S1, S2]
      simp
    | succ d ih =>
      intro i k hi hk
      obtain ⟨k, rfl⟩ : ∃ q, k = q + 1 := ⟨k - 1, by omega⟩
      have hx : ∃ x : Nat, rd l1 (i : Int) = (x : Int) ∧ x < 18446744073709551616 := by
        refine ⟨gd (toN l1) i, rd_toN k1 (by omega), k1.b64.gd i⟩
      obtain ⟨x, e, hx⟩ := hx
      simp only [clepsydralaw03_ModnTells.l0]
      rw [if_pos (by omega), if_pos (by omega), e, T1 _ (by omega) (by omega), Option.bind_some, T2 _ (by omega) (by omega), Option.bind_some, if_neg (by simp), w64p (by omega)]
      exact ih (i + 1) k (by omega) (by omega)
  exact key l1.length 0 _ (by omega) (by omega)
end Go.Proofs.Yteelppebdcgbpaa.Pure
