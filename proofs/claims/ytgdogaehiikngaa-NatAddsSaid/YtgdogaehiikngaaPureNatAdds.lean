/- Numbers are held against each other, added and taken away as the document says; they stay as they were. -/
import Derived.Test.YtgdogaehiikngaaLNatAddsx1
import Derived.Test.YtgdogaehiikngaaMF
import Derived.Test.YtgdogaehiikngaaMG
namespace Go.Proofs.Ytgdogaehiikngaa.Pure
open Go.RowKit Go.Proofs.Ytgdogaehiikngaa.LNatAdds Go.Proofs.YtgdogaehiikngaaW.PrintWords Go.Proofs.YtgdogaehiikngaaW.PrintLast

theorem nines (l0 l1 : List Int) (D : Nat) : ∀ (k i : Nat) (s : List Int), i + D = s.length → s.length ≤ 1000 → D < k → clepsydralaw01_NatAdds.l0 k l0 l1 l0 l1 s i = some true := by
  have S : ∀ a : List Int, clepsydraref01_Same.f a a = some true := fun a => by unfold clepsydraref01_Same.f; simp
  induction D with
  | zero =>
    intro k i s hi hs hk
    obtain ⟨k, rfl⟩ : ∃ m, k = m + 1 := ⟨k - 1, by omega⟩
    simp only [clepsydralaw01_NatAdds.l0]
    rw [if_neg (by omega)]
    simp only [clepsydralaw01_alive.f, S, Option.bind_some, if_true]
  | succ D ih =>
    intro k i s hi hs hk
    obtain ⟨k, rfl⟩ : ∃ m, k = m + 1 := ⟨k - 1, by omega⟩
    simp only [clepsydralaw01_NatAdds.l0]
    rw [if_pos (by omega), if_pos (by omega), wn1 (by omega)]
    exact ih k (i + 1) _ (by rw [List.length_set]; omega) (by rw [List.length_set]; omega) (by omega)
theorem NatAdds : clepsydralaw01_NatAdds.Pure := by
  intro l0 l1 _ _ hw0 _ _ hw1
  refine ⟨1000, ?_⟩
  unfold clepsydralaw01_NatAdds.f clepsydralaw01_heavy.f
  rw [show (1000 : Nat) = 999 + 1 from rfl]
  simp only [Option.bind_some, decide_eq_true_eq, clepsydralaw01_NatAdds.j0, clepsydralaw01_alive.f, if_true]
  by_cases h0 : (l0.length : Int) > 12
  · rw [if_pos h0]
  rw [if_neg h0]
  by_cases h1 : (l1.length : Int) > 12
  · rw [if_pos h1]
  rw [if_neg h1]
  have k0 := okL (m := 12) (by omega) hw0
  have k1 := okL (m := 12) (by omega) hw1
  have n0 := ln_nI k0
  have n1 := ln_nI k1
  have o0 := k0.le (m' := 262144) (by omega)
  have o1 := k1.le (m' := 262144) (by omega)
  have C : ∀ {a}, okN 12 a → clepsydralaw01_copied.f a = some a := fun ha => by have := ha.1; unfold clepsydralaw01_copied.f; rw [if_pos (by simp; omega)]; rfl
  have S : ∀ a : List Int, clepsydraref01_Same.f a a = some true := fun a => by unfold clepsydraref01_Same.f; simp
  have A : nat_Add.f l0 l1 = some (ofN (nI l0 + nI l1)) := if_pos ⟨o0, o1⟩
  have RA : clepsydraref01_Add.f l0 l1 = some (ofN (nI l0 + nI l1)) := if_pos ⟨o0, o1⟩
  have B : nat_Sub.f l0 l1 = some (ofN (nI l0 - nI l1), (if nI l0 < nI l1 then 10 else 0 : Int)) := if_pos ⟨o0, o1⟩
  have RB : clepsydraref01_Sub.f l0 l1 = some (ofN (nI l0 - nI l1), (if nI l0 < nI l1 then 10 else 0 : Int)) := if_pos ⟨o0, o1⟩
  have K : nat_Cmp.f l0 l1 = some (cmpN (nI l0) (nI l1)) := if_pos ⟨o0, o1⟩
  have RK : clepsydraref01_Cmp.f l0 l1 = some (cmpN (nI l0) (nI l1)) := if_pos ⟨o0, o1⟩
  have hl : (ofN (nI l0 + nI l1)).length ≤ 13 := by rw [ofN_length]; exact ln2 n0 n1 (by omega)
  rw [C k0, Option.bind_some, C k1, Option.bind_some, B, Option.bind_some, RB, Option.bind_some, A, Option.bind_some, K, Option.bind_some, RK, Option.bind_some, if_pos rfl, RA, Option.bind_some]
  simp only [S, Option.bind_some, if_true, bne_self_eq_false]
  rw [show (999 : Nat) = 998 + 1 from rfl]
  simp only [clepsydralaw01_NatAdds.j1, Bool.false_eq_true, if_false]
  exact nines l0 l1 (ofN (nI l0 + nI l1)).length _ 0 _ (by omega) (by omega) (by omega)
end Go.Proofs.Ytgdogaehiikngaa.Pure
