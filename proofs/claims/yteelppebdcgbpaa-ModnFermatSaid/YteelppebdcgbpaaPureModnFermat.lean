/- No base tells of a prime, and of the others below a million one of 2, 3, 5, 7 does. -/
import Derived.Test.YteelppebdcgbpaaLModnFermatx1
import Derived.Test.YteelppebdcgbpaaQF
namespace Go.Proofs.Yteelppebdcgbpaa.Pure
open Go.RowKit Go.Proofs.Yteelppebdcgbpaa.LModnFermat Go.Proofs.YteelppebdcgbpaaW.PrintWords Go.Proofs.YteelppebdcgbpaaW.PrintLast

theorem wf_u32' {x : Int} (h : (Lit.int .u32 x).wf = true) : 0 ≤ x ∧ x < 4294967296 := by
  have e : IntKind.u32.min ≤ x ∧ x ≤ IntKind.u32.max := by simpa [Lit.wf] using h
  have e0 : IntKind.u32.min = 0 := rfl
  have e1 : IntKind.u32.max = 4294967295 := rfl
  omega
theorem wf_u64' {x : Int} (h : (Lit.int .u64 x).wf = true) : 0 ≤ x ∧ x < 18446744073709551616 := by
  have e : IntKind.u64.min ≤ x ∧ x ≤ IntKind.u64.max := by simpa [Lit.wf] using h
  have e0 : IntKind.u64.min = 0 := rfl
  have e1 : IntKind.u64.max = 18446744073709551615 := rfl
  omega
theorem tmodc (m : Nat) : Int.tmod (m : Int) 1000003 = ((m % 1000003 : Nat) : Int) := by rw [Int.tmod_eq_emod_of_nonneg (by omega)]; omega
theorem ModnFermat : clepsydralaw03_ModnFermat.Pure := by
  intro a0 a1 hw0 hw1
  refine ⟨1, ?_⟩
  have u0 := wf_u32' hw0
  have u1 := wf_u64' hw1
  obtain ⟨m, rfl⟩ : ∃ m : Nat, a0 = m := ⟨a0.toNat, by omega⟩
  obtain ⟨b, rfl⟩ : ∃ b : Nat, a1 = b := ⟨a1.toNat, by omega⟩
  obtain ⟨n, hn⟩ : ∃ n, m % 1000003 = n := ⟨_, rfl⟩
  have hlt : n < 1000003 := by rw [← hn]; exact Nat.mod_lt _ (by omega)
  have ew : IntKind.u64.wrap (n : Int) = (n : Int) := u64w (by omega)
  unfold clepsydralaw03_ModnFermat.f
  have et : Int.tmod (m : Int) 1000003 = (n : Int) := by rw [← hn]; exact tmodc m
  rw [et, ew]
  have O : nat_Of.f (n : Int) = some (ofN n) := by unfold nat_Of.f; rw [if_pos (by omega), Int.toNat_natCast]
  have S1 : modn_Sure.f (n : Int) = some (sureN n) := by unfold modn_Sure.f; rw [if_pos (by omega), Int.toNat_natCast]
  have kn : okN 1024 (ofN n) := okN_ofN (Nat.le_trans (ln_small (by omega)) (by omega))
  have T1 : modn_Tells.f (ofN n) (b : Int) = some (tellsN n b) := by unfold modn_Tells.f; rw [if_pos ⟨kn, by omega, by omega⟩, nI_ofN, Int.toNat_natCast]
  have kb : okN 1048576 [2, 3, 5, 7] := ⟨by simp, fun x hx => by simp at hx; omega⟩
  have P1 : modn_Prime.f (ofN n) [2, 3, 5, 7] = some (sureN n) := by
    unfold modn_Prime.f
    rw [if_pos ⟨kn, kb⟩, nI_ofN, ← prime_sure hlt]; rfl
  have J : clepsydralaw03_ModnFermat.j0 1 (n : Int) (ofN n) false = some true := by
    show (if false = true then some false else (clepsydralaw03_alive.f).bind fun t106 => (if t106 = true then ((modn_Prime.f (ofN n) [2, 3, 5, 7]).bind fun t110 => ((modn_Sure.f (n : Int)).bind fun t111 => (some (t110 == t111)))) else (some false))) = some true
    unfold clepsydralaw03_alive.f
    rw [if_neg (by decide), Option.bind_some, if_pos rfl, P1, Option.bind_some, S1, Option.bind_some, beq_self_eq_true]
  rw [O, Option.bind_some, S1, Option.bind_some]
  cases e : sureN n
  · rw [if_neg (by decide)]; exact J
  · rw [if_pos rfl, T1, Option.bind_some, tells_prime (sure_prime e)]; exact J
end Go.Proofs.Yteelppebdcgbpaa.Pure
