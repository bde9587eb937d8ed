/- What is written is read again, and what is moved up is moved down again. -/
import Derived.Test.YtgdogaehiikngaaLNatWrittenx1
import Derived.Test.YtgdogaehiikngaaMF
namespace Go.Proofs.Ytgdogaehiikngaa.Pure
open Go.RowKit Go.Proofs.Ytgdogaehiikngaa.LNatWritten Go.Proofs.YtgdogaehiikngaaW.PrintWords Go.Proofs.YtgdogaehiikngaaW.PrintLast

/-- the last binary digits of any whole number -/
theorem and_low7 (n : Int) : Go.bits .and .i64 n 7 = n % 8 := by
  have h : (BitVec.ofInt 64 7).toNat = 2 ^ 3 - 1 := by decide
  have key : (BitVec.ofInt 64 n &&& BitVec.ofInt 64 7).toNat = (n % ((2 ^ 64 : Nat) : Int)).toNat % 2 ^ 3 := by
    rw [BitVec.toNat_and, BitVec.toNat_ofInt, h, Nat.and_two_pow_sub_one_eq_mod]
  show IntKind.i64.wrap ((BitVec.ofInt 64 n &&& BitVec.ofInt 64 7).toNat : Nat) = n % 8
  rw [key, IntKind.wrap_i64]
  omega
theorem and_low511 (n : Int) : Go.bits .and .i64 n 511 = n % 512 := by
  have h : (BitVec.ofInt 64 511).toNat = 2 ^ 9 - 1 := by decide
  have key : (BitVec.ofInt 64 n &&& BitVec.ofInt 64 511).toNat = (n % ((2 ^ 64 : Nat) : Int)).toNat % 2 ^ 9 := by
    rw [BitVec.toNat_and, BitVec.toNat_ofInt, h, Nat.and_two_pow_sub_one_eq_mod]
  show IntKind.i64.wrap ((BitVec.ofInt 64 n &&& BitVec.ofInt 64 511).toNat : Nat) = n % 512
  rw [key, IntKind.wrap_i64]
  omega
theorem NatWritten : clepsydralaw01_NatWritten.Pure := by
  intro l0 a1 a2 _ _ hw0 hw1 hw2
  refine ⟨3, ?_⟩
  have b1 := i64_wf hw1
  have b2 := i64_wf hw2
  unfold clepsydralaw01_NatWritten.f clepsydralaw01_heavy.f
  simp only [Option.bind_some, decide_eq_true_eq, clepsydralaw01_NatWritten.j0, clepsydralaw01_alive.f, if_true]
  by_cases h0 : (l0.length : Int) > 12
  · rw [if_pos h0]
  rw [if_neg h0]
  have k0 := okL (m := 12) (by omega) hw0
  have n0 := ln_nI k0
  have o0 := k0.le (m' := 262144) (by omega)
  have hb : blen (nI l0) ≤ 768 := by have := blen_le.2 (by have := lt_ln (nI l0); rwa [wpow] at this); omega
  have M : ∀ {a b}, okN 262144 a → okN 262144 b → nat_Mul.f a b = some (ofN (nI a * nI b)) := fun ha hb => if_pos ⟨ha, hb⟩
  have T : ∀ {a}, okN 262144 a → nat_Trim.f a = some (ofN (nI a)) := fun ha => if_pos ha
  have H : ∀ {a b}, okN 262144 a → nat_Shift.f a b = some (ofN (shiftN (nI a) b)) := fun ha => if_pos ha
  have Wr : ∀ {a b}, okN 262144 a → nat_Write.f a b = some (writeR (nI a) b) := fun ha => if_pos ha
  have S : ∀ a b : Nat, a = b → clepsydraref01_Same.f (ofN a) (ofN b) = some true := fun a b h => by subst h; unfold clepsydraref01_Same.f; simp
  obtain ⟨p, e1, m1⟩ : ∃ p : Nat, Go.bits .and .i64 a1 7 = (p : Int) ∧ p < 8 := ⟨(a1 % 8).toNat, by rw [and_low7]; omega, by omega⟩
  obtain ⟨n, e2, m2⟩ : ∃ n : Nat, Go.bits .and .i64 a2 511 = (n : Int) ∧ n < 512 := ⟨(a2 % 512).toNat, by rw [and_low511]; omega, by omega⟩
  rw [e1, e2]
  have E1 := Lib.hid e1
  clear e1 e2
  have hBits : nat_Bits.f l0 = some ((blen (nI l0) : Nat) : Int) := if_pos o0
  generalize hx : nI l0 = x at *
  rw [hBits, Option.bind_some]
  clear hBits
  have es : wrap64 (wrap64 (Int.tdiv (wrap64 (((blen x : Nat) : Int) + 7)) 8) + (p : Int)) = (((blen x + 7) / 8 + p : Nat) : Int) := by
    rw [wr (x := ((blen x : Nat) : Int) + 7) (by omega) (by omega), show ((blen x : Nat) : Int) + 7 = ((blen x + 7 : Nat) : Int) by omega, wnd8 (by omega), wr (by omega) (by omega)]; omega
  rw [es]
  clear es
  generalize hs : (blen x + 7) / 8 = s at *
  have hw : writeR x ((s + p : Nat) : Int) = (beB x (s + p), 0) := by
    unfold writeR
    rw [if_neg (by omega), if_neg (by omega)]; rfl
  rw [Wr o0, hx, hw, Option.bind_some]
  simp only [if_true, beB_length]
  have hread : nat_Read.f (beB x (s + p)) = some (ofN x) := by
    have h1 : nat_Read.f (beB x (s + p)) = some (ofN (beV (beB x (s + p)))) := if_pos ⟨okB_beB _ _, by rw [beB_length]; omega⟩
    rw [h1, beV_beB, Nat.mod_eq_of_lt]
    rw [p256]
    exact blen_le.1 (by omega)
  rw [hread, Option.bind_some, T o0, hx, Option.bind_some, S _ _ rfl, Option.bind_some]
  simp only [Bool.not_true, Bool.false_eq_true, if_false]
  have u1 : shiftN x (n : Int) = x * 2 ^ n := by unfold shiftN; rw [if_pos (by omega)]; congr 2; omega
  have u2 : shiftN 1 (n : Int) = 2 ^ n := by unfold shiftN; rw [if_pos (by omega), Nat.one_mul]; congr 1; omega
  have u3 : shiftN (x * 2 ^ n) (wrap64 (-(n : Int))) = x := by
    rw [wr (by omega) (by omega)]
    unfold shiftN
    split
    · have : n = 0 := by omega
      subst this
      have hz : (min (0 : Int) 65536).toNat = 0 := by decide
      simp [hz]
    · rw [show (min (- -(n : Int)) 65536).toNat = n by omega, Nat.mul_div_cancel _ (Nat.pow_pos (by omega))]
  have l1 : ln (x * 2 ^ n) ≤ 20 := lnp n0 (by omega)
  have l2 : ln (2 ^ n) ≤ 9 := by have := lnp (a := 1) (n := n) (m := 9) (ln_small (by omega)) (by omega); rwa [Nat.one_mul] at this
  have hOf : nat_Of.f 1 = some (ofN 1) := if_pos (by omega)
  rw [H o0, hx, u1, Option.bind_some, hOf, Option.bind_some, H (ok (ln_small (by omega)) (by omega)), nI_ofN, u2, Option.bind_some, H (ok l1 (by omega)), nI_ofN, u3, Option.bind_some, Option.bind_some, S _ _ rfl, Option.bind_some]
  simp only [if_true]
  rw [M o0 (ok l2 (by omega)), hx, nI_ofN, Option.bind_some, S _ _ rfl, Option.bind_some]
  simp only [clepsydralaw01_NatWritten.j1, Bool.not_true, Bool.false_eq_true, if_false, clepsydralaw01_alive.f, Option.bind_some, if_true]
  have es2 : wrap64 (((s + p : Nat) : Int) - (p : Int)) = (s : Int) := by rw [wr (by omega) (by omega)]; omega
  rw [E1.out, es2, wr (x := (s : Int) - 1) (by omega) (by omega), Wr o0, hx, Option.bind_some]
  by_cases hs0 : s = 0
  · subst hs0
    have : writeR x ((0 : Nat) - 1 : Int) = ([], 1) := by unfold writeR; rw [if_pos (by omega)]
    rw [this]; rfl
  · rw [if_pos (by omega)]
    have : writeR x ((s : Int) - 1) = ([], 12) := by
      unfold writeR
      rw [if_neg (by omega), if_pos (by omega)]
    rw [this]; rfl
end Go.Proofs.Ytgdogaehiikngaa.Pure
