/- Plain laws of slewing: parts add up, signs turn, and what is small is gone after 4096 seconds. -/
import Derived.Test.YtjcoeianmihojaaD4
namespace Go.Proofs.Ytjcoeianmihojaa
set_option linter.unusedSimpArgs false
set_option linter.unusedVariables false
open Go.RowKit

theorem leftN_add (i j : Nat) (l : Int) : leftN j (leftN i l) = leftN (i + j) l := by
  induction i generalizing l with
  | zero => simp [leftN]
  | succ i ih => rw [show i + 1 + j = (i + j) + 1 by omega, leftN, leftN, ih]
theorem sum_add (f l : Int) (i j : Nat) : SumN f l i + SumN f (leftN i l) j = SumN f l (i + j) := by
  unfold SumN; rw [leftN_add]; push_cast; rw [Int.add_mul]; omega
theorem sum_neg (f l : Int) (k : Nat) : SumN (-f) (-l) k = - SumN f l k := by
  unfold SumN; rw [leftN_neg, Int.mul_neg]; omega
theorem near_neg (x b : Int) : nearB (-x) b = nearB x b := by
  rw [Bool.eq_iff_iff, nearB_iff, nearB_iff]; omega
theorem may_neg (f l a p : Int) : mayB (-f) (-l) a p = mayB f l a p := by
  rw [Bool.eq_iff_iff, mayB_iff, mayB_iff]; omega
theorem pull_neg (a p o t : Int) : pull a p (-o) t = - pull a p o t := by
  unfold pull; rw [Int.neg_mul, Int.neg_tdiv, Int.neg_tdiv]
theorem freq_neg (f a p o t : Int) : freqU (-f) a p (-o) t = - freqU f a p o t := by
  unfold freqU; rw [pull_neg]; omega
theorem freq_zero {f a p t : Int} (h0 : -2147483 ≤ f) (h1 : f ≤ 2147483) : freqU f a p 0 t = f := by
  unfold freqU pull; simp only [Int.zero_mul, Int.zero_tdiv]; omega
theorem freq_bd (f a p o t : Int) : -2147483 ≤ freqU f a p o t ∧ freqU f a p o t ≤ 2147483 := by
  unfold freqU; omega

/-- a second, on numbers that are not below 0 -/
def sec (l : Nat) : Nat := if l < 64 then 0 else l - l / 64
def secN : Nat → Nat → Nat
  | 0, l => l
  | n + 1, l => secN n (sec l)
theorem sec_le {a b : Nat} (h : a ≤ b) : sec a ≤ sec b := by unfold sec; split <;> split <;> omega
theorem secN_le (n : Nat) {a b : Nat} (h : a ≤ b) : secN n a ≤ secN n b := by
  induction n generalizing a b with
  | zero => exact h
  | succ n ih => exact ih (sec_le h)
theorem sec_left (n : Nat) (l : Nat) : leftN n (l : Int) = (secN n l : Nat) := by
  induction n generalizing l with
  | zero => rfl
  | succ n ih =>
    rw [leftN, secN, ← ih]
    congr 1
    unfold part sec
    by_cases h : l < 64
    · rw [if_pos (by omega), if_pos h]; omega
    · rw [if_neg (by omega), if_neg h, Int.tdiv_eq_ediv_of_nonneg (by omega)]; omega
theorem secN_zero (n : Nat) : secN n 0 = 0 := by
  induction n with
  | zero => rfl
  | succ n ih => rw [secN]; exact ih
theorem secN_add (i j l : Nat) : secN j (secN i l) = secN (i + j) l := by
  induction i generalizing l with
  | zero => simp [secN]
  | succ i ih => rw [show i + 1 + j = (i + j) + 1 by omega, secN, secN, ih]
theorem sec_c0 : secN 256 549755814 = 9756150 := by decide +kernel
theorem sec_c1 : secN 256 9756150 = 173166 := by decide +kernel
theorem sec_c2 : secN 256 173166 = 3102 := by decide +kernel
theorem sec_c3 : secN 256 3102 = 90 := by decide +kernel
theorem sec_c4 : secN 256 90 = 0 := by decide +kernel
theorem sec_c5 : secN 256 0 = 0 := by decide +kernel
theorem sec_c6 : secN 256 0 = 0 := by decide +kernel
theorem sec_c7 : secN 256 0 = 0 := by decide +kernel
theorem sec_gone : secN 2048 549755814 = 0 := by
  rw [show 2048 = 256 + 1792 from rfl, ← secN_add, sec_c0]
  rw [show 1792 = 256 + 1536 from rfl, ← secN_add, sec_c1]
  rw [show 1536 = 256 + 1280 from rfl, ← secN_add, sec_c2]
  rw [show 1280 = 256 + 1024 from rfl, ← secN_add, sec_c3]
  rw [show 1024 = 256 + 768 from rfl, ← secN_add, sec_c4]
  rw [show 768 = 256 + 512 from rfl, ← secN_add, sec_c5]
  rw [show 512 = 256 + 256 from rfl, ← secN_add, sec_c6]
  exact sec_c7
theorem left_gone {l : Int} (h0 : -549755814 ≤ l) (h1 : l ≤ 549755814) : leftN 4096 l = 0 := by
  have key (m : Nat) (h : m ≤ 549755814) : secN 4096 m = 0 := by
    have := secN_le 2048 h
    rw [sec_gone] at this
    have e : secN 2048 m = 0 := by omega
    rw [show 4096 = 2048 + 2048 from rfl, ← secN_add, e, secN_zero]
  by_cases h : 0 ≤ l
  · obtain ⟨m, rfl⟩ : ∃ m : Nat, l = m := ⟨l.toNat, by omega⟩
    rw [sec_left, key m (by omega)]; rfl
  · obtain ⟨m, hm⟩ : ∃ m : Nat, -l = m := ⟨(-l).toNat, by omega⟩
    have : leftN 4096 (-l) = 0 := by rw [hm, sec_left, key m (by omega)]; rfl
    rw [leftN_neg] at this; omega
end Go.Proofs.Ytjcoeianmihojaa
