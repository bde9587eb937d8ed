/- Operations on bits, said of natural numbers. -/
import Derived.Test.YtkmabfdnekphnaaB0
import Derived.Lib.BitFns
namespace Go.Proofs.Ytkmabfdnekphnaa
set_option linter.unusedSimpArgs false
set_option linter.unusedVariables false
set_option maxRecDepth 100000
open Go.RowKit

theorem wraps_u64 (n : Int) (h0 : 0 ≤ n) (h1 : n < 2 ^ 64) : IntKind.u64.wrap n = n := by rw [IntKind.wrap_u64]; omega
theorem wraps_u32 (n : Int) (h0 : 0 ≤ n) (h1 : n < 2 ^ 32) : IntKind.u32.wrap n = n := by rw [IntKind.wrap_u32]; omega
theorem wraps_i64 (n : Int) (h0 : 0 ≤ n) (h1 : n < 2 ^ 63) : IntKind.i64.wrap n = n := by rw [IntKind.wrap_i64]; omega
theorem or_u64 {a b : Nat} (ha : a < 18446744073709551616) (hb : b < 18446744073709551616) : bits .or .u64 (a : Int) (b : Int) = ((a ||| b : Nat) : Int) := (bits_nat .u64 64 (by decide) wraps_u64 a b ha hb).2
theorem and_u64 {a b : Nat} (ha : a < 18446744073709551616) (hb : b < 18446744073709551616) : bits .and .u64 (a : Int) (b : Int) = ((a &&& b : Nat) : Int) := (bits_nat .u64 64 (by decide) wraps_u64 a b ha hb).1
theorem or_u32 {a b : Nat} (ha : a < 4294967296) (hb : b < 4294967296) : bits .or .u32 (a : Int) (b : Int) = ((a ||| b : Nat) : Int) := (bits_nat .u32 32 (by decide) wraps_u32 a b ha hb).2
theorem and_u32 {a b : Nat} (ha : a < 4294967296) (hb : b < 4294967296) : bits .and .u32 (a : Int) (b : Int) = ((a &&& b : Nat) : Int) := (bits_nat .u32 32 (by decide) wraps_u32 a b ha hb).1
theorem or_u8 {a b : Nat} (ha : a < 256) (hb : b < 256) : bits .or .u8 (a : Int) (b : Int) = ((a ||| b : Nat) : Int) := (bits_nat .u8 8 (by decide) wraps_u8 a b ha hb).2
theorem and_u8 {a b : Nat} (ha : a < 256) (hb : b < 256) : bits .and .u8 (a : Int) (b : Int) = ((a &&& b : Nat) : Int) := (bits_nat .u8 8 (by decide) wraps_u8 a b ha hb).1
/-- bits that do not meet: the sum -/
theorem or_apart {a b i : Nat} (hb : b < 2 ^ i) (ha : a % 2 ^ i = 0) : a ||| b = a + b := by
  have hq : a = 2 ^ i * (a / 2 ^ i) := by have := Nat.div_add_mod a (2 ^ i); omega
  rw [hq, ← Nat.two_pow_add_eq_or_of_lt hb (a / 2 ^ i)]
theorem and_mask (a i : Nat) : a &&& (2 ^ i - 1) = a % 2 ^ i := Nat.and_two_pow_sub_one_eq_mod a i
theorem wrap_u64_nat (a : Nat) : IntKind.u64.wrap (a : Int) = ((a % 18446744073709551616 : Nat) : Int) := by rw [IntKind.wrap_u64]; omega
/-- where the highest binary digit stands -/
theorem bitLen_spec (x : Nat) (h0 : x ≠ 0) (h : x < 2 ^ 64) : ∃ k, Lib.bitLen x = k + 1 ∧ k < 64 ∧ 2 ^ k ≤ x ∧ x < 2 ^ (k + 1) := by
  have key : ∀ n x : Nat, x ≠ 0 → x < 2 ^ n → n ≤ 64 → ∃ k, Lib.bitLen x = k + 1 ∧ k < n ∧ 2 ^ k ≤ x ∧ x < 2 ^ (k + 1) := by
    intro n
    induction n with
    | zero => intro x h0 h _; simp at h; omega
    | succ n ih =>
      intro x h0 h hn
      by_cases h1 : x = 1
      · subst h1; exact ⟨0, rfl, by omega, by decide, by decide⟩
      · obtain ⟨k, e, hk, h2, h3⟩ := ih (x / 2) (by omega) (by rw [Nat.pow_succ] at h; omega) (by omega)
        have hx64 : x < 2 ^ 64 := Nat.lt_of_lt_of_le h (Nat.pow_le_pow_right (by omega) hn)
        refine ⟨k + 1, by rw [Lib.bitLen_half x h0 hx64, e]; omega, by omega, ?_, ?_⟩
        · rw [Nat.pow_succ]; omega
        · rw [Nat.pow_succ] at h3 ⊢; rw [Nat.pow_succ]; omega
  exact key 64 x h0 h (Nat.le_refl _)
theorem bitLen_zero : Lib.bitLen 0 = 0 := by decide
end Go.Proofs.Ytkmabfdnekphnaa
