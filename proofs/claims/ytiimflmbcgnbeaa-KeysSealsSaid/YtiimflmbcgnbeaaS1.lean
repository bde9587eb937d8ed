/- The small functions of package sha: a turn of a word, the constants. -/
import Derived.Test.YtiimflmbcgnbeaaS0
namespace Go.Proofs.Ytiimflmbcgnbeaa
set_option linter.unusedSimpArgs false
set_option linter.unusedVariables false
open Go.RowKit

theorem neg_and {n m : Nat} (hm : m + n = 32) (hn : 0 < n) (h2 : 0 < m) : Go.bits .and .u64 (IntKind.u64.wrap (-(n : Int))) 31 = (m : Int) := by
  have e : IntKind.u64.wrap (-(n : Int)) = ((18446744073709551616 - n : Nat) : Int) := by rw [IntKind.wrap_u64]; omega
  have := and_u64 (a := 18446744073709551616 - n) (b := 31) (by omega) (by omega)
  rw [show ((31 : Nat) : Int) = 31 from rfl] at this
  rw [e, this, show (31 : Nat) = 2 ^ 5 - 1 from rfl, Nat.and_two_pow_sub_one_eq_mod]
  omega
set_option maxHeartbeats 400000 in
theorem rotl_any (w : World) {x n : Nat} (hx : x < 4294967296) (hn : 0 < n) (hn2 : n < 32) :
    Calls Try.prog 69 #[.int .u32 x, .int .i64 (-(n : Int))] w fun e w' => e = .returned (.int .u32 ((rot x n : Nat) : Int)) ∧ w = w' := by
  obtain ⟨m, hm⟩ : ∃ m, m + n = 32 := ⟨32 - n, by omega⟩
  have hb := neg_and hm hn (by omega)
  have HM := Lib.hid hm
  have hs : (32 : Int) - (m : Int) = (n : Int) := by omega
  have h63 : ((m : Int)).toNat = m := by omega
  clear hm
  go_enter Try.func69, Try.ntmps69
  go_wp2
  go_ret
  refine ⟨?_, rfl⟩
  refine ret_int ?_
  have e1 : (x : Int) * 2 ^ m % 4294967296 = ((x * 2 ^ m % 4294967296 : Nat) : Int) := by rw [Int.natCast_emod, Int.natCast_mul, Int.natCast_pow]; rfl
  have e2 : (x : Int) / 2 ^ n = ((x / 2 ^ n : Nat) : Int) := by rw [Int.natCast_ediv, Int.natCast_pow]; rfl
  rw [e1, e2, u32_or_nat _ _ (Nat.mod_lt _ (by omega)) (Nat.lt_of_le_of_lt (Nat.div_le_self _ _) hx), Nat.or_comm]
  unfold rot
  rw [show 32 - n = m by have := HM.out; omega]
theorem turn_any (w : World) (z : Int) {x n : Nat} (hz : z = (n : Int)) (hx : x < 4294967296) (hn : 0 < n) (hn2 : n < 32) :
    Calls Try.prog 66 #[.int .u32 x, .int .i64 z] w fun e w' => e = .returned (.int .u32 ((rot x n : Nat) : Int)) ∧ w' = w := by
  subst hz
  have HR := Lib.hid (rotl_any w hx hn hn2)
  go_enter Try.func66, Try.ntmps66
  go_wp2_with fail
  refine HR.out.mono ?_
  rintro e w' ⟨rfl, rfl⟩
  go_wp2_with fail
  go_ret
  exact ⟨rfl, rfl⟩
end Go.Proofs.Ytiimflmbcgnbeaa
