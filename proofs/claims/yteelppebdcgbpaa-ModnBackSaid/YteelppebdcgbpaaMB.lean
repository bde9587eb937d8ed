/- Texts of this claim, joined: N7, N8, N9, Na, Nb, Nc, Nd. -/
import Derived.Test.YteelppebdcgbpaaMA
import Derived.Deep.DeepCutAuto
import Derived.Deep.CutBlock
import Derived.Deep.RegionHeld3

/- Two limbs parted by one: the plain law of the library's way, by digits of 32 binary digits. -/
namespace Go.Proofs.Yteelppebdcgbpaa
set_option linter.unusedSimpArgs false
set_option linter.unusedVariables false

/-- a guess of a digit: q times a, and r, is U; the right digit is not above q -/
def DI (U u a b q r : Nat) : Prop := q * a + r = U ∧ (U * 4294967296 + u) / (a * 4294967296 + b) ≤ q ∧ q ≤ 4294967297
section
variable {U u a b q r : Nat}
theorem dg_pos (ha : 2147483648 ≤ a) : 0 < a * 4294967296 + b := by omega
theorem DI.start (ha : 2147483648 ≤ a) (ha2 : a < 4294967296) (hb : b < 4294967296) (hU : U < a * 4294967296 + b) (hu : u < 4294967296) : DI U u a b (U / a) (U - U / a * a) := by
  have h1 := Nat.div_mul_le_self U a
  refine ⟨by omega, ?_, ?_⟩
  · rw [Nat.le_div_iff_mul_le (by omega)]
    have h2 := Nat.div_mul_le_self (U * 4294967296 + u) (a * 4294967296 + b)
    generalize (U * 4294967296 + u) / (a * 4294967296 + b) = Q at *
    rw [Nat.mul_add, ← Nat.mul_assoc] at h2
    omega
  · have : U / a < 4294967298 := by
      rw [Nat.div_lt_iff_lt_mul (by omega)]; omega
    omega
theorem DI.rest (h : DI U u a b q r) (hq : q = U / a) (ha : 2147483648 ≤ a) : r < a := by
  have := Nat.div_add_mod U a
  have h3 := Nat.mod_lt U (show 0 < a by omega)
  obtain ⟨h1, _⟩ := h
  rw [hq, Nat.mul_comm] at h1
  omega
/-- the test says that the guess is too great -/
theorem DI.great (h : DI U u a b q r) (ha : 2147483648 ≤ a) (hU : U < a * 4294967296 + b) (hu : u < 4294967296) (ht : 4294967296 ≤ q ∨ 4294967296 * r + u < q * b) : (U * 4294967296 + u) / (a * 4294967296 + b) < q := by
  obtain ⟨h1, h2, _⟩ := h
  rw [Nat.div_lt_iff_lt_mul (dg_pos ha)]
  rcases ht with ht | ht
  · have := Nat.mul_le_mul_right (a * 4294967296 + b) ht
    omega
  · rw [Nat.mul_add, ← Nat.mul_assoc]
    have e := congrArg (· * 4294967296) h1
    simp only [Nat.add_mul] at e
    omega
theorem DI.next (h : DI U u a b q r) (ha : 2147483648 ≤ a) (hU : U < a * 4294967296 + b) (hu : u < 4294967296) (ht : 4294967296 ≤ q ∨ 4294967296 * r + u < q * b) : 0 < q ∧ DI U u a b (q - 1) (r + a) ∧ q - 1 ≤ 4294967296 := by
  have hg := h.great ha hU hu ht
  obtain ⟨h1, h2, h3⟩ := h
  unfold DI
  generalize (U * 4294967296 + u) / (a * 4294967296 + b) = Q at *
  refine ⟨by omega, ⟨?_, by omega, by omega⟩, by omega⟩
  obtain ⟨p, rfl⟩ : ∃ p, q = p + 1 := ⟨q - 1, by omega⟩
  rw [Nat.add_mul] at h1
  rw [Nat.add_sub_cancel]; omega
/-- the test says that the guess is right -/
theorem DI.right (h : DI U u a b q r) (ha : 2147483648 ≤ a) (ht : q * b ≤ 4294967296 * r + u) : q = (U * 4294967296 + u) / (a * 4294967296 + b) := by
  obtain ⟨h1, h2, _⟩ := h
  refine Nat.le_antisymm ?_ h2
  rw [Nat.le_div_iff_mul_le (dg_pos ha), Nat.mul_add, ← Nat.mul_assoc]
  have e := congrArg (· * 4294967296) h1
  simp only [Nat.add_mul] at e
  omega
theorem DI.stop (h : DI U u a b q r) (ha : 2147483648 ≤ a) (hb : b < 4294967296) (hq : q ≤ 4294967296) (hr : 4294967296 ≤ r) : q = (U * 4294967296 + u) / (a * 4294967296 + b) := by
  refine h.right ha ?_
  have := Nat.mul_le_mul hq (Nat.le_of_lt hb)
  omega
theorem dg_lt (ha : 2147483648 ≤ a) (hU : U < a * 4294967296 + b) (hu : u < 4294967296) : (U * 4294967296 + u) / (a * 4294967296 + b) < 4294967296 := by
  rw [Nat.div_lt_iff_lt_mul (dg_pos ha)]; omega
end

/-- all moved up by s binary digits -/
theorem shift_parts {hi lo y s : Nat} (hs : s ≤ 63) (hlo : lo < 18446744073709551616) (hy : hi < y) (hY : y * 2 ^ s < 18446744073709551616) :
    ((hi * 18446744073709551616 + lo) * 2 ^ s = (hi * 2 ^ s + lo / 2 ^ (64 - s)) * 18446744073709551616 + lo * 2 ^ s % 18446744073709551616) ∧ hi * 2 ^ s + lo / 2 ^ (64 - s) < y * 2 ^ s ∧ lo / 2 ^ (64 - s) < 2 ^ s ∧ hi * 2 ^ s < 18446744073709551616 := by
  have e64 : 2 ^ (64 - s) * 2 ^ s = 18446744073709551616 := by rw [← Nat.pow_add, Nat.sub_add_cancel (by omega)]
  have hp : 0 < 2 ^ (64 - s) := Nat.pow_pos (by omega)
  have hp2 : 0 < 2 ^ s := Nat.pow_pos (by omega)
  have e1 : lo * 2 ^ s / 18446744073709551616 = lo / 2 ^ (64 - s) := by rw [← e64, Nat.mul_div_mul_right _ _ hp2]
  have hL : lo / 2 ^ (64 - s) < 2 ^ s := by rw [Nat.div_lt_iff_lt_mul hp, Nat.mul_comm, e64]; exact hlo
  have h1 : (hi + 1) * 2 ^ s ≤ y * 2 ^ s := Nat.mul_le_mul_right _ hy
  rw [Nat.add_mul] at h1
  have h2 := Nat.div_add_mod (lo * 2 ^ s) 18446744073709551616
  rw [e1] at h2
  refine ⟨?_, by omega, hL, by omega⟩
  rw [Nat.add_mul, Nat.mul_assoc, Nat.mul_comm 18446744073709551616 (2 ^ s), ← Nat.mul_assoc]
  omega

theorem mrc (a b c d : Nat) : (a * b + c) * d = a * d * b + c * d := by rw [Nat.add_mul, Nat.mul_right_comm]
theorem join_parts' {B A d m P1 u P2 R : Nat} (h1 : A * B + d = P1 + u) (h2 : u * B + m = P2 + R) : A * (B * B) + (B * d + m) = P1 * B + P2 + R := by
  have h := congrArg (· * B) h1
  simp only [Nat.add_mul] at h
  rw [← Nat.mul_assoc, Nat.mul_comm B d]
  omega
theorem join_parts {A t P1 u P2 R : Nat} (h1 : A * 4294967296 + t / 4294967296 = P1 + u) (h2 : u * 4294967296 + t % 4294967296 = P2 + R) : A * 18446744073709551616 + t = P1 * 4294967296 + P2 + R := by
  have h := join_parts' h1 h2
  rw [Nat.div_add_mod] at h
  exact h
theorem div_final {hi lo y s Y un32 un10 Q1 u21 Q0 R : Nat} (hy0 : 0 < y) (hY : Y = y * 2 ^ s) (hN : (hi * 18446744073709551616 + lo) * 2 ^ s = un32 * 18446744073709551616 + un10)
    (h1 : un32 * 4294967296 + un10 / 4294967296 = Q1 * Y + u21) (h2 : u21 * 4294967296 + un10 % 4294967296 = Q0 * Y + R) (hR : R < Y) :
    (hi * 18446744073709551616 + lo) / y = Q1 * 4294967296 + Q0 ∧ (hi * 18446744073709551616 + lo) % y = R / 2 ^ s := by
  have hp2 : 0 < 2 ^ s := Nat.pow_pos (by omega)
  have hYp : 0 < Y := by rw [hY]; exact Nat.mul_pos hy0 hp2
  have e : (hi * 18446744073709551616 + lo) * 2 ^ s = (Q1 * 4294967296 + Q0) * Y + R := by
    rw [hN, mrc]
    exact join_parts h1 h2
  have q1 : (hi * 18446744073709551616 + lo) / y = Q1 * 4294967296 + Q0 := by
    rw [← Nat.mul_div_mul_right _ _ hp2, ← hY, e, Nat.add_comm, Nat.add_mul_div_right _ _ hYp, Nat.div_eq_of_lt hR, Nat.zero_add]
  refine ⟨q1, ?_⟩
  have r1 : (hi * 18446744073709551616 + lo) % y * 2 ^ s = R := by
    rw [← Nat.mul_mod_mul_right, ← hY, e, Nat.add_comm, Nat.add_mul_mod_self_right, Nat.mod_eq_of_lt hR]
  rw [← r1, Nat.mul_div_cancel _ hp2]
end Go.Proofs.Yteelppebdcgbpaa

/- Two limbs parted by one: the walk through the library's Div64. -/
namespace Go.Proofs.Yteelppebdcgbpaa
set_option linter.unusedSimpArgs false
set_option linter.unusedVariables false
open Go.RowKit

set_option maxHeartbeats 1000000 in
theorem div64_small (w : World) (lo y : Nat) (hlo : lo < 18446744073709551616) (hy : 0 < y) (hy2 : y < 18446744073709551616) :
    Calls Try.prog 77 #[.int .u64 0, .int .u64 lo, .int .u64 y] w fun e w' => e = .returned (.tuple #[.int .u64 ((lo / y : Nat) : Int), .int .u64 ((lo % y : Nat) : Int)]) ∧ ∃ n, w' = w.drewN n := by
  have h0 : ((y : Int) == 0) = false := by simp; omega
  have h0' : ¬ y = 0 := by omega
  have h1 : decide ((y : Int) ≤ 0) = false := by simp; omega
  obtain ⟨q, hq⟩ : ∃ q, lo / y = q := ⟨_, rfl⟩
  obtain ⟨r, hr⟩ : ∃ r, lo % y = r := ⟨_, rfl⟩
  have hqb : q < 18446744073709551616 := by rw [← hq]; exact Nat.lt_of_le_of_lt (Nat.div_le_self _ _) hlo
  have HQ := Lib.hid hq
  have HR := Lib.hid hr
  have hq' : (lo : Int) / (y : Int) = (q : Int) := by rw [← hq]; rfl
  have hr' : (lo : Int) % (y : Int) = (r : Int) := by rw [← hr]; rfl
  rw [hq, hr]
  clear hq hr
  go_enter Try.func77, Try.ntmps77
  go_wp2_with fail
  go_region
  all_goals
    go_wp2_with fail
    go_ret2
    exact ⟨by rw [← HR.out]; rfl, 1, rfl⟩

/-- what the digits of 32 binary digits are -/
theorem parts32 {Y : Nat} (hY : Y < 18446744073709551616) : (Y : Int) / 4294967296 = ((Y / 4294967296 : Nat) : Int) ∧ bits BinOp.and IntKind.u64 (Y : Int) 4294967295 = ((Y % 4294967296 : Nat) : Int) := by
  refine ⟨by omega, ?_⟩
  have := and_u64 hY (show 4294967295 < 18446744073709551616 by omega)
  rw [show (4294967295 : Int) = ((4294967295 : Nat) : Int) from rfl, this, show 4294967295 = 2 ^ 32 - 1 from rfl, and_mask]
theorem wrap_of {x : Int} {n : Nat} (h : x % 18446744073709551616 = n) : IntKind.u64.wrap x = n := by rw [IntKind.wrap_u64]; exact h

set_option maxHeartbeats 2000000 in
theorem div64_big (w : World) (hi lo y : Nat) (hlo : lo < 18446744073709551616) (hh : 0 < hi) (hy : hi < y) (hy2 : y < 18446744073709551616) :
    Calls Try.prog 77 #[.int .u64 hi, .int .u64 lo, .int .u64 y] w fun e w' => e = .returned (.tuple #[.int .u64 (((hi * 18446744073709551616 + lo) / y : Nat) : Int), .int .u64 (((hi * 18446744073709551616 + lo) % y : Nat) : Int)]) ∧ ∃ n, w' = w.drewN n := by
  have h0 : ((y : Int) == 0) = false := by simp; omega
  have h1 : decide (y ≤ hi) = false := by simp; omega
  have h2 : ((hi : Int) == 0) = false := by simp; omega
  obtain ⟨k, hk, hk64, hk1, hk2⟩ := bitLen_spec y (by omega) hy2
  obtain ⟨s, hs⟩ : ∃ s : Nat, s = 63 - k := ⟨_, rfl⟩
  have hsI : (64 - (Lib.bitLen y : Int)) = (s : Int) := by rw [hk]; omega
  have hYb : 9223372036854775808 ≤ y * 2 ^ s ∧ y * 2 ^ s < 18446744073709551616 := by
    have e1 : 2 ^ k * 2 ^ s = 9223372036854775808 := by rw [← Nat.pow_add, show k + s = 63 by omega]
    have e2 : 2 ^ (k + 1) * 2 ^ s = 18446744073709551616 := by rw [← Nat.pow_add, show k + 1 + s = 64 by omega]
    have a1 := Nat.mul_le_mul_right (2 ^ s) hk1
    have a2 := Nat.mul_lt_mul_of_pos_right hk2 (show 0 < 2 ^ s from Nat.pow_pos (by omega))
    omega
  have hs64 : s ≤ 63 := by omega
  obtain ⟨hN, hU, hL, hH⟩ := shift_parts hs64 hlo hy hYb.2
  clear hk hk64 hk1 hk2 hs
  obtain ⟨Y, hY⟩ : ∃ Y, Y = y * 2 ^ s := ⟨_, rfl⟩
  rw [← hY] at hYb hU
  have HSI := Lib.hid hsI
  have y1 : IntKind.u64.wrap ((y : Int) * 2 ^ s) = (Y : Int) := by
    rw [show (y : Int) * 2 ^ s = ((y * 2 ^ s : Nat) : Int) by push_cast; rfl, ← hY]; exact wrap_of (by omega)
  have HY := Lib.hid hY
  clear hsI hY
  have y2 := (parts32 hYb.2).1
  have y3 := (parts32 hYb.2).2
  obtain ⟨a, ha⟩ : ∃ a, Y / 4294967296 = a := ⟨_, rfl⟩
  obtain ⟨b, hb⟩ : ∃ b, Y % 4294967296 = b := ⟨_, rfl⟩
  have hYab : Y = a * 4294967296 + b := by omega
  have ha1 : 2147483648 ≤ a := by omega
  have ha2 : a < 4294967296 := by omega
  have hb2 : b < 4294967296 := by omega
  rw [ha] at y2
  rw [hb] at y3
  clear ha hb
  have y4 : IntKind.u64.wrap ((hi : Int) * 2 ^ s) = ((hi * 2 ^ s : Nat) : Int) := by
    rw [show (hi : Int) * 2 ^ s = ((hi * 2 ^ s : Nat) : Int) by push_cast; rfl]; exact wrap_of (by omega)
  have y5 : (lo : Int) / 2 ^ (64 - s) = ((lo / 2 ^ (64 - s) : Nat) : Int) := by push_cast; rfl
  have hL64 : lo / 2 ^ (64 - s) < 18446744073709551616 := Nat.lt_of_le_of_lt (Nat.div_le_self _ _) hlo
  have y6 := or_u64 hH hL64
  rw [or_apart hL (Nat.mul_mod_left _ _)] at y6
  obtain ⟨U, hUd⟩ : ∃ U, hi * 2 ^ s + lo / 2 ^ (64 - s) = U := ⟨_, rfl⟩
  rw [hUd] at y6 hU hN
  generalize hi * 2 ^ s = H at *
  generalize lo / 2 ^ (64 - s) = L at *
  have y7 : IntKind.u64.wrap ((lo : Int) * 2 ^ s) = ((lo * 2 ^ s % 18446744073709551616 : Nat) : Int) := by
    rw [show (lo : Int) * 2 ^ s = ((lo * 2 ^ s : Nat) : Int) by push_cast; rfl]; exact wrap_u64_nat _
  obtain ⟨T, hT⟩ : ∃ T, lo * 2 ^ s % 18446744073709551616 = T := ⟨_, rfl⟩
  rw [hT] at y7 hN
  have hT64 : T < 18446744073709551616 := by rw [← hT]; exact Nat.mod_lt _ (by omega)
  have y8 := (parts32 hT64).1
  have y9 := (parts32 hT64).2
  clear hT
  have HN := Lib.hid hN
  clear hN hUd
  obtain ⟨u1, hu1⟩ : ∃ u1, T / 4294967296 = u1 := ⟨_, rfl⟩
  obtain ⟨u0, hu0⟩ : ∃ u0, T % 4294967296 = u0 := ⟨_, rfl⟩
  rw [hu1] at y8
  rw [hu0] at y9
  have hu1b : u1 < 4294967296 := by omega
  have hu0b : u0 < 4294967296 := by omega
  have HU1 := Lib.hid hu1
  have HU0 := Lib.hid hu0
  clear hu1 hu0
  have hUab : U < a * 4294967296 + b := by omega
  have hU64 : U < 18446744073709551616 := by omega
  have D1 := DI.start ha1 ha2 hb2 hUab hu1b
  have hr1 := D1.rest rfl ha1
  have hq1b : U / a ≤ 4294967297 := D1.2.2
  have hqa := Nat.div_mul_le_self U a
  have y10 : IntKind.u64.wrap ((U : Int) / (a : Int)) = ((U / a : Nat) : Int) := by rw [show (U : Int) / (a : Int) = ((U / a : Nat) : Int) from rfl, wrap_u64_nat, Nat.mod_eq_of_lt (by omega)]
  obtain ⟨q1, hq1⟩ : ∃ q1, U / a = q1 := ⟨_, rfl⟩
  rw [hq1] at D1 hr1 hq1b hqa y10
  have y11 : IntKind.u64.wrap ((q1 : Int) * (a : Int)) = ((q1 * a : Nat) : Int) := by rw [show (q1 : Int) * (a : Int) = ((q1 * a : Nat) : Int) by push_cast; rfl]; exact wrap_of (by omega)
  obtain ⟨p1, hp1⟩ : ∃ p1, q1 * a = p1 := ⟨_, rfl⟩
  rw [hp1] at y11 hqa D1 hr1
  have y12 : IntKind.u64.wrap ((U : Int) - (p1 : Int)) = ((U - p1 : Nat) : Int) := wrap_of (by omega)
  obtain ⟨r1, hr1e⟩ : ∃ r1, U - p1 = r1 := ⟨_, rfl⟩
  rw [hr1e] at y12 D1 hr1
  have HD1 := Lib.hid D1
  have HYab := Lib.hid hYab
  have hyz : ((a : Int) == 0) = false := by simp; omega
  have hyz' : ¬ a = 0 := by omega
  clear hr1e hp1 hq1 D1 hYab hqa hL64
  go_enter Try.func77, Try.ntmps77
  go_wp2_with fail
  refine (Yteelppebdcgbpaa.bits_LeadingZeros64 (y : Int) _ (by omega) (by omega)).mono ?_
  rintro e w' ⟨rfl, rfl⟩
  simp only [Int.toNat_natCast]
  rw [HSI.out]
  go_upto_block 0 with fail
  go_cut [15] (fun v wx => ∃ q : Nat, v = .int .u64 (q : Int) ∧ q = (U * 4294967296 + u1) / (a * 4294967296 + b) ∧ w' = wx)
  case first =>
    go_wp2_with fail
    go_loop [15, 16] (fun v z => ∃ q r : Nat, DI U u1 a b q r ∧ r < 4294967296 ∧ v = .int .u64 (q : Int) ∧ z = .int .u64 (r : Int)) (fun v _ => (intOf v).toNat)
    case atStart => exact ⟨q1, r1, HD1.out, by omega, rfl, rfl⟩
    case round =>
      obtain ⟨q, r, hdi, hr, rfl, rfl⟩ := hrel
      have hq9 : q ≤ 4294967297 := hdi.2.2
      have HDI := Lib.hid hdi
      have hqb : q * b ≤ 4294967297 * 4294967295 := Nat.mul_le_mul hq9 (by omega)
      obtain ⟨m, hm⟩ : ∃ m, q * b = m := ⟨_, rfl⟩
      rw [hm] at hqb
      have m1 : (q : Int) * (b : Int) = (m : Int) := by rw [← hm]; push_cast; rfl
      have m2 : IntKind.u64.wrap (m : Int) = (m : Int) := wrap_of (by omega)
      have HM := Lib.hid hm
      clear hdi hm
      by_cases ht : 4294967296 ≤ q ∨ 4294967296 * r + u1 < m
      · obtain ⟨hq0, hn, hq8⟩ := HDI.out.next ha1 hUab hu1b (by rw [HM.out]; exact ht)
        obtain ⟨p, hp⟩ : ∃ p, q = p + 1 := ⟨q - 1, by omega⟩
        have hp1 : (q : Int) - 1 = (p : Int) := by omega
        rw [show q - 1 = p by omega] at hn hq8
        have HNX := Lib.hid hn
        clear hn
        have hpq : p + 1 ≤ q ∧ q ≤ p + 1 := by omega
        have HP := Lib.hid hp
        clear hp
        by_cases hB : 4294967296 ≤ q
        · have d1 : decide (4294967296 ≤ (q : Int)) = true := by simp only [decide_eq_true_eq]; omega
          clear ht
          by_cases hrB : 4294967296 ≤ r + a
          · have d2 : decide (4294967296 ≤ (r : Int) + (a : Int)) = true := by simp only [decide_eq_true_eq]; omega
            have HS := Lib.hid (HNX.out.stop ha1 hb2 hq8 hrB)
            go_wp2_with fail
            go_meet
            exact ⟨p, rfl, HS.out, rfl⟩
          · have d2 : decide (4294967296 ≤ (r : Int) + (a : Int)) = false := by simp only [decide_eq_false_iff_not]; omega
            go_wp2_with fail
            refine ⟨⟨p, r + a, HNX.out, by omega, rfl, by go_num⟩, by simp [intOf]; omega⟩
        · have d1 : decide (4294967296 ≤ (q : Int)) = false := by simp only [decide_eq_false_iff_not]; omega
          have d3 : decide (4294967296 * (r : Int) + (u1 : Int) < (m : Int)) = true := by simp only [decide_eq_true_eq]; omega
          clear ht
          by_cases hrB : 4294967296 ≤ r + a
          · have d2 : decide (4294967296 ≤ (r : Int) + (a : Int)) = true := by simp only [decide_eq_true_eq]; omega
            have HS := Lib.hid (HNX.out.stop ha1 hb2 hq8 hrB)
            go_wp2_with fail
            go_meet
            exact ⟨p, rfl, HS.out, rfl⟩
          · have d2 : decide (4294967296 ≤ (r : Int) + (a : Int)) = false := by simp only [decide_eq_false_iff_not]; omega
            go_wp2_with fail
            refine ⟨⟨p, r + a, HNX.out, by omega, rfl, by go_num⟩, by simp [intOf]; omega⟩
      · have HE := Lib.hid (HDI.out.right ha1 (by rw [HM.out]; omega))
        have d1 : decide (4294967296 ≤ (q : Int)) = false := by simp only [decide_eq_false_iff_not]; omega
        have d3 : decide (4294967296 * (r : Int) + (u1 : Int) < (m : Int)) = false := by simp only [decide_eq_false_iff_not]; omega
        clear ht
        go_wp2_with fail
        go_meet
        exact ⟨q, rfl, HE.out, rfl⟩
  case rest =>
    obtain ⟨Q1, rfl, Q1e, rfl⟩ := hcut
    have hQ1d := Q1e
    have hQ1b : Q1 < 4294967296 := by rw [Q1e]; exact dg_lt ha1 hUab hu1b
    have hVm := Nat.div_add_mod (U * 4294967296 + u1) (a * 4294967296 + b)
    have hVab := Nat.mod_lt (U * 4294967296 + u1) (show 0 < a * 4294967296 + b by omega)
    obtain ⟨V, hV⟩ : ∃ z_, (U * 4294967296 + u1) % (a * 4294967296 + b) = z_ := ⟨_, rfl⟩
    rw [← Q1e, hV] at hVm
    rw [hV] at hVab
    have VY : (a * 4294967296 + b) * Q1 = Q1 * Y := by rw [HYab.out, Nat.mul_comm]
    rw [VY] at hVm
    obtain ⟨PQ1, hPQ1⟩ : ∃ P, Q1 * Y = P := ⟨_, rfl⟩
    rw [hPQ1] at hVm
    have ta1 : IntKind.u64.wrap ((U : Int) * 4294967296) = ((U * 4294967296 % 18446744073709551616 : Nat) : Int) := wrap_of (by omega)
    obtain ⟨taa, taae⟩ : ∃ x, U * 4294967296 % 18446744073709551616 = x := ⟨_, rfl⟩
    rw [taae] at ta1
    have ta2 : IntKind.u64.wrap ((taa : Int) + (u1 : Int)) = (((taa + u1) % 18446744073709551616 : Nat) : Int) := wrap_of (by omega)
    obtain ⟨tab, tabe⟩ : ∃ x, (taa + u1) % 18446744073709551616 = x := ⟨_, rfl⟩
    rw [tabe] at ta2
    have ta3 : IntKind.u64.wrap ((Q1 : Int) * (Y : Int)) = ((PQ1 % 18446744073709551616 : Nat) : Int) := by
      rw [show (Q1 : Int) * (Y : Int) = ((Q1 * Y : Nat) : Int) by push_cast; rfl, hPQ1]; exact wrap_u64_nat _
    obtain ⟨tac, tace⟩ : ∃ x, PQ1 % 18446744073709551616 = x := ⟨_, rfl⟩
    rw [tace] at ta3
    have ta4 : IntKind.u64.wrap ((tab : Int) - (tac : Int)) = (V : Int) := wrap_of (by omega)
    have HmV := Lib.hid hVm
    have HPQ1 := Lib.hid hPQ1
    have HdQ1 := Lib.hid hQ1d
    clear hVm hPQ1 hQ1d hV VY taae tabe tace Q1e
    have hV64 : V < 18446744073709551616 := by omega
    have D2 := DI.start ha1 ha2 hb2 hVab hu0b
    have hr2 := D2.rest rfl ha1
    have hq2b : V / a ≤ 4294967297 := D2.2.2
    have hva := Nat.div_mul_le_self V a
    have x10 : IntKind.u64.wrap ((V : Int) / (a : Int)) = ((V / a : Nat) : Int) := by rw [show (V : Int) / (a : Int) = ((V / a : Nat) : Int) from rfl, wrap_u64_nat, Nat.mod_eq_of_lt (by omega)]
    obtain ⟨q2, hq2⟩ : ∃ q2, V / a = q2 := ⟨_, rfl⟩
    rw [hq2] at D2 hr2 hq2b hva x10
    have x11 : IntKind.u64.wrap ((q2 : Int) * (a : Int)) = ((q2 * a : Nat) : Int) := by rw [show (q2 : Int) * (a : Int) = ((q2 * a : Nat) : Int) by push_cast; rfl]; exact wrap_of (by omega)
    obtain ⟨p2, hp2⟩ : ∃ p2, q2 * a = p2 := ⟨_, rfl⟩
    rw [hp2] at x11 hva D2 hr2
    have x12 : IntKind.u64.wrap ((V : Int) - (p2 : Int)) = ((V - p2 : Nat) : Int) := wrap_of (by omega)
    obtain ⟨r2, hr2e⟩ : ∃ r2, V - p2 = r2 := ⟨_, rfl⟩
    rw [hr2e] at x12 D2 hr2
    have HD2 := Lib.hid D2
    clear hr2e hp2 hq2 D2 hva

    go_upto_block 2 with fail
    go_cut [18] (fun v wx => ∃ q : Nat, v = .int .u64 (q : Int) ∧ q = (V * 4294967296 + u0) / (a * 4294967296 + b) ∧ w' = wx)
    case first =>
      go_wp2_with fail
      go_loop [18, 16] (fun v z => ∃ q r : Nat, DI V u0 a b q r ∧ r < 4294967296 ∧ v = .int .u64 (q : Int) ∧ z = .int .u64 (r : Int)) (fun v _ => (intOf v).toNat)
      case atStart => exact ⟨q2, r2, HD2.out, by omega, rfl, rfl⟩
      case round =>
        obtain ⟨q, r, hdi, hr, rfl, rfl⟩ := hrel
        have hq9 : q ≤ 4294967297 := hdi.2.2
        have HDI := Lib.hid hdi
        have hqb : q * b ≤ 4294967297 * 4294967295 := Nat.mul_le_mul hq9 (by omega)
        obtain ⟨m, hm⟩ : ∃ m, q * b = m := ⟨_, rfl⟩
        rw [hm] at hqb
        have m1 : (q : Int) * (b : Int) = (m : Int) := by rw [← hm]; push_cast; rfl
        have m2 : IntKind.u64.wrap (m : Int) = (m : Int) := wrap_of (by omega)
        have HM := Lib.hid hm
        clear hdi hm
        by_cases ht : 4294967296 ≤ q ∨ 4294967296 * r + u0 < m
        · obtain ⟨hq0, hn, hq8⟩ := HDI.out.next ha1 hVab hu0b (by rw [HM.out]; exact ht)
          obtain ⟨p, hp⟩ : ∃ p, q = p + 1 := ⟨q - 1, by omega⟩
          have hp1 : (q : Int) - 1 = (p : Int) := by omega
          rw [show q - 1 = p by omega] at hn hq8
          have HNX := Lib.hid hn
          clear hn
          have hpq : p + 1 ≤ q ∧ q ≤ p + 1 := by omega
          have HP := Lib.hid hp
          clear hp
          by_cases hB : 4294967296 ≤ q
          · have d1 : decide (4294967296 ≤ (q : Int)) = true := by simp only [decide_eq_true_eq]; omega
            clear ht
            by_cases hrB : 4294967296 ≤ r + a
            · have d2 : decide (4294967296 ≤ (r : Int) + (a : Int)) = true := by simp only [decide_eq_true_eq]; omega
              have HS := Lib.hid (HNX.out.stop ha1 hb2 hq8 hrB)
              go_wp2_with fail
              go_meet
              exact ⟨p, rfl, HS.out, rfl⟩
            · have d2 : decide (4294967296 ≤ (r : Int) + (a : Int)) = false := by simp only [decide_eq_false_iff_not]; omega
              go_wp2_with fail
              refine ⟨⟨p, r + a, HNX.out, by omega, rfl, by go_num⟩, by simp [intOf]; omega⟩
          · have d1 : decide (4294967296 ≤ (q : Int)) = false := by simp only [decide_eq_false_iff_not]; omega
            have d3 : decide (4294967296 * (r : Int) + (u0 : Int) < (m : Int)) = true := by simp only [decide_eq_true_eq]; omega
            clear ht
            by_cases hrB : 4294967296 ≤ r + a
            · have d2 : decide (4294967296 ≤ (r : Int) + (a : Int)) = true := by simp only [decide_eq_true_eq]; omega
              have HS := Lib.hid (HNX.out.stop ha1 hb2 hq8 hrB)
              go_wp2_with fail
              go_meet
              exact ⟨p, rfl, HS.out, rfl⟩
            · have d2 : decide (4294967296 ≤ (r : Int) + (a : Int)) = false := by simp only [decide_eq_false_iff_not]; omega
              go_wp2_with fail
              refine ⟨⟨p, r + a, HNX.out, by omega, rfl, by go_num⟩, by simp [intOf]; omega⟩
        · have HE := Lib.hid (HDI.out.right ha1 (by rw [HM.out]; omega))
          have d1 : decide (4294967296 ≤ (q : Int)) = false := by simp only [decide_eq_false_iff_not]; omega
          have d3 : decide (4294967296 * (r : Int) + (u0 : Int) < (m : Int)) = false := by simp only [decide_eq_false_iff_not]; omega
          clear ht
          go_wp2_with fail
          go_meet
          exact ⟨q, rfl, HE.out, rfl⟩
    case rest =>
      obtain ⟨Q0, rfl, Q0e, rfl⟩ := hcut
      have hQ0d := Q0e
      have hQ0b : Q0 < 4294967296 := by rw [Q0e]; exact dg_lt ha1 hVab hu0b
      have hRm := Nat.div_add_mod (V * 4294967296 + u0) (a * 4294967296 + b)
      have hRab := Nat.mod_lt (V * 4294967296 + u0) (show 0 < a * 4294967296 + b by omega)
      obtain ⟨R, hR⟩ : ∃ z_, (V * 4294967296 + u0) % (a * 4294967296 + b) = z_ := ⟨_, rfl⟩
      rw [← Q0e, hR] at hRm
      rw [hR] at hRab
      have RY : (a * 4294967296 + b) * Q0 = Q0 * Y := by rw [HYab.out, Nat.mul_comm]
      rw [RY] at hRm
      obtain ⟨PQ0, hPQ0⟩ : ∃ P, Q0 * Y = P := ⟨_, rfl⟩
      rw [hPQ0] at hRm
      have tb1 : IntKind.u64.wrap ((V : Int) * 4294967296) = ((V * 4294967296 % 18446744073709551616 : Nat) : Int) := wrap_of (by omega)
      obtain ⟨tba, tbae⟩ : ∃ x, V * 4294967296 % 18446744073709551616 = x := ⟨_, rfl⟩
      rw [tbae] at tb1
      have tb2 : IntKind.u64.wrap ((tba : Int) + (u0 : Int)) = (((tba + u0) % 18446744073709551616 : Nat) : Int) := wrap_of (by omega)
      obtain ⟨tbb, tbbe⟩ : ∃ x, (tba + u0) % 18446744073709551616 = x := ⟨_, rfl⟩
      rw [tbbe] at tb2
      have tb3 : IntKind.u64.wrap ((Q0 : Int) * (Y : Int)) = ((PQ0 % 18446744073709551616 : Nat) : Int) := by
        rw [show (Q0 : Int) * (Y : Int) = ((Q0 * Y : Nat) : Int) by push_cast; rfl, hPQ0]; exact wrap_u64_nat _
      obtain ⟨tbc, tbce⟩ : ∃ x, PQ0 % 18446744073709551616 = x := ⟨_, rfl⟩
      rw [tbce] at tb3
      have tb4 : IntKind.u64.wrap ((tbb : Int) - (tbc : Int)) = (R : Int) := wrap_of (by omega)
      have HmR := Lib.hid hRm
      have HPQ0 := Lib.hid hPQ0
      have HdQ0 := Lib.hid hQ0d
      clear hRm hPQ0 hQ0d hR RY tbae tbbe tbce Q0e
      have x20 : (R : Int) / 2 ^ s = ((R / 2 ^ s : Nat) : Int) := by push_cast; rfl
      obtain ⟨R2, hR2⟩ : ∃ R2, R / 2 ^ s = R2 := ⟨_, rfl⟩
      rw [hR2] at x20
      have fin := div_final (hi := hi) (lo := lo) (y := y) (s := s) (Y := Y) (un32 := U) (un10 := T) (Q1 := Q1) (u21 := V) (Q0 := Q0) (R := R) (by omega) HY.out HN.out (by rw [HU1.out, HPQ1.out]; exact HmV.out.symm) (by rw [HU0.out, HPQ0.out]; exact HmR.out.symm) (by rw [HYab.out]; exact hRab)
      rw [hR2] at fin
      have HFIN := Lib.hid fin
      clear fin hR2
      go_wp2_with fail
      go_ret2
      exact ⟨by rw [HFIN.out.1, HFIN.out.2]; first | rfl | (push_cast; rfl), 0, rfl⟩
end Go.Proofs.Yteelppebdcgbpaa

/- A number parted by one limb. -/
namespace Go.Proofs.Yteelppebdcgbpaa
set_option linter.unusedSimpArgs false
set_option linter.unusedVariables false
open Go.RowKit

theorem div64_any (w : World) (hi lo y : Nat) (hlo : lo < 18446744073709551616) (hy : hi < y) (hy2 : y < 18446744073709551616) :
    Calls Try.prog 77 #[.int .u64 hi, .int .u64 lo, .int .u64 y] w fun e w' => e = .returned (.tuple #[.int .u64 (((hi * 18446744073709551616 + lo) / y : Nat) : Int), .int .u64 (((hi * 18446744073709551616 + lo) % y : Nat) : Int)]) ∧ ∃ n, w' = w.drewN n := by
  rcases Nat.eq_zero_or_pos hi with h | h
  · subst h
    rw [Nat.zero_mul, Nat.zero_add]
    exact div64_small w lo y hlo hy hy2
  · exact div64_big w hi lo y hlo h hy hy2

theorem nv_drop {xs : List Nat} {j : Nat} (h : j < xs.length) : nv (xs.drop j) = gd xs j + 18446744073709551616 * nv (xs.drop (j + 1)) := by
  rw [List.drop_eq_getElem_cons h, nv, gd_lt h]
theorem drop_set_lt {xs : List Nat} {j k y : Nat} (h : j < k) : (xs.set j y).drop k = xs.drop k := by
  rw [List.drop_set, if_pos h]
theorem small_step {X Z d r x q r' B : Nat} (h : X = Z * d + r) (hq : r * B + x = q * d + r') : x + B * X = (q + B * Z) * d + r' := by
  subst h
  rw [Nat.mul_add, Nat.add_mul, Nat.mul_assoc, Nat.mul_comm B r]; omega

/-- Two rows lie apart. -/
def Apart (A A' : Option Addr) : Prop := ∀ g, A = some ⟨g, 0, none⟩ → A' ≠ some ⟨g, 0, none⟩
theorem Apart.of {k k' : IntKind} {e e' : TypeId} {w w' : World} {base n c n' c' : Nat} {A A' : Option Addr} {xs xs' : List Nat} (h : Own k e w base A n c xs) (h' : Own k' e' w' w.heap.size A' n' c' xs') : Apart A A' := by
  rintro g rfl e
  rcases h.ways with ⟨h1, _⟩ | ⟨g1, h1, _, h2, _⟩
  · cases h1
  · rcases h'.ways with ⟨h3, _⟩ | ⟨g2, h3, h4, _⟩
    · rw [e] at h3; cases h3
    · rw [e] at h3
      simp only [Option.some.injEq, Addr.mk.injEq, and_true] at h1 h3
      omega
theorem Apart.none (A : Option Addr) : Apart Option.none A := fun _ h => by cases h
/-- Two numbers are returned. -/
def RetNN (m m' : Nat) (w : World) (e : Ending) (w' : World) : Prop := ∃ A c A' c', e = .returned (.tuple #[.slice A (ln m) c, .slice A' (ln m') c']) ∧ Own .u64 35 w' w.heap.size A (ln m) c (limbs m) ∧ Own .u64 35 w' w.heap.size A' (ln m') c' (limbs m') ∧ Below w.heap.size w w' ∧ Apart A A'

set_option maxHeartbeats 1000000 in
theorem small_any (w : World) {A : Option Addr} {n c x : Nat} (d : Nat) (hx : NA w A n c x) (hn : n ≤ 1048576) (hd : 0 < d) (hd2 : d < 18446744073709551616) :
    Calls Try.prog 59 #[.slice A n c, .int .u64 d] w (RetNN (x / d) (x % d) w) := by
  obtain ⟨xs, hx, bx, rfl⟩ := hx
  have HX := Lib.hid hx
  have BX := Lib.hid bx
  have hmk := fun w => run_mk n (by omega) w
  clear hx bx
  go_enter Try.func59, Try.ntmps59
  go_wp2_with fail
  go_loopw [7, 8] (fun rv i wr => ∃ (k r : Nat) (zs : List Nat), k ≤ n ∧ r < d ∧ i = .int .i64 ((k : Int) - 1) ∧ rv = .int .u64 (r : Int) ∧ zs.length = n ∧ B64 zs ∧ Bk wr w.heap.size 35 (va .u64 zs) ∧ Below w.heap.size w wr ∧ nv (xs.drop k) = nv (zs.drop k) * d + r) (fun _ i _ => (intOf i + 1).toNat)
  case atStart => exact ⟨n, 0, List.replicate n 0, by omega, hd, rfl, rfl, by simp, B64.replicate _, Bk.new _ _ _, (Below.refl _ _).alloc (Nat.le_refl _) _, by rw [List.drop_eq_nil_of_le (by rw [HX.out.len]; omega), List.drop_eq_nil_of_le (by simp)]; simp [nv]⟩
  case round =>
    obtain ⟨k, r, zs, hk, hr, rfl, rfl, hzl, bz, bk, hbl, hinv⟩ := hrel
    have HI := Lib.hid hinv
    clear hinv
    by_cases hk0 : k = 0
    · subst hk0
      have hfin : nv xs / d = nv zs ∧ nv xs % d = r := by
        have e := HI.out
        simp only [List.drop_zero] at e
        rw [e]
        refine ⟨?_, ?_⟩
        · rw [Nat.add_comm, Nat.add_mul_div_right _ _ hd, Nat.div_eq_of_lt hr, Nat.zero_add]
        · rw [Nat.add_comm, Nat.add_mul_mod_self_right, Nat.mod_eq_of_lt hr]
      have HF := Lib.hid hfin
      clear hfin
      have hna : NA wr (some ⟨w.heap.size, 0, none⟩) n n (nv zs) := ⟨zs, (Own.of_bk (base := 0) bk (by omega) hzl (by omega)).rd, bz, rfl⟩
      have HNA := Lib.hid hna
      clear hna bk
      go_wp2_with fail
      refine (trim_any _ HNA.out hn).mono ?_
      rintro e w1 h
      have h := h.lift hbl
      obtain ⟨A1, c1, rfl, ho, hb⟩ := h
      go_wp2_with fail
      refine (of_any _ r (by omega)).mono ?_
      rintro e w2 h
      have hb2 := h.lift hb
      obtain ⟨A3, c3, _, _, hb3⟩ := hb2
      obtain ⟨A2, c2, rfl, ho2, hb2⟩ := h
      go_wp2_with fail
      go_ret2
      refine ⟨A1, c1, A2, c2, ?_, ?_, ?_, hb3, Apart.of ho ho2⟩
      · rw [HF.out.1, HF.out.2]; rfl
      · rw [HF.out.1]; exact ho.below hb2
      · rw [HF.out.2]; exact ho2.lower hb.size
    · obtain ⟨k, rfl⟩ : ∃ j, k = j + 1 := ⟨k - 1, by omega⟩
      obtain ⟨ad, rfl, hb, hc⟩ := HX.out.form (by omega)
      have ek : ((k + 1 : Nat) : Int) - 1 = (k : Int) := by omega
      have hxc := (hbl.cell (p := ad.add k) (adlt hb k)).trans (hc k (by omega))
      have hcell := (bk.cell k).trans (va_at .u64 (by omega))
      have hfr := bk.frozen k
      have hgx := BX.out.gd k
      have hdv := fun w => div64_any w r (gd xs k) d hgx hr hd2
      have hdm := Nat.div_add_mod (r * 18446744073709551616 + gd xs k) d
      have hml := Nat.mod_lt (r * 18446744073709551616 + gd xs k) hd
      have hql : (r * 18446744073709551616 + gd xs k) / d < 18446744073709551616 := by
        rw [Nat.div_lt_iff_lt_mul hd]
        have := Nat.mul_le_mul_left 18446744073709551616 (show r + 1 ≤ d from hr)
        omega
      obtain ⟨q, hq⟩ : ∃ q, (r * 18446744073709551616 + gd xs k) / d = q := ⟨_, rfl⟩
      obtain ⟨r', hr'⟩ : ∃ r', (r * 18446744073709551616 + gd xs k) % d = r' := ⟨_, rfl⟩
      rw [hq, hr'] at hdv hdm
      rw [hr'] at hml
      rw [hq] at hql
      have HDV := Lib.hid hdv
      have HDM := Lib.hid hdm
      have BK := Lib.hid bk
      clear hc hdv hdm hq hr' bk hk0
      go_wp2_with fail
      refine (HDV.out _).mono ?_
      rintro e w' ⟨rfl, nd, rfl⟩
      go_wp2_with fail
      refine ⟨⟨k, r', zs.set k q, by omega, hml, rfl, rfl, by simpa using hzl, bz.set hql, ?_, ?_, ?_⟩, by simp [intOf]⟩
      · rw [← va_set]; exact Bk.set (w := wr.drewN nd) BK.out k _
      · (repeat (first | (with_reducible exact Below.refl _ _) | (with_reducible assumption) | (with_reducible refine Below.drew ?_) | (with_reducible refine below_drewN ?_ _) | ((with_reducible refine Below.setCell ?_ (p := ⟨_, _, _⟩) ?_ _); rotate_left; (simp <;> omega)) | ((with_reducible refine Below.alloc ?_ ?_ _); rotate_left; (simp <;> omega)) | ((with_reducible refine Below.trans ?_ (Below.mono (by with_reducible assumption) ?_)); rotate_left; (simp <;> omega))))
      · rw [nv_drop (xs := xs) (by rw [HX.out.len]; omega), nv_drop (xs := zs.set k q) (by rw [List.length_set]; omega), gd_set_self (by omega), drop_set_lt (by omega)]
        exact small_step HI.out (by rw [Nat.mul_comm q d]; exact HDM.out.symm)
end Go.Proofs.Yteelppebdcgbpaa

/- Numbers moved up by binary digits. -/
namespace Go.Proofs.Yteelppebdcgbpaa
set_option linter.unusedSimpArgs false
set_option linter.unusedVariables false
open Go.RowKit

theorem nv_set {zs : List Nat} {j : Nat} (y : Nat) (h : j < zs.length) : nv (zs.set j y) + 18446744073709551616 ^ j * gd zs j = nv zs + 18446744073709551616 ^ j * y := by
  induction zs generalizing j with
  | nil => simp at h
  | cons z zs ih =>
    cases j with
    | zero => simp [nv, gd]; omega
    | succ j =>
      have := ih (j := j) (by simpa using h)
      have e : gd (z :: zs) (j + 1) = gd zs j := by simp [gd]
      simp only [List.set_cons_succ, nv, e, Nat.pow_succ]
      have e1 : 18446744073709551616 ^ j * 18446744073709551616 * gd zs j = 18446744073709551616 * (18446744073709551616 ^ j * gd zs j) := by rw [Nat.mul_comm (18446744073709551616 ^ j) 18446744073709551616, Nat.mul_assoc]
      have e2 : 18446744073709551616 ^ j * 18446744073709551616 * y = 18446744073709551616 * (18446744073709551616 ^ j * y) := by rw [Nat.mul_comm (18446744073709551616 ^ j) 18446744073709551616, Nat.mul_assoc]
      rw [e1, e2]; omega
theorem gd_le (zs : List Nat) (j : Nat) : 18446744073709551616 ^ j * gd zs j ≤ nv zs := by
  induction zs generalizing j with
  | nil => simp [gd]
  | cons z zs ih =>
    cases j with
    | zero => simp [nv, gd]
    | succ j =>
      have e : gd (z :: zs) (j + 1) = gd zs j := by simp [gd]
      have := ih j
      rw [e, Nat.pow_succ, Nat.mul_comm (18446744073709551616 ^ j) 18446744073709551616, Nat.mul_assoc]
      simp only [nv]; omega
theorem gd_small {zs : List Nat} {j c : Nat} (h : nv zs < 18446744073709551616 ^ j * c) : gd zs j < c := by
  have := gd_le zs j
  exact Nat.lt_of_mul_lt_mul_left (Nat.lt_of_le_of_lt this h)
theorem wpow (q : Nat) : 18446744073709551616 ^ q = 2 ^ (64 * q) := by rw [Nat.pow_mul]

/-- a limb moved up: its low part, its high part -/
theorem limb_up {x r : Nat} (hr : r ≤ 63) (hx : x < 18446744073709551616) : x * 2 ^ r % 18446744073709551616 + 18446744073709551616 * (x / 2 ^ (63 - r) / 2) = x * 2 ^ r ∧ x * 2 ^ r % 18446744073709551616 % 2 ^ r = 0 ∧ x / 2 ^ (63 - r) / 2 < 18446744073709551616 ∧ x / 2 ^ (63 - r) / 2 < 2 ^ r := by
  have hp : 0 < 2 ^ r := Nat.pow_pos (by omega)
  have e64 : 2 ^ (64 - r) * 2 ^ r = 18446744073709551616 := by rw [← Nat.pow_add, Nat.sub_add_cancel (by omega)]
  have e1 : x / 2 ^ (63 - r) / 2 = x / 2 ^ (64 - r) := by rw [Nat.div_div_eq_div_mul, ← Nat.pow_succ, show (63 - r).succ = 64 - r by omega]
  have e2 : x / 2 ^ (64 - r) = x * 2 ^ r / 18446744073709551616 := by rw [← e64, Nat.mul_div_mul_right _ _ hp]
  have e3 : 18446744073709551616 % 2 ^ r = 0 := by rw [← e64]; exact Nat.mul_mod_left _ _
  rw [e1]
  refine ⟨?_, ?_, ?_, ?_⟩
  · rw [e2]; exact Nat.mod_add_div _ _
  · rw [Nat.mod_mod_of_dvd _ (Nat.dvd_of_mod_eq_zero e3)]; exact Nat.mul_mod_left _ _
  · exact Nat.lt_of_le_of_lt (Nat.div_le_self _ _) hx
  · rw [Nat.div_lt_iff_lt_mul (Nat.pow_pos (by omega)), Nat.mul_comm, e64]; exact hx

theorem or_apart' {a b i : Nat} (ha : a < 2 ^ i) (hb : b % 2 ^ i = 0) : a ||| b = a + b := by rw [Nat.or_comm, or_apart ha hb, Nat.add_comm]
theorem up_step {S X P q r k x o lo hi S1 S2 : Nat} (hP : P = 18446744073709551616 ^ k) (hlh : lo + 18446744073709551616 * hi = x * 2 ^ r) (h : S = X * 2 ^ (64 * q + r))
    (h1 : S1 + 18446744073709551616 ^ (k + q) * o = S + 18446744073709551616 ^ (k + q) * (o + lo)) (h2 : S2 + 18446744073709551616 ^ (k + q + 1) * 0 = S1 + 18446744073709551616 ^ (k + q + 1) * hi) : S2 = (X + P * x) * 2 ^ (64 * q + r) := by
  have e : 18446744073709551616 ^ (k + q) * (x * 2 ^ r) = P * x * 2 ^ (64 * q + r) := by
    rw [hP, Nat.pow_add, wpow q, Nat.pow_add]
    ac_rfl
  rw [Nat.mul_add] at h1
  rw [Nat.add_mul, ← h, ← e, ← hlh, Nat.mul_add]
  have e3 : 18446744073709551616 ^ (k + q + 1) * hi = 18446744073709551616 ^ (k + q) * (18446744073709551616 * hi) := by rw [Nat.pow_succ, Nat.mul_assoc]
  rw [e3] at h2
  omega

set_option maxHeartbeats 1000000 in
theorem up_gen (w : World) {A : Option Addr} {n c x : Nat} (s : Nat) (t0 : Int) (hx : NA w A n c x) (hn : n ≤ 524288) (hs : s ≤ 65536) (m1 : min t0 65536 = (s : Int)) :
    Calls Try.prog 55 #[.slice A n c, .int .i64 t0] w (RetN (x * 2 ^ s) w) := by
  obtain ⟨xs, hx, bx, rfl⟩ := hx
  have HX := Lib.hid hx
  have BX := Lib.hid bx
  obtain ⟨q, hq⟩ : ∃ q, s / 64 = q := ⟨_, rfl⟩
  obtain ⟨r, hr⟩ : ∃ r, s % 64 = r := ⟨_, rfl⟩
  have hsqr : s = 64 * q + r := by omega
  have hr63 : r ≤ 63 := by omega
  have hmk := fun w => run_mk (n + q + 1) (by omega) w
  rw [show ((n + q + 1 : Nat) : Int) = (n : Int) + (q : Int) + 1 from rfl] at hmk
  have d1 : (s : Int) / 64 = (q : Int) := by omega
  have d2 : (s : Int).tdiv 64 = (q : Int) := by rw [Int.tdiv_eq_ediv_of_nonneg (by omega)]; omega
  have d3 : (s : Int) % 64 = (r : Int) := by omega
  have d4 : (s : Int).tmod 64 = (r : Int) := by rw [Int.tmod_eq_emod_of_nonneg (by omega)]; omega
  have d5 : IntKind.i64.wrap (q : Int) = (q : Int) := IntWalk.i64_in _ (by omega)
  have m2 : max (s : Int) (-65536) = (s : Int) := by omega
  have hd : decide ((s : Int) < 0) = false := by simp
  have HSQ := Lib.hid hsqr
  clear hx bx hsqr hq hr
  go_enter Try.func55, Try.ntmps55
  go_wp2_with fail
  go_loopw [26] (fun i wr => ∃ (k : Nat) (zs : List Nat), k ≤ n ∧ i = .int .i64 (k : Int) ∧ zs.length = n + q + 1 ∧ B64 zs ∧ Bk wr w.heap.size 35 (va .u64 zs) ∧ Below w.heap.size w wr ∧ nv zs = nv (xs.take k) * 2 ^ (64 * q + r)) (fun i _ => n - (intOf i).toNat)
  case atStart => exact ⟨0, List.replicate (n + q + 1) 0, by omega, rfl, by simp, B64.replicate _, Bk.new _ _ _, (Below.refl _ _).alloc (Nat.le_refl _) _, by rw [nv_replicate]; simp [nv]⟩
  case round =>
    obtain ⟨k, zs, hk, rfl, hzl, bz, bk, hbl, hinv⟩ := hrel
    have HI := Lib.hid hinv
    clear hinv
    by_cases hlt : k < n
    · obtain ⟨ad, rfl, hb, hc⟩ := HX.out.form (by omega)
      have hxc := (hbl.cell (p := ad.add k) (adlt hb k)).trans (hc k hlt)
      have hcell := (bk.cell (k + q)).trans (va_at .u64 (by omega))
      have hfr := bk.frozen (k + q)
      have hgx := BX.out.gd k
      obtain ⟨u1, u2, u3, u4⟩ := limb_up hr63 hgx
      have hbnd : nv zs < 18446744073709551616 ^ (k + q) * 2 ^ r := by
        have := nv_take_lt BX.out k
        rw [HI.out, Nat.pow_add 2, ← wpow, Nat.pow_add, ← Nat.mul_assoc]
        exact Nat.mul_lt_mul_of_pos_right (Nat.mul_lt_mul_of_pos_right this (Nat.pow_pos (by omega))) (Nat.pow_pos (by omega))
      have ho : gd zs (k + q) < 2 ^ r := gd_small hbnd
      have ho2 : gd zs (k + q + 1) = 0 := by
        have : gd zs (k + q + 1) < 1 := gd_small (by rw [Nat.pow_succ, Nat.mul_one]; exact Nat.lt_of_lt_of_le hbnd (Nat.mul_le_mul_left _ (by rw [show 18446744073709551616 = 2 ^ 64 from rfl]; exact Nat.pow_le_pow_right (by omega) (by omega))))
        omega
      obtain ⟨lo, hlo⟩ : ∃ lo, gd xs k * 2 ^ r % 18446744073709551616 = lo := ⟨_, rfl⟩
      obtain ⟨hi, hhi⟩ : ∃ hi, gd xs k / 2 ^ (63 - r) / 2 = hi := ⟨_, rfl⟩
      rw [hlo, hhi] at u1
      rw [hlo] at u2
      rw [hhi] at u3 u4
      have hlo64 : lo < 18446744073709551616 := by rw [← hlo]; exact Nat.mod_lt _ (by omega)
      have e1 : IntKind.u64.wrap ((gd xs k : Int) * 2 ^ r) = (lo : Int) := by
        rw [show (gd xs k : Int) * 2 ^ r = ((gd xs k * 2 ^ r : Nat) : Int) by push_cast; rfl, wrap_u64_nat, hlo]
      have hog := bz.gd (k + q)
      have e2 := or_u64 hog hlo64
      rw [or_apart' ho u2] at e2
      obtain ⟨v, hv⟩ : ∃ v, gd zs (k + q) + lo = v := ⟨_, rfl⟩
      rw [hv] at e2
      have hv64 : v < 18446744073709551616 := by
        rw [← hv, ← or_apart' ho u2]; exact Nat.or_lt_two_pow (n := 64) hog hlo64
      have e0 : IntKind.i64.wrap ((k : Int) + (q : Int)) = (k : Int) + (q : Int) := IntWalk.i64_in _ (by omega)
      have e00 : ((k : Int) + (q : Int)).toNat = k + q := by omega
      have b1 : (0 : Int) ≤ (k : Int) + (q : Int) := by omega
      have b2 : (k : Int) + (q : Int) < (n : Int) + (q : Int) + 1 := by omega
      have hbk := bk.set (k + q) (.int .u64 (v : Int))
      rw [va_set] at hbk
      have HBK := Lib.hid hbk
      have N1 := Lib.hid (nv_set v (show k + q < zs.length by omega))
      have HV := Lib.hid hv
      have U1 := Lib.hid u1
      have HO2 := Lib.hid ho2
      have Hhi := Lib.hid hhi
      clear hc bk u1 u2 u4 ho hbnd hlo hhi ho2 hbk hv
      go_wp2_with fail
      refine wp_region_still_tail 13 (by kernel_rfl) (by kernel_rfl) ?_
      simp only [List.take_succ_cons, List.take_zero, List.drop_succ_cons, List.drop_zero, World.drew_eq]
      repeat still_step
      refine wpStill_nil ?_
      have e3 : IntKind.i64.wrap ((k : Int) + (q : Int) + 1) = (k : Int) + (q : Int) + 1 := IntWalk.i64_in _ (by omega)
      have e33 : ((k : Int) + (q : Int) + 1).toNat = k + q + 1 := by omega
      have b3 : (0 : Int) ≤ (k : Int) + (q : Int) + 1 := by omega
      have b4 : (k : Int) + (q : Int) + 1 < (n : Int) + (q : Int) + 1 := by omega
      have e4 : IntKind.i64.wrap (63 - (r : Int)) = ((63 - r : Nat) : Int) := by rw [IntWalk.i64_in _ (by omega)]; omega
      have e5 : (gd xs k : Int) / 2 ^ (63 - r) / 2 = (hi : Int) := by rw [← Hhi.out]; push_cast; rfl
      have hcell2 := (HBK.out.cell (k + q + 1)).trans (va_at .u64 (by rw [List.length_set]; omega))
      rw [gd_set (by omega), HO2.out] at hcell2
      have hbk2 := HBK.out.set (k + q + 1) (.int .u64 (hi : Int))
      rw [va_set] at hbk2
      have HBK2 := Lib.hid hbk2
      have e6 : bits BinOp.or IntKind.u64 0 (hi : Int) = (hi : Int) := by have h := or_u64 (a := 0) (b := hi) (by omega) u3; rw [Nat.zero_or] at h; exact h
      have hfr2 : ∀ o, (wr.setCell ⟨w.heap.size, k + q, none⟩ (.int .u64 (v : Int))).frozen? ⟨w.heap.size, o, none⟩ = false := fun o => HBK.out.frozen o
      clear hbk2
      go_wp2_with fail
      refine wp_region_still_tail 16 (by kernel_rfl) (by kernel_rfl) ?_
      simp only [List.take_succ_cons, List.take_zero, List.drop_succ_cons, List.drop_zero, World.drew_eq]
      repeat still_step
      refine wpStill_nil ?_
      go_wp2_with fail
      refine ⟨⟨k + 1, (zs.set (k + q) v).set (k + q + 1) hi, by omega, by go_num, by simpa using hzl, (bz.set hv64).set u3, HBK2.out, ?_, ?_⟩, by simp [intOf]; omega⟩
      · (repeat (first | (with_reducible exact Below.refl _ _) | (with_reducible assumption) | (with_reducible refine Below.drew ?_) | (with_reducible refine below_drewN ?_ _) | ((with_reducible refine Below.setCell ?_ (p := ⟨_, _, _⟩) ?_ _); rotate_left; (simp <;> omega)) | ((with_reducible refine Below.alloc ?_ ?_ _); rotate_left; (simp <;> omega)) | ((with_reducible refine Below.trans ?_ (Below.mono (by with_reducible assumption) ?_)); rotate_left; (simp <;> omega))))
      · have N2 := nv_set (zs := zs.set (k + q) v) (j := k + q + 1) hi (by rw [List.length_set]; omega)
        rw [gd_set (by omega), HO2.out] at N2
        rw [nv_take]
        exact up_step rfl U1.out HI.out (by rw [HV.out]; exact N1.out) N2
    · obtain rfl : n = k := by omega
      have hna : NA wr (some ⟨w.heap.size, 0, none⟩) (n + q + 1) (n + q + 1) (nv xs * 2 ^ s) := by
        refine ⟨zs, (Own.of_bk (base := 0) bk (by omega) hzl (by omega)).rd, bz, ?_⟩
        have e := HI.out
        rw [List.take_of_length_le (by rw [HX.out.len]; omega)] at e
        rw [HSQ.out]; exact e
      have HNA := Lib.hid hna
      clear hna bk
      go_wp2_with fail
      refine (trim_any _ HNA.out (by omega)).mono ?_
      rintro e w' h
      have h := h.lift hbl
      obtain ⟨A', c', rfl, ho, hb⟩ := h
      go_wp2_with fail
      go_ret
      exact ⟨A', c', rfl, ho, hb⟩
theorem up_any (w : World) {A : Option Addr} {n c x : Nat} (s : Nat) (hx : NA w A n c x) (hn : n ≤ 524288) (hs : s ≤ 65536) :
    Calls Try.prog 55 #[.slice A n c, .int .i64 s] w (RetN (x * 2 ^ s) w) := up_gen w s s hx hn hs (by omega)
end Go.Proofs.Yteelppebdcgbpaa

/- Numbers moved down by binary digits. -/
namespace Go.Proofs.Yteelppebdcgbpaa
set_option linter.unusedSimpArgs false
set_option linter.unusedVariables false
open Go.RowKit

theorem down_limb {d d' r E E' : Nat} (hr : r ≤ 63) (hd : d < 18446744073709551616) (hd' : d' < 18446744073709551616) (hE : E = d + 18446744073709551616 * E') (hE' : ∃ F, E' = d' + 18446744073709551616 * F) :
    (d / 2 ^ r ||| d' * 2 ^ (63 - r) % 18446744073709551616 * 2 % 18446744073709551616) < 18446744073709551616 ∧
    E / 2 ^ r = (d / 2 ^ r ||| d' * 2 ^ (63 - r) % 18446744073709551616 * 2 % 18446744073709551616) + 18446744073709551616 * (E' / 2 ^ r) := by
  obtain ⟨F, hF⟩ := hE'
  have hp : 0 < 2 ^ r := Nat.pow_pos (by omega)
  have hp2 : 0 < 2 ^ (64 - r) := Nat.pow_pos (by omega)
  have e64 : 2 ^ (64 - r) * 2 ^ r = 18446744073709551616 := by rw [← Nat.pow_add, Nat.sub_add_cancel (by omega)]
  have e63 : 2 ^ (63 - r) * 2 = 2 ^ (64 - r) := by rw [← Nat.pow_succ, show (63 - r).succ = 64 - r by omega]
  have h1 : d' * 2 ^ (63 - r) % 18446744073709551616 * 2 % 18446744073709551616 = d' * 2 ^ (64 - r) % 18446744073709551616 := by
    rw [Nat.mod_mul_mod, Nat.mul_assoc, e63]
  have h2 : d' * 2 ^ (64 - r) % 18446744073709551616 = 2 ^ (64 - r) * (d' % 2 ^ r) := by
    rw [← e64, Nat.mul_comm d', Nat.mul_mod_mul_left]
  have hlo : d / 2 ^ r < 2 ^ (64 - r) := by rw [Nat.div_lt_iff_lt_mul hp, e64]; exact hd
  have hor : (d / 2 ^ r ||| 2 ^ (64 - r) * (d' % 2 ^ r)) = d / 2 ^ r + 2 ^ (64 - r) * (d' % 2 ^ r) := or_apart' hlo (Nat.mul_mod_right _ _)
  rw [h1, h2, hor]
  have hm := Nat.mod_lt d' hp
  have hb : 2 ^ (64 - r) * (d' % 2 ^ r) + 2 ^ (64 - r) ≤ 18446744073709551616 := by
    have := Nat.mul_le_mul_left (2 ^ (64 - r)) (show d' % 2 ^ r + 1 ≤ 2 ^ r from hm)
    rw [e64, Nat.mul_add] at this; omega
  refine ⟨by omega, ?_⟩
  have hq : E / 2 ^ r = d / 2 ^ r + 2 ^ (64 - r) * E' := by
    rw [hE, ← e64, Nat.mul_right_comm, Nat.mul_comm _ (2 ^ r), Nat.add_mul_div_left _ _ hp]
  have hq' : E' = 2 ^ r * (E' / 2 ^ r) + d' % 2 ^ r := by
    have e1 : E' % 2 ^ r = d' % 2 ^ r := by
      rw [hF, ← e64, Nat.mul_right_comm, Nat.add_mul_mod_self_right]
    have := Nat.div_add_mod E' (2 ^ r)
    omega
  rw [hq]
  have e2 := congrArg (2 ^ (64 - r) * ·) hq'
  simp only [Nat.mul_add] at e2
  rw [← Nat.mul_assoc, e64] at e2
  omega
theorem down_step {N S T E E' v : Nat} {ws : List Nat} (hS : nv ws + 18446744073709551616 ^ T * E = N) (hl : ws.length = T) (hv : E = v + 18446744073709551616 * E') (_hs : S = v) : nv (ws ++ [v]) + 18446744073709551616 ^ (T + 1) * E' = N := by
  rw [nv_append, hl, Nat.pow_succ, ← hS, hv, Nat.mul_add]
  simp only [nv, Nat.mul_zero, Nat.add_zero]
  rw [Nat.mul_assoc]; omega
theorem nv_drop_any (xs : List Nat) (j : Nat) : nv (xs.drop j) = gd xs j + 18446744073709551616 * nv (xs.drop (j + 1)) := by
  rcases Nat.lt_or_ge j xs.length with h | h
  · exact nv_drop h
  · rw [List.drop_eq_nil_of_le h, List.drop_eq_nil_of_le (by omega), gd_ge h]; simp [nv]
theorem nv_drop_div {xs : List Nat} (h : B64 xs) (q : Nat) : nv (xs.drop q) = nv xs / 18446744073709551616 ^ q := by
  rcases Nat.lt_or_ge q xs.length with hq | hq
  · have := nv_split xs q (by omega)
    have hl := nv_take_lt h q
    rw [this, Nat.add_mul_div_left _ _ (Nat.pow_pos (by omega)), Nat.div_eq_of_lt hl, Nat.zero_add]
  · rw [List.drop_eq_nil_of_le hq, Nat.div_eq_of_lt]
    · rfl
    · exact Nat.lt_of_lt_of_le (nv_lt h) (Nat.pow_le_pow_right (by omega) hq)

set_option maxHeartbeats 1000000 in
theorem right_any (w : World) {A : Option Addr} {n c x : Nat} (s : Nat) (hx : NA w A n c x) (hn : n ≤ 524288) (hs : s ≤ 65536) :
    Calls Try.prog 75 #[.slice A n c, .int .i64 s] w (RetN (x / 2 ^ s) w) := by
  obtain ⟨xs, hx, bx, rfl⟩ := hx
  obtain ⟨i0, hi0, hz0, hz1, hz2⟩ := info_parts u64_info
  have HX := Lib.hid hx
  have BX := Lib.hid bx
  obtain ⟨q, hq⟩ : ∃ q, s / 64 = q := ⟨_, rfl⟩
  obtain ⟨r, hr⟩ : ∃ r, s % 64 = r := ⟨_, rfl⟩
  have hsqr : s = 64 * q + r := by omega
  have hr63 : r ≤ 63 := by omega
  have d1 : (s : Int) / 64 = (q : Int) := by omega
  have d2 : (s : Int).tdiv 64 = (q : Int) := by rw [Int.tdiv_eq_ediv_of_nonneg (by omega)]; omega
  have d3 : (s : Int) % 64 = (r : Int) := by omega
  have d4 : (s : Int).tmod 64 = (r : Int) := by rw [Int.tmod_eq_emod_of_nonneg (by omega)]; omega
  have d5 : IntKind.i64.wrap (q : Int) = (q : Int) := IntWalk.i64_in _ (by omega)
  have hstart : nv [] + 18446744073709551616 ^ 0 * (nv (xs.drop q) / 2 ^ r) = nv xs / 2 ^ s := by
    rw [nv_drop_div bx, wpow q, Nat.div_div_eq_div_mul, ← Nat.pow_add, ← hsqr]; simp [nv]
  have HST := Lib.hid hstart
  have hq1024 : q ≤ 1024 := by omega
  clear hx bx hsqr hq hr hstart
  go_enter Try.func75, Try.ntmps75
  go_wp2_with fail
  go_loopw [5, 6] (fun v i wr => ∃ (t : Nat) (A1 : Option Addr) (c1 : Nat) (ws : List Nat), (t = 0 ∨ q + t ≤ n) ∧ i = .int .i64 ((q + t : Nat) : Int) ∧ v = .slice A1 t c1 ∧ Own .u64 35 wr w.heap.size A1 t c1 ws ∧ B64 ws ∧ Below w.heap.size w wr ∧ nv ws + 18446744073709551616 ^ t * (nv (xs.drop (q + t)) / 2 ^ r) = nv xs / 2 ^ s) (fun _ i _ => n - (intOf i).toNat)
  case atStart => exact ⟨0, none, 0, [], .inl rfl, rfl, rfl, Own.nil _ _ _ _, B64.nil, Below.refl _ _, HST.out⟩
  case round =>
    obtain ⟨t, A1, c1, ws, ht, rfl, rfl, how, bw, hbl, hinv⟩ := hrel
    have HI := Lib.hid hinv
    have HO := Lib.hid how
    clear hinv how
    obtain ⟨j, hj⟩ : ∃ j, q + t = j := ⟨_, rfl⟩
    rw [hj] at HI ⊢
    by_cases hlt : j < n
    · obtain ⟨ad, rfl, hb, hc⟩ := HX.out.form (by omega)
      have hxc := (hbl.cell (p := ad.add j) (adlt hb j)).trans (hc j hlt)
      obtain ⟨d, hd⟩ : ∃ d, gd xs j = d := ⟨_, rfl⟩
      obtain ⟨d', hd'⟩ : ∃ d', gd xs (j + 1) = d' := ⟨_, rfl⟩
      rw [hd] at hxc
      have hd64 : d < 18446744073709551616 := by rw [← hd]; exact BX.out.gd j
      have hd'64 : d' < 18446744073709551616 := by rw [← hd']; exact BX.out.gd (j + 1)
      obtain ⟨hv64, hvE⟩ := down_limb hr63 hd64 hd'64 (nv_drop_any xs j |>.trans (by rw [hd])) ⟨_, nv_drop_any xs (j + 1) |>.trans (by rw [hd'])⟩
      obtain ⟨p1, hp1⟩ : ∃ p1, d / 2 ^ r = p1 := ⟨_, rfl⟩
      obtain ⟨p2, hp2⟩ : ∃ p2, d' * 2 ^ (63 - r) % 18446744073709551616 = p2 := ⟨_, rfl⟩
      obtain ⟨p3, hp3⟩ : ∃ p3, p2 * 2 % 18446744073709551616 = p3 := ⟨_, rfl⟩
      have hp1b : p1 < 18446744073709551616 := by rw [← hp1]; exact Nat.lt_of_le_of_lt (Nat.div_le_self _ _) hd64
      have hp3b : p3 < 18446744073709551616 := by rw [← hp3]; exact Nat.mod_lt _ (by omega)
      have e1 : (d : Int) / 2 ^ r = (p1 : Int) := by rw [← hp1]; push_cast; rfl
      have e2 : IntKind.u64.wrap ((d' : Int) * 2 ^ (63 - r)) = (p2 : Int) := by
        rw [show (d' : Int) * 2 ^ (63 - r) = ((d' * 2 ^ (63 - r) : Nat) : Int) by push_cast; rfl, wrap_u64_nat, hp2]
      have e3 : IntKind.u64.wrap ((p2 : Int) * 2) = (p3 : Int) := wrap_of (by omega)
      have e4 : IntKind.i64.wrap (63 - (r : Int)) = ((63 - r : Nat) : Int) := by rw [IntWalk.i64_in _ (by omega)]; omega
      have e5 := or_u64 hp1b hp3b
      rw [hp1, hp2, hp3] at hv64 hvE
      obtain ⟨v, hv⟩ : ∃ v, (p1 ||| p3) = v := ⟨_, rfl⟩
      rw [hv] at e5 hv64 hvE
      have e6 : IntKind.i64.wrap ((j : Int) + 1) = (j : Int) + 1 := IntWalk.i64_in _ (by omega)
      have j0 : (0 : Int) ≤ (j : Int) := by omega
      have j1 : (j : Int) < (n : Int) := by omega
      have hk4 : j + 1 ≤ 4611686018427387904 := by omega
      have HVE := Lib.hid hvE
      have HD := Lib.hid hd'
      have hlim := limb_any wr.drew (HX.out.below (Below.drew hbl)) (j + 1) hk4
      rw [hd'] at hlim
      have HLIM := Lib.hid hlim
      have S0 : wr.drew.cell? (ad.add j) = some (.int .u64 (d : Int)) := hxc
      have hbs := hbl.size
      have hbb : (ad.add j).block < wr.heap.size := adlt (by omega) j
      have S1 : (wr.drew.alloc (.cells #[.int .u64 (v : Int)] 35)).cell? (ad.add j) = some (.int .u64 (d : Int)) := (World.cell?_alloc_lt _ _ _ hbb).trans S0
      have HO1 := Lib.hid (((HO.out.below (Below.drew (Below.refl _ _))).below ((Below.refl _ _).alloc (Nat.le_refl _) (.cells #[.int .u64 (v : Int)] 35))) : Own .u64 35 (wr.drew.alloc (.cells #[.int .u64 (v : Int)] 35)) w.heap.size A1 t c1 ws)
      have HR1 := Lib.hid ((Own.of_bk (k := .u64) (xs := [v]) (base := 0) (Bk.new wr.drew 35 (va .u64 [v])) (by omega) rfl (by simp)).rd : Rd .u64 (wr.drew.alloc (.cells #[.int .u64 (v : Int)] 35)) (some ⟨wr.heap.size, 0, none⟩) 1 1 [v])
      have hb9 : w.heap.size ≤ (wr.drew.alloc (.cells #[.int .u64 (v : Int)] 35)).heap.size := by simp; omega
      have HB1 : Below w.heap.size w (wr.drew.alloc (.cells #[.int .u64 (v : Int)] 35)) := by (repeat (first | (with_reducible exact Below.refl _ _) | (with_reducible assumption) | (with_reducible refine Below.drew ?_) | (with_reducible refine below_drewN ?_ _) | ((with_reducible refine Below.setCell ?_ (p := ⟨_, _, _⟩) ?_ _); rotate_left; (simp <;> omega)) | ((with_reducible refine Below.alloc ?_ ?_ _); rotate_left; (simp <;> omega)) | ((with_reducible refine Below.trans ?_ (Below.mono (by with_reducible assumption) ?_)); rotate_left; (simp <;> omega))))
      clear hvE hd' hd hlim hp1 hp2 hp3 hv hc
      go_wp2_with fail
      go_region_held3 (fun w' => w'.cell? (ad.add j) = some (.int .u64 (d : Int)))
        (first | exact S0 | exact S1 | (refine (Below.cell (B := w.heap.size) (by assumption) (p := ad.add j) (adlt hb j)).trans ?_; exact S1))
        (first | (go_at_call 52; refine HLIM.out.mono ?_; rintro e w' ⟨rfl, rfl⟩) | (refine step_append_rd _ (by rfl) _ _ _ (by rfl) .u64 w.heap.size 35 i0 (.int .u64 0) 8 Try.underlying22 hi0 hz0 hz1 hz2 rfl A1 t c1 ws (by rfl) HO1.out (some ⟨wr.heap.size, 0, none⟩) 1 1 [v] (by rfl) HR1.out (by simp only [maxLen]; omega) (by omega) hb9 ?_; intro A' c' w1 ho' hb' _ _))
      clear S0 S1
      have HO' := Lib.hid ho'
      have HB' := Lib.hid hb'
      clear ho' hb'
      go_wp2_with fail
      refine ⟨⟨t + 1, A', c', ws ++ [v], .inr (by omega), ?_, rfl, HO'.out, bw.append (B64.cons hv64 B64.nil), HB1.trans HB'.out, ?_⟩, by simp [intOf]; omega⟩
      · rw [show q + (t + 1) = j + 1 by omega]; rfl
      · have := down_step (T := t) (S := v) HI.out HO.out.len HVE.out rfl
        rw [show q + (t + 1) = j + 1 by omega]
        exact this
    · have hna : NA wr A1 t c1 (nv xs / 2 ^ s) := by
        refine ⟨ws, HO.out.rd, bw, ?_⟩
        have e := HI.out
        rw [List.drop_eq_nil_of_le (by rw [HX.out.len]; omega)] at e
        simpa [nv] using e
      have HNA := Lib.hid hna
      clear hna
      go_wp2_with fail
      refine (trim_any _ HNA.out (by omega)).mono ?_
      rintro e w' h
      have h := h.lift hbl
      obtain ⟨A', c', rfl, ho, hb⟩ := h
      go_wp2_with fail
      go_ret
      exact ⟨A', c', rfl, ho, hb⟩

set_option maxHeartbeats 400000 in
theorem down_gen (w : World) {A : Option Addr} {n c x : Nat} (s : Nat) (t0 : Int) (hx : NA w A n c x) (hn : n ≤ 524288) (hs : s ≤ 65536) (hs0 : 0 < s) (m1 : min t0 65536 = t0) (m2 : max t0 (-65536) = -(s : Int)) :
    Calls Try.prog 55 #[.slice A n c, .int .i64 t0] w (RetN (x / 2 ^ s) w) := by
  have HX := Lib.hid hx
  clear hx
  go_enter Try.func55, Try.ntmps55
  go_wp2_with fail
  refine (right_any w s HX.out hn hs).mono ?_
  rintro e w' h
  obtain ⟨A', c', rfl, ho, hb⟩ := h
  go_wp2_with fail
  go_ret
  exact ⟨A', c', rfl, ho, hb⟩
theorem down_any (w : World) {A : Option Addr} {n c x : Nat} (s : Nat) (hx : NA w A n c x) (hn : n ≤ 524288) (hs : s ≤ 65536) (hs0 : 0 < s) :
    Calls Try.prog 55 #[.slice A n c, .int .i64 (-(s : Int))] w (RetN (x / 2 ^ s) w) := down_gen w s _ hx hn hs hs0 (by omega) (by omega)
end Go.Proofs.Yteelppebdcgbpaa

/- The steps of long division: a digit is guessed, the divisor times it is taken off, the divisor is given back. -/
namespace Go.Proofs.Yteelppebdcgbpaa
set_option linter.unusedSimpArgs false
set_option linter.unusedVariables false
open Go.RowKit

theorem Own.cellAt {k : IntKind} {e : TypeId} {w : World} {base g n c : Nat} {xs : List Nat} (h : Own k e w base (some ⟨g, 0, none⟩) n c xs) {j : Nat} (hj : j < n) : w.cell? ⟨g, j, none⟩ = some (.int k ((gd xs j : Nat) : Int)) := by
  rw [World.ownsRow.cellAt h j (by omega), vs_get, gd_get (by rw [h.len]; exact hj)]; rfl
theorem Own.frozenAt {k : IntKind} {e : TypeId} {w : World} {base g n c : Nat} {xs : List Nat} (h : Own k e w base (some ⟨g, 0, none⟩) n c xs) (j : Nat) : w.frozen? ⟨g, j, none⟩ = false := World.ownsRow.frozenAt h j
theorem Own.store {k : IntKind} {e : TypeId} {w : World} {base g n c : Nat} {xs : List Nat} (h : Own k e w base (some ⟨g, 0, none⟩) n c xs) (j y : Nat) : Own k e (w.setCell ⟨g, j, none⟩ (.int k (y : Int))) base (some ⟨g, 0, none⟩) n c (xs.set j y) := by
  have := (World.ownsRow.stored h j (.int k (y : Int))).1
  unfold Own
  rw [show vs k (xs.set j y) = (vs k xs).set j (.int k (y : Int)) by simp [vs, List.map_set]]
  exact this
theorem Own.drewN {k : IntKind} {e : TypeId} {w : World} {base n c : Nat} {A : Option Addr} {xs : List Nat} (h : Own k e w base A n c xs) (m : Nat) : Own k e (w.drewN m) base A n c xs := h
theorem grown_refl (w : World) (r : Option Nat) : w.grownBy w r := World.grownBy.refl w r
theorem grown_set {w w' : World} {g : Nat} (h : w.grownBy w' (some g)) (j : Nat) (u : Value) : w.grownBy (w'.setCell ⟨g, j, none⟩ u) (some g) :=
  ⟨h.os, h.tape, h.output, by simpa using h.size, fun k hk hne => (Below.heap_setCell w' ⟨g, j, none⟩ u k (fun e => hne (by simp [e]))).trans (h.block k hk hne)⟩
theorem grown_drewN {w w' : World} {r : Option Nat} (h : w.grownBy w' r) (n : Nat) : w.grownBy (w'.drewN n) r := ⟨h.os, h.tape, h.output, h.size, h.block⟩
theorem grown_trans {w w' w'' : World} {r : Option Nat} (h : w.grownBy w' r) (h' : w'.grownBy w'' r) : w.grownBy w'' r :=
  ⟨h'.os.trans h.os, h'.tape.trans h.tape, h'.output.trans h.output, Nat.le_trans h.size h'.size, fun k hk hne => (h'.block k (Nat.lt_of_lt_of_le hk h.size) hne).trans (h.block k hk hne)⟩
/-- a slice that lies elsewhere reads as before -/
theorem Rd.grown {k : IntKind} {w w' : World} {A : Option Addr} {n c : Nat} {xs : List Nat} {g : Nat} (h : Rd k w A n c xs) (hg : w.grownBy w' (some g)) (hne : ∀ ad, A = some ad → ad.block ≠ g) : Rd k w' A n c xs := by
  obtain ⟨h1, h2, h3, h4⟩ := h
  refine ⟨h1, h2, h3, fun hn => ?_⟩
  obtain ⟨ad, rfl, hlt, hc⟩ := h4 hn
  exact ⟨ad, rfl, Nat.lt_of_lt_of_le hlt hg.size, fun j x hx => (World.cell?_of_block (a := ad.add j) (by rw [Go.ChangeShapes.block_add]; exact hg.block _ hlt (by simpa using hne ad rfl))).trans (hc j x hx)⟩

def guessN (u1 u0 top : Nat) : Nat := if top ≤ u1 then 18446744073709551615 else (u1 * 18446744073709551616 + u0) / top

set_option maxHeartbeats 400000 in
theorem guess_any (w : World) {A : Option Addr} {n c : Nat} {us : List Nat} (h : Rd .u64 w A n c us) (bu : B64 us) (i top : Nat) (hi : 0 < i) (hin : i < n) (ht : top < 18446744073709551616) :
    Calls Try.prog 60 #[.slice A n c, .int .i64 i, .int .u64 top] w fun e w' => e = .returned (.int .u64 ((guessN (gd us i) (gd us (i - 1)) top : Nat) : Int)) ∧ ∃ m, w' = w.drewN m := by
  obtain ⟨ad, rfl, hb, hc⟩ := h.form (by omega)
  obtain ⟨j, hj⟩ : ∃ j, i - 1 = j := ⟨_, rfl⟩
  rw [hj]
  have hij : i ≤ j + 1 := by omega
  have hji : j + 1 ≤ i := by omega
  clear hj
  have c1 := hc i hin
  have c0 := hc j (by omega)
  have hm := h.max
  have hcp := h.cap
  have g1 := bu.gd i
  have g0 := bu.gd j
  clear hc h
  obtain ⟨a, ha⟩ : ∃ a, gd us i = a := ⟨_, rfl⟩
  obtain ⟨b0, hb0⟩ : ∃ b0, gd us j = b0 := ⟨_, rfl⟩
  rw [ha] at c1 g1 ⊢
  rw [hb0] at c0 g0 ⊢
  clear ha hb0
  by_cases ht1 : top ≤ a
  · have H := Lib.hid (show guessN a b0 top = 18446744073709551615 by unfold guessN; rw [if_pos ht1])
    have d1 : decide (top ≤ a) = true := by simpa using ht1
    clear ht1
    go_enter Try.func60, Try.ntmps60
    go_wp2_with fail
    go_ret
    exact ⟨by rw [H.out]; rfl, 0, rfl⟩
  · have H := Lib.hid (show guessN a b0 top = (a * 18446744073709551616 + b0) / top by unfold guessN; rw [if_neg ht1])
    have d1 : decide (top ≤ a) = false := by simpa using ht1
    have i1 : IntKind.i64.wrap ((i : Int) - 1) = (j : Int) := by rw [IntWalk.i64_in _ (by omega)]; omega
    have i2 : (0 : Int) ≤ (j : Int) := by omega
    have i3 : (j : Int) < (n : Int) := by omega
    have i4 : (0 : Int) ≤ (i : Int) := by omega
    have i5 : (i : Int) < (n : Int) := by omega
    have HD := Lib.hid (fun w => div64_any w a b0 top g0 (by omega) ht)
    clear ht1
    go_enter Try.func60, Try.ntmps60
    go_wp2_with fail
    go_quiet ((go_at_call 77; exact Calls.quiet_of (HD.out _)))
    go_wp2_with fail
    go_ret
    exact ⟨by rw [H.out]; rfl, nq, rfl⟩
end Go.Proofs.Yteelppebdcgbpaa

/- The divisor times a digit is taken off; the divisor is given back. -/
namespace Go.Proofs.Yteelppebdcgbpaa
set_option linter.unusedSimpArgs false
set_option linter.unusedVariables false
open Go.RowKit

/-- A row of the call's own has been written in place; a bool is returned. -/
def RetU (g base nu cu : Nat) (w : World) (P : Bool → List Nat → Prop) (e : Ending) (w' : World) : Prop :=
  ∃ (r : Bool) (us' : List Nat), e = .returned (.bool r) ∧ Own .u64 35 w' base (some ⟨g, 0, none⟩) nu cu us' ∧ B64 us' ∧ w.grownBy w' (some g) ∧ P r us'

/-- the limbs above place K are the same -/
def Above (K : Nat) (xs ys : List Nat) : Prop := ∀ t, K < t → gd ys t = gd xs t
theorem Above.refl (K : Nat) (xs : List Nat) : Above K xs xs := fun _ _ => rfl
theorem Above.set {K : Nat} {xs ys : List Nat} (h : Above K xs ys) {i : Nat} (hi : i ≤ K) (y : Nat) : Above K xs (ys.set i y) := fun t ht => by rw [gd_set (by omega)]; exact h t ht
theorem Above.trans {K : Nat} {xs ys zs : List Nat} (h : Above K xs ys) (h' : Above K ys zs) : Above K xs zs := fun t ht => (h' t ht).trans (h t ht)

theorem give_stepW {W S S' U Vt P Q x c o s c' : Nat} (hn : S' + P * o = S + P * s) (hd : o + x + c = s + W * c') (h : S + P * c = U + Vt * Q) {y : Nat} (hy : P * x = y * Q) : S' + P * W * c' = U + (Vt + y) * Q := by
  have e := congrArg (P * ·) hd
  simp only [Nat.mul_add] at e
  rw [← Nat.mul_assoc] at e
  rw [Nat.add_mul, ← hy]
  omega
theorem give_step {S S' U Vt P Q x c o s c' : Nat} (hn : S' + P * o = S + P * s) (hd : o + x + c = s + 18446744073709551616 * c') (h : S + P * c = U + Vt * Q) {y : Nat} (hy : P * x = y * Q) : S' + P * 18446744073709551616 * c' = U + (Vt + y) * Q :=
  give_stepW hn hd h hy
theorem take_stepW {W S S' U Vt P Q q x cy bo o s lo cy' bo' : Nat} (hn : S' + P * o = S + P * s) (h1 : x * q + cy = lo + W * cy') (h2 : o + W * bo' = s + lo + bo) (h : S + q * Vt * Q = U + P * (cy + bo)) {y : Nat} (hy : P * x = y * Q) :
    S' + q * (Vt + y) * Q = U + P * W * (cy' + bo') := by
  have e1 := congrArg (P * ·) h1
  have e2 := congrArg (P * ·) h2
  simp only [Nat.mul_add] at e1 e2 h ⊢
  rw [← Nat.mul_assoc P W] at e1 e2
  rw [Nat.add_mul, Nat.mul_assoc q y Q, ← hy]
  have e3 : P * (x * q) = q * (P * x) := by rw [Nat.mul_comm x q, Nat.mul_left_comm]
  rw [e3] at e1
  omega
theorem take_step {S S' U Vt P Q q x cy bo o s lo cy' bo' : Nat} (hn : S' + P * o = S + P * s) (h1 : x * q + cy = lo + 18446744073709551616 * cy') (h2 : o + 18446744073709551616 * bo' = s + lo + bo) (h : S + q * Vt * Q = U + P * (cy + bo)) {y : Nat} (hy : P * x = y * Q) :
    S' + q * (Vt + y) * Q = U + P * 18446744073709551616 * (cy' + bo') := take_stepW hn h1 h2 h hy
theorem pow_shiftW (W j t x : Nat) : W ^ (j + t) * x = W ^ t * x * W ^ j := by rw [Nat.pow_add, Nat.mul_comm (W^j), Nat.mul_assoc, Nat.mul_comm (W^j), Nat.mul_assoc]
theorem pow_shift (j t x : Nat) : 18446744073709551616 ^ (j + t) * x = 18446744073709551616 ^ t * x * 18446744073709551616 ^ j := pow_shiftW _ j t x

set_option maxHeartbeats 1000000 in
theorem give_any (w : World) {base g nu cu m d : Nat} {B : Option Addr} {us ys : List Nat} (h : Own .u64 35 w base (some ⟨g, 0, none⟩) nu cu us) (bu : B64 us) (hv : Rd .u64 w B m d ys) (bv : B64 ys)
    (hne : ∀ ad, B = some ad → ad.block ≠ g) (j : Nat) (hj : j + m < nu) (hnu : nu ≤ 2097152) :
    Calls Try.prog 62 #[.slice (some ⟨g, 0, none⟩) nu cu, .slice B m d, .int .i64 j] w (RetU g base nu cu w fun r us' => nv us' + 18446744073709551616 ^ (j + m + 1) * (if r then 1 else 0) = nv us + nv ys * 18446744073709551616 ^ j ∧ Above (j + m) us us') := by
  have H := Lib.hid h
  have BU := Lib.hid bu
  have HV := Lib.hid hv
  have BV := Lib.hid bv
  have HNE := Lib.hid hne
  clear h bu hv bv hne
  go_enter Try.func62, Try.ntmps62
  go_wp2_with fail
  go_loopw [7, 12] (fun cv i wr => ∃ (t cy : Nat) (vs' : List Nat), t ≤ m ∧ cy ≤ 1 ∧ i = .int .i64 (t : Int) ∧ cv = .int .u64 (cy : Int) ∧ Own .u64 35 wr base (some ⟨g, 0, none⟩) nu cu vs' ∧ B64 vs' ∧ w.grownBy wr (some g) ∧ nv vs' + 18446744073709551616 ^ (j + t) * cy = nv us + nv (ys.take t) * 18446744073709551616 ^ j ∧ Above (j + m) us vs') (fun _ i _ => m - (intOf i).toNat)
  case atStart => exact ⟨0, 0, us, by omega, by omega, rfl, rfl, H.out, BU.out, grown_refl _ _, by simp [nv], Above.refl _ _⟩
  case round =>
    obtain ⟨t, cy, zs, ht, hcy, rfl, rfl, how, bz, hgr, hinv, hab⟩ := hrel
    have HAB := Lib.hid hab
    clear hab
    have HI := Lib.hid hinv
    have HO := Lib.hid how
    have HG := Lib.hid hgr
    clear hinv
    by_cases hlt : t < m
    · obtain ⟨ad, rfl, hb, hc⟩ := (HV.out.grown hgr HNE.out).form (by omega)
      have hxc := hc t hlt
      have hcell := how.cellAt (show j + t < nu by omega)
      have hfr := how.frozenAt (j + t)
      have hadd := run_add (gd zs (j + t)) (gd ys t) cy hcy
      have hgx := BV.out.gd t
      have hgo := bz.gd (j + t)
      obtain ⟨s, hs⟩ : ∃ s, (gd zs (j + t) + gd ys t + cy) % 18446744073709551616 = s := ⟨_, rfl⟩
      obtain ⟨q, hq⟩ : ∃ q, (gd zs (j + t) + gd ys t + cy) / 18446744073709551616 = q := ⟨_, rfl⟩
      rw [hs, hq] at hadd
      have hd : gd zs (j + t) + gd ys t + cy = s + 18446744073709551616 * q := by omega
      have hq1 : q ≤ 1 := by omega
      have hs64 : s < 18446744073709551616 := by rw [← hs]; exact Nat.mod_lt _ (by omega)
      have HD := Lib.hid hd
      have hcu := (HO.out.rd).max
      have hcu2 := (HO.out.rd).cap
      clear hc how hgr hs hq hd hgx hgo
      go_wp2_with fail
      refine ⟨⟨t + 1, q, zs.set (j + t) s, by omega, hq1, by go_num, rfl, HO.out.store (j + t) s, bz.set hs64, grown_set HG.out _ _, ?_, HAB.out.set (by omega) _⟩, by simp [intOf]; omega⟩
      rw [nv_take, ← Nat.add_assoc, Nat.pow_succ]
      exact give_step (nv_set s (by rw [HO.out.len]; omega)) HD.out HI.out (pow_shift _ _ _)
    · obtain rfl : m = t := by omega
      have hcell := how.cellAt hj
      have hfr := how.frozenAt (j + m)
      have hadd := run_add (gd zs (j + m)) cy 0 (by omega)
      have hgo := bz.gd (j + m)
      obtain ⟨s, hs⟩ : ∃ s, (gd zs (j + m) + cy + 0) % 18446744073709551616 = s := ⟨_, rfl⟩
      obtain ⟨q, hq⟩ : ∃ q, (gd zs (j + m) + cy + 0) / 18446744073709551616 = q := ⟨_, rfl⟩
      rw [hs, hq] at hadd
      simp only [Int.natCast_zero] at hadd
      have hd : gd zs (j + m) + 0 + cy = s + 18446744073709551616 * q := by omega
      have hq1 : q = 0 ∨ q = 1 := by omega
      have hs64 : s < 18446744073709551616 := by rw [← hs]; exact Nat.mod_lt _ (by omega)
      have hfin := give_step (nv_set s (show j + m < zs.length by rw [HO.out.len]; exact hj)) hd HI.out (show 18446744073709551616 ^ (j + m) * 0 = 0 * 18446744073709551616 ^ j by simp)
      rw [← Nat.pow_succ, Nat.add_zero, List.take_of_length_le (by rw [HV.out.len]; omega)] at hfin
      have HF := Lib.hid hfin
      have hcu := (HO.out.rd).max
      have hcu2 := (HO.out.rd).cap
      clear how hgr hs hq hd hgo hfin
      rcases hq1 with rfl | rfl
      · go_wp2_with fail
        go_ret
        refine ⟨false, zs.set (j + m) s, rfl, HO.out.store (j + m) s, bz.set hs64, grown_set HG.out _ _, ?_⟩
        simp only [Bool.false_eq_true, if_true, if_false]
        exact ⟨HF.out, HAB.out.set (by omega) _⟩
      · go_wp2_with fail
        go_ret
        refine ⟨true, zs.set (j + m) s, rfl, HO.out.store (j + m) s, bz.set hs64, grown_set HG.out _ _, ?_⟩
        simp only [Bool.false_eq_true, if_true, if_false]
        exact ⟨HF.out, HAB.out.set (by omega) _⟩
end Go.Proofs.Yteelppebdcgbpaa
