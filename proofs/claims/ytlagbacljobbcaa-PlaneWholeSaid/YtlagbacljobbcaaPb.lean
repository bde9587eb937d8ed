/- Layer 13: sums, means, spreads of points are told to the bit: the walks. -/
import Derived.Test.YtlagbacljobbcaaPa
namespace Go.Proofs.Ytlagbacljobbcaa
set_option linter.unusedSimpArgs false
set_option linter.unusedVariables false
open Go.RowKit
attribute [local go_sem] call_bits call_frombits unary_neg_float

set_option maxRecDepth 100000 in
set_option maxHeartbeats 1000000 in
theorem walk_PlaneSums (A0 : Option Addr) (n0 c0 : Nat) (xs : List Nat) (A1 : Option Addr) (n1 c1 : Nat) (ys : List Nat) (W : World) (rd0 : Rd .u64 W A0 n0 c0 xs) (rd1 : Rd .u64 W A1 n1 c1 ys) :
    Calls Try.prog 3 #[.slice A0 n0 c0, .slice A1 n1 c1] W fun e w' => e = .returned (.bool true) ∧ Below W.heap.size W w' := by
  by_cases hn : n0 ≤ 2000
  · have t1 : decide ((2000 : Int) < (n0 : Int)) = false := by simp; omega
    have hP := points_any W rd0 rd1 hn
    generalize xs.zip ys = zs at hP
    clear hn rd0 rd1
    go_enter Try.func3, Try.ntmps3
    go_upto_region 4 with (go_at_call 10; refine hP.mono ?_; rintro e w1 ⟨B1, l1, B2, l2, B3, l3, rfl, r1, r2, r3, b1⟩)
    have hS := sum_any w1 r1
    go_upto_region 5 with (go_at_call 11; refine hS.mono ?_; rintro e w2 ⟨s1, s2, rfl, _, _, es1, es2, b2⟩)
    have hR := rSum_any w2 (r2.below b2) (r3.below b2)
    go_upto_region 6 with (go_at_call 12; refine hR.mono ?_; rintro e w3 ⟨x1, x2, rfl, _, _, ex1, ex2, b3⟩)
    have b23 := b2.trans (b3.mono b2.size)
    have hM := mean_any w3 (r1.below b23)
    go_upto_region 7 with (go_at_call 13; refine hM.mono ?_; rintro e w4 ⟨m1, m2, rfl, _, _, em1, em2, b4⟩)
    have b24 := b23.trans (b4.mono b23.size)
    have hQ := rmean_any w4 (r2.below b24) (r3.below b24) (by simp)
    go_upto_region 8 with (go_at_call 14; refine hQ.mono ?_; rintro e w5 ⟨u1, u2, rfl, _, _, eu1, eu2, b5⟩)
    have b25 := b24.trans (b5.mono b24.size)
    have HB := Lib.hid (b1.trans (b25.mono b1.size))
    have k1 := fun w => like_any w (es1.trans ex1.symm)
    have k2 := fun w => like_any w (es2.trans ex2.symm)
    have k3 := fun w => like_any w (em1.trans eu1.symm)
    have k4 := fun w => like_any w (em2.trans eu2.symm)
    clear hP hS hR hM hQ b1 b2 b3 b4 b5 b23 b24 b25 r1 r2 r3 es1 es2 ex1 ex2 em1 em2 eu1 eu2
    generalize fitN zs.length = z
    go_wp2_with (first
      | (go_at_call 9; refine (palive_any _).mono ?_; rintro e w6 ⟨rfl, b6⟩)
      | (go_at_call 15; (with_reducible refine (k1 _).mono ?_); rintro e w7 ⟨rfl, rfl⟩)
      | (go_at_call 15; (with_reducible refine (k2 _).mono ?_); rintro e w7 ⟨rfl, rfl⟩)
      | (go_at_call 15; (with_reducible refine (k3 _).mono ?_); rintro e w7 ⟨rfl, rfl⟩)
      | (go_at_call 15; (with_reducible refine (k4 _).mono ?_); rintro e w7 ⟨rfl, rfl⟩))
    go_ret
    exact ⟨rfl, HB.out.trans (b6.mono HB.out.size)⟩
  · have t1 : decide ((2000 : Int) < (n0 : Int)) = true := by simp; omega
    clear hn rd0 rd1
    go_enter Try.func3, Try.ntmps3
    go_wp2_with (go_at_call 9; refine (palive_any _).mono ?_; rintro e w6 ⟨rfl, b6⟩)
    go_ret
    exact ⟨rfl, b6⟩
set_option maxRecDepth 100000 in
set_option maxHeartbeats 1000000 in
theorem spreads_walk (A0 : Option Addr) (n0 c0 : Nat) (xs : List Nat) (A1 : Option Addr) (n1 c1 : Nat) (ys : List Nat) (c d : Nat) (W : World) (rd0 : Rd .u64 W A0 n0 c0 xs) (rd1 : Rd .u64 W A1 n1 c1 ys) :
    Calls Try.prog 8 #[.slice A0 n0 c0, .slice A1 n1 c1, .int .u64 (c : Int), .int .u64 (d : Int)] W fun e w' => e = .returned (.bool true) ∧ Below W.heap.size W w' := by
  by_cases hn : n0 ≤ 2000
  · have t1 : decide ((2000 : Int) < (n0 : Int)) = false := by simp; omega
    have hP := points_any W rd0 rd1 hn
    generalize xs.zip ys = zs at hP
    clear hn rd0 rd1
    go_enter Try.func8, Try.ntmps8
    go_upto_region 4 with (go_at_call 10; refine hP.mono ?_; rintro e w1 ⟨B1, l1, B2, l2, B3, l3, rfl, r1, r2, r3, b1⟩)
    go_upto_region 5 with (fail)
    have hS := spread_any w1 r1
    go_upto_region 6 with (go_at_call 25; refine hS.mono ?_; rintro e w2 ⟨s1, rfl, _, es1, b2⟩)
    have hR := rspread_any w2 (r2.below b2) (r3.below b2)
    go_upto_region 7 with (go_at_call 27; refine hR.mono ?_; rintro e w3 ⟨x1, rfl, _, ex1, b3⟩)
    have b23 := b2.trans (b3.mono b2.size)
    have hM := nearest_any w3 (r1.below b23) (rfl : mk c = _) (rfl : mk d = _)
    go_upto_region 8 with (go_at_call 26; refine hM.mono ?_; rintro e w4 ⟨rfl, b4⟩)
    have b24 := b23.trans (b4.mono b23.size)
    have hQ := rnearest_any w4 (r2.below b24) (r3.below b24) (rfl : mk c = _) (rfl : mk d = _)
    go_upto_region 9 with (go_at_call 28; refine hQ.mono ?_; rintro e w5 ⟨rfl, b5⟩)
    have b25 := b24.trans (b5.mono b24.size)
    have HB := Lib.hid (b1.trans (b25.mono b1.size))
    have k1 := fun w => like_any w (es1.trans ex1.symm)
    clear hP hS hR hM hQ b1 b2 b3 b4 b5 b23 b24 b25 r1 r2 r3 es1 ex1
    generalize fitN zs.length = z
    generalize nearN zs (mk c) (mk d) = k
    go_wp2_with (first
      | (go_at_call 9; refine (palive_any _).mono ?_; rintro e w6 ⟨rfl, b6⟩)
      | (go_at_call 15; (with_reducible refine (k1 _).mono ?_); rintro e w7 ⟨rfl, rfl⟩))
    go_ret
    exact ⟨rfl, HB.out.trans (b6.mono HB.out.size)⟩
  · have t1 : decide ((2000 : Int) < (n0 : Int)) = true := by simp; omega
    clear hn rd0 rd1
    go_enter Try.func8, Try.ntmps8
    go_wp2_with (go_at_call 9; refine (palive_any _).mono ?_; rintro e w6 ⟨rfl, b6⟩)
    go_ret
    exact ⟨rfl, b6⟩
end Go.Proofs.Ytlagbacljobbcaa
