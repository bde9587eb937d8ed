/- Layer 13: points are made, turned, scaled, held against each other, to the bit: the walk. -/
import Derived.Test.YtlagbacljobbcaaPb
import Derived.Test.YtlagbacljobbcaaBy
namespace Go.Proofs.Ytlagbacljobbcaa
set_option linter.unusedSimpArgs false
set_option linter.unusedVariables false
open Go.RowKit
attribute [local go_sem] call_bits call_frombits unary_neg_float

theorem own_order {x : Nat} : FloatKind.f64.format.order x x = some .eq ∨ FloatKind.f64.format.order x x = none := by
  cases h : nanB x
  · exact .inl (order_self h)
  · exact .inr (order_nan h)
theorem int_order (n : Int) : FloatKind.f64.format.order (FloatKind.f64.nearest n) (FloatKind.f64.nearest n) = some .eq := order_self (nearest_num _ _ _).1
set_option maxRecDepth 100000 in
set_option maxHeartbeats 1000000 in
theorem points_walk (o d : Int) (a b c g f : Nat) (W : World) (la : a < 18446744073709551616) (lb : b < 18446744073709551616) :
    Calls Try.prog 5 #[.int .i64 o, .int .i64 d, .int .u64 (a : Int), .int .u64 (b : Int), .int .u64 (c : Int), .int .u64 (g : Int), .int .u64 (f : Int)] W fun e w' => e = .returned (.bool true) ∧ Below W.heap.size W w' := by
  have hT := fun w => turn_any w (a := a) (b := b) lb
  have hSc := fun w => scale_any w (rfl : mk a = _) (rfl : mk b = _) (rfl : mk f = _)
  have hF := fun w => far_any w (rfl : mk a = _) (rfl : mk b = _) (rfl : mk c = _) (rfl : mk g = _)
  have hG := fun w => rfar_any w (rfl : mk a = _) (rfl : mk b = _) (rfl : mk c = _) (rfl : mk g = _)
  have hSa : ∀ w, Calls Try.prog 19 #[.complex .f64 a b, .complex .f64 c g] w fun e w' => e = .returned (.bool ((FloatKind.f64.format.order a c == some .eq) && (FloatKind.f64.format.order b g == some .eq))) ∧ w = w' := fun w => by
    have h := same_any w (rfl : mk a = _) (rfl : mk b = _) (rfl : mk c = _) (rfl : mk g = _)
    unfold feq at h
    rw [ford_mk, ford_mk] at h
    exact h
  have hB := fun w => bits_pt w (a := a) (b := b) la lb
  have q1 := int_order o
  have q2 := int_order d
  have kt := fun w => like_any w (rfl : mk (b ^^^ 2 ^ 63) = mk (b ^^^ 2 ^ 63))
  have ka := fun w => like_any w (rfl : mk a = mk a)
  rw [← neg_f64] at hT kt
  generalize hnb : Op.negFloat .f64 b = nb at hT kt
  have t1 := fun w => point_any w o d
  go_enter Try.func5, Try.ntmps5
  go_upto_region 5 with (first
    | (go_at_call 16; refine (t1 _).mono ?_; rintro e w1 ⟨rfl, rfl⟩)
    | (go_at_call 18; refine (hT _).mono ?_; rintro e w1 ⟨rfl, rfl⟩)
    | (go_at_call 22; refine (hSc _).mono ?_; rintro e w2 ⟨s1, s2, rfl, _, _, es1, es2, b2⟩))
  obtain ⟨x, nx, hrx, hx, ex⟩ := run_float (P := Try.prog) (w := w2) op_mul 30 a f
  obtain ⟨y, ny, hry, hy, ey⟩ := run_float (P := Try.prog) (w := w2.drewN nx) op_mul 30 b f
  have k1 := fun w => like_any w (es1.trans ex.symm)
  have k2 := fun w => like_any w (es2.trans ey.symm)
  have HB := Lib.hid b2
  clear es1 es2 b2 t1 hT hSc hx hy ex ey
  go_upto_region 8 with (first
    | (go_at_call 23; refine (hB _).mono ?_; rintro e w1 ⟨rfl, rfl⟩)
    | (go_at_call 15; (with_reducible refine (kt _).mono ?_); rintro e w7 ⟨rfl, rfl⟩)
    | (go_at_call 15; (with_reducible refine (ka _).mono ?_); rintro e w7 ⟨rfl, rfl⟩)
    | (go_at_call 15; (with_reducible refine (k1 _).mono ?_); rintro e w7 ⟨rfl, rfl⟩)
    | (go_at_call 15; (with_reducible refine (k2 _).mono ?_); rintro e w7 ⟨rfl, rfl⟩))
  clear hrx hry k1 k2 q1 q2 kt ka hB
  have oa := own_order (x := a)
  have ob := own_order (x := b)
  obtain ⟨v1, hv1⟩ : ∃ v, (FloatKind.f64.format.order a c == some Ordering.eq) = v := ⟨_, rfl⟩
  obtain ⟨v2, hv2⟩ : ∃ v, (FloatKind.f64.format.order b g == some Ordering.eq) = v := ⟨_, rfl⟩
  rw [hv1, hv2] at hSa
  rcases oa with oa | oa <;> rcases ob with ob | ob <;> rcases v1 with _ | _ <;> rcases v2 with _ | _
  all_goals
    go_wp2_with (first
      | (go_at_call 9; refine (palive_any _).mono ?_; rintro e w3 ⟨rfl, b3⟩)
      | (go_at_call 20; refine (hF _).mono ?_; rintro e w4 ⟨u, rfl, _, eu, b4⟩)
      | (go_at_call 24; refine (hG _).mono ?_; rintro e w5 ⟨v, rfl, _, ev, b5⟩; have kv := fun w => like_any w (eu.trans ev.symm); clear eu ev)
      | (go_at_call 15; (with_reducible refine (kv _).mono ?_); rintro e w7 ⟨rfl, rfl⟩)
      | (go_at_call 19; refine (hSa _).mono ?_; rintro e w7 ⟨rfl, rfl⟩))
    have b35 := b3.trans ((b4.trans (b5.mono b4.size)).mono b3.size)
    have hs : W.heap.size ≤ w2.heap.size := HB.out.size
    go_ret
    exact ⟨rfl, (below_drewN HB.out _).trans (b35.mono hs)⟩
theorem u64_nat {z : Int} (h : (Lit.int .u64 z).wf = true) : ∃ n : Nat, z = (n : Int) ∧ n < 18446744073709551616 := by
  have h1 := u64_wf h
  exact ⟨z.toNat, by omega, by omega⟩
theorem walk_PlanePoints (o d a b c g f : Int) (W : World) (wo : (Lit.int .i64 o).wf = true) (wd : (Lit.int .i64 d).wf = true) (wa : (Lit.int .u64 a).wf = true) (wb : (Lit.int .u64 b).wf = true) (wc : (Lit.int .u64 c).wf = true) (wg : (Lit.int .u64 g).wf = true) (wf : (Lit.int .u64 f).wf = true) :
    Calls Try.prog 5 #[.int .i64 o, .int .i64 d, .int .u64 a, .int .u64 b, .int .u64 c, .int .u64 g, .int .u64 f] W fun e w' => e = .returned (.bool true) ∧ Below W.heap.size W w' := by
  obtain ⟨a, rfl, la⟩ := u64_nat wa
  obtain ⟨b, rfl, lb⟩ := u64_nat wb
  obtain ⟨c, rfl, lc⟩ := u64_nat wc
  obtain ⟨g, rfl, lg⟩ := u64_nat wg
  obtain ⟨f, rfl, lf⟩ := u64_nat wf
  exact points_walk o d a b c g f W la lb
theorem walk_PlaneSpreads (A0 : Option Addr) (n0 c0 : Nat) (xs : List Nat) (A1 : Option Addr) (n1 c1 : Nat) (ys : List Nat) (c d : Int) (W : World) (rd0 : Rd .u64 W A0 n0 c0 xs) (rd1 : Rd .u64 W A1 n1 c1 ys) (wc : (Lit.int .u64 c).wf = true) (wd : (Lit.int .u64 d).wf = true) :
    Calls Try.prog 8 #[.slice A0 n0 c0, .slice A1 n1 c1, .int .u64 c, .int .u64 d] W fun e w' => e = .returned (.bool true) ∧ Below W.heap.size W w' := by
  obtain ⟨c, rfl, lc⟩ := u64_nat wc
  obtain ⟨d, rfl, ld⟩ := u64_nat wd
  exact spreads_walk A0 n0 c0 xs A1 n1 c1 ys c d W rd0 rd1
end Go.Proofs.Ytlagbacljobbcaa
