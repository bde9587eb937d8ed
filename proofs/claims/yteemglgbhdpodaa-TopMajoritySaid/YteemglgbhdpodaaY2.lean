/- Times: how far one lies from another, and samples of ways. -/
import Derived.Test.YteemglgbhdpodaaY1
import Derived.Lib.BitFns
namespace Go.Proofs.Yteemglgbhdpodaa
set_option linter.unusedSimpArgs false
set_option linter.unusedVariables false
set_option maxRecDepth 100000
open Go.RowKit
attribute [local go_sem] toldUpon_value toldUpon_skip toldUpon_enter

theorem quietW {P : Program} {f : FuncId} {args : Array Value} {w : World} {v : Value} (h : Calls P f args w fun e w' => e = .returned v ∧ w = w') :
    Calls P f args w fun e w' => e = .returned v ∧ Below w.heap.size w w' := h.mono (by rintro e w' ⟨rfl, rfl⟩; exact ⟨rfl, Below.refl _ _⟩)
/-! a sum by its digits -/
theorem nat_sum (a b : Nat) : 2 * (a &&& b) + (a ^^^ b) = a + b := by
  induction a using Nat.strongRecOn generalizing b with
  | ind a ih =>
    by_cases h0 : a = 0
    · subst h0; simp
    · have h := ih (a / 2) (by omega) (b / 2)
      have e1 : (a &&& b) / 2 ^ 1 = a / 2 ^ 1 &&& b / 2 ^ 1 := by rw [← Nat.shiftRight_eq_div_pow, ← Nat.shiftRight_eq_div_pow, ← Nat.shiftRight_eq_div_pow, Nat.shiftRight_and_distrib]
      have e2 : (a ^^^ b) / 2 ^ 1 = a / 2 ^ 1 ^^^ b / 2 ^ 1 := by rw [← Nat.shiftRight_eq_div_pow, ← Nat.shiftRight_eq_div_pow, ← Nat.shiftRight_eq_div_pow, Nat.shiftRight_xor_distrib]
      rw [Nat.pow_one] at e1 e2
      have e3 : (a &&& b) % 2 = a % 2 &&& b % 2 := by rw [show 2 = 2 ^ 1 from rfl, Nat.and_mod_two_pow]
      have e4 : (a ^^^ b) % 2 = a % 2 ^^^ b % 2 := by rw [show 2 = 2 ^ 1 from rfl, Nat.xor_mod_two_pow]
      have a2 : a % 2 = 0 ∨ a % 2 = 1 := by omega
      have b2 : b % 2 = 0 ∨ b % 2 = 1 := by omega
      rcases a2 with ha | ha <;> rcases b2 with hb | hb <;> rw [ha, hb] at e3 e4
      · rw [show 0 &&& 0 = 0 from rfl] at e3; rw [show 0 ^^^ 0 = 0 from rfl] at e4; omega
      · rw [show 0 &&& 1 = 0 from rfl] at e3; rw [show 0 ^^^ 1 = 1 from rfl] at e4; omega
      · rw [show 1 &&& 0 = 0 from rfl] at e3; rw [show 1 ^^^ 0 = 1 from rfl] at e4; omega
      · rw [show 1 &&& 1 = 1 from rfl] at e3; rw [show 1 ^^^ 1 = 0 from rfl] at e4; omega
theorem top_bit {a b : Nat} (ha : a < 18446744073709551616) (hb : b < 18446744073709551616) : (a &&& b) / 9223372036854775808 = a / 9223372036854775808 * (b / 9223372036854775808) ∧
    (a ^^^ b) / 9223372036854775808 = (a / 9223372036854775808 + b / 9223372036854775808) % 2 ∧ (a &&& b) < 18446744073709551616 ∧ (a ^^^ b) < 18446744073709551616 := by
  have e1 : (a &&& b) / 2 ^ 63 = a / 2 ^ 63 &&& b / 2 ^ 63 := by rw [← Nat.shiftRight_eq_div_pow, ← Nat.shiftRight_eq_div_pow, ← Nat.shiftRight_eq_div_pow, Nat.shiftRight_and_distrib]
  have e2 : (a ^^^ b) / 2 ^ 63 = a / 2 ^ 63 ^^^ b / 2 ^ 63 := by rw [← Nat.shiftRight_eq_div_pow, ← Nat.shiftRight_eq_div_pow, ← Nat.shiftRight_eq_div_pow, Nat.shiftRight_xor_distrib]
  have a2 : a / 2 ^ 63 = 0 ∨ a / 2 ^ 63 = 1 := by omega
  have b2 : b / 2 ^ 63 = 0 ∨ b / 2 ^ 63 = 1 := by omega
  have p1 : a &&& b < 2 ^ 64 := Nat.and_lt_two_pow _ (by omega)
  have p2 : a ^^^ b < 2 ^ 64 := Nat.xor_lt_two_pow (by omega) (by omega)
  rw [show (9223372036854775808 : Nat) = 2 ^ 63 from rfl, show (18446744073709551616 : Nat) = 2 ^ 64 from rfl, e1, e2]
  refine ⟨?_, ?_, p1, p2⟩
  · rcases a2 with ha | ha <;> rcases b2 with hb | hb <;> rw [ha, hb] <;> rfl
  · rcases a2 with ha | ha <;> rcases b2 with hb | hb <;> rw [ha, hb] <;> rfl
/-- half a sum -/
def halfN (x y : Int) : Int := Go.bits .and .i64 x y + Go.bits .xor .i64 x y / 2
theorem wrap_mod (x : Int) : (x % ((2 ^ 64 : Nat) : Int)).toNat = (x % 18446744073709551616).toNat := by
  have h : ((2 ^ 64 : Nat) : Int) = 18446744073709551616 := rfl
  rw [h]
theorem bits_and64 (x y : Int) : Go.bits .and .i64 x y = IntKind.i64.wrap ((((x % 18446744073709551616).toNat &&& (y % 18446744073709551616).toNat : Nat)) : Int) := by
  have e : Go.bits .and .i64 x y = IntKind.i64.wrap (((BitVec.ofInt 64 x &&& BitVec.ofInt 64 y).toNat : Nat) : Int) := rfl
  rw [e, BitVec.toNat_and, BitVec.toNat_ofInt, BitVec.toNat_ofInt, wrap_mod, wrap_mod]
theorem bits_xor64 (x y : Int) : Go.bits .xor .i64 x y = IntKind.i64.wrap ((((x % 18446744073709551616).toNat ^^^ (y % 18446744073709551616).toNat : Nat)) : Int) := by
  have e : Go.bits .xor .i64 x y = IntKind.i64.wrap (((BitVec.ofInt 64 x ^^^ BitVec.ofInt 64 y).toNat : Nat) : Int) := rfl
  rw [e, BitVec.toNat_xor, BitVec.toNat_ofInt, BitVec.toNat_ofInt, wrap_mod, wrap_mod]
theorem wr_top {P : Nat} (h : P < 18446744073709551616) : IntKind.i64.wrap (P : Int) = (P : Int) - 18446744073709551616 * ((P / 9223372036854775808 : Nat) : Int) := by
  rw [IntKind.wrap_i64]; omega
theorem of_top {x : Int} (hx : -9223372036854775808 ≤ x ∧ x < 9223372036854775808) : ∃ X : Nat, (x % 18446744073709551616).toNat = X ∧ X < 18446744073709551616 ∧ x = (X : Int) - 18446744073709551616 * ((X / 9223372036854775808 : Nat) : Int) :=
  ⟨_, rfl, by omega, by omega⟩
theorem half_case {X Y P Q a b c d : Int} (h : 2 * P + Q = X + Y) (h2 : 2 * c + d = a + b) : (P - 18446744073709551616 * c) + (Q - 18446744073709551616 * d) / 2 = (X - 18446744073709551616 * a + (Y - 18446744073709551616 * b)) / 2 := by omega
theorem half_sum {x y : Int} (hx : -9223372036854775808 ≤ x ∧ x < 9223372036854775808) (hy : -9223372036854775808 ≤ y ∧ y < 9223372036854775808) : halfN x y = (x + y) / 2 := by
  obtain ⟨X, hX, x1, ex⟩ := of_top hx
  obtain ⟨Y, hY, y1, ey⟩ := of_top hy
  obtain ⟨t1, t2, t3, t4⟩ := top_bit x1 y1
  have hs := nat_sum X Y
  unfold halfN
  rw [bits_and64, bits_xor64, hX, hY, wr_top t3, wr_top t4, t1, t2, ex, ey]
  have a2 : X / 9223372036854775808 = 0 ∨ X / 9223372036854775808 = 1 := by omega
  have b2 : Y / 9223372036854775808 = 0 ∨ Y / 9223372036854775808 = 1 := by omega
  refine half_case (by omega) ?_
  rcases a2 with ha | ha <;> rcases b2 with hb | hb <;> rw [ha, hb] <;> decide
/-- the last 36 digits -/
def smN (n : Int) : Int := n % 68719476736
theorem some_bits (n : Int) : Go.bits .and .i64 n 68719476735 = smN n := by
  rw [bits_and64, show ((68719476735 : Int) % 18446744073709551616).toNat = 2 ^ 36 - 1 by decide, Nat.and_two_pow_sub_one_eq_mod, IntKind.wrap_i64]
  unfold smN
  omega
theorem smN_bd (n : Int) : 0 ≤ smN n ∧ smN n < 68719476736 := by unfold smN; omega
theorem some_any (w : World) (n : Int) : Calls Try.prog 17 #[.int .i64 n] w fun e w' => e = .returned (.int .i64 (smN n)) ∧ w = w' := by
  have h := some_bits n
  go_enter Try.func17, Try.ntmps17
  go_wp2_with fail
  go_ret
  exact ⟨rfl, rfl⟩
def nrN (n : Int) : Int := Int.tmod n 68719476736
theorem nrN_bd (n : Int) : -68719476736 < nrN n ∧ nrN n < 68719476736 := by
  have h := Int.tmod_lt_of_pos n (b := 68719476736) (by decide)
  have h2 := Int.lt_tmod_of_pos n (b := 68719476736) (by decide)
  unfold nrN; omega
theorem nr_any (w : World) (n : Int) : Calls Try.prog 16 #[.int .i64 n] w fun e w' => e = .returned (.int .i64 (nrN n)) ∧ w = w' := by
  go_enter Try.func16, Try.ntmps16
  go_wp2_with fail
  go_ret
  exact ⟨rfl, rfl⟩
theorem move_any (w : World) {t d r : Int} (h : (t + d) % 18446744073709551616 = r) : Calls Try.prog 23 #[.int .u64 t, .int .i64 d] w fun e w' => e = .returned (.int .u64 r) ∧ w = w' := by
  have H := Lib.hid (show IntKind.u64.wrap (t + IntKind.u64.wrap d) = r by rw [IntKind.wrap_u64, IntKind.wrap_u64]; omega)
  clear h
  go_enter Try.func23, Try.ntmps23
  go_wp2_with fail
  go_ret
  exact ⟨by rw [← H.out]; rfl, rfl⟩
theorem diff_any (w : World) {a b r : Int} (h : (a - b - r) % 18446744073709551616 = 0) (h1 : -9223372036854775808 ≤ r) (h2 : r < 9223372036854775808) : Calls Try.prog 25 #[.int .u64 a, .int .u64 b] w fun e w' => e = .returned (.int .i64 r) ∧ w = w' := by
  have H := Lib.hid (show IntKind.i64.wrap (IntKind.u64.wrap (a - b)) = r by rw [IntKind.wrap_u64, IntKind.wrap_i64]; omega)
  clear h h1 h2
  go_enter Try.func25, Try.ntmps25
  go_wp2_with fail
  go_ret
  exact ⟨ret_int (by rw [← H.out, IntWalk.i64_left]), rfl⟩
section
variable {t1 t2 t3 t4 x y r : Int}
theorem offset_any (w : World) (hx : (t2 - t1 - x) % 18446744073709551616 = 0) (hy : (t3 - t4 - y) % 18446744073709551616 = 0) (x1 : -4611686018427387904 ≤ x) (x2 : x < 4611686018427387904) (y1 : -4611686018427387904 ≤ y) (y2 : y < 4611686018427387904) (hr : (x + y) / 2 = r) :
    Calls Try.prog 49 #[.int .u64 t1, .int .u64 t2, .int .u64 t3, .int .u64 t4] w fun e w' => e = .returned (.int .i64 r) ∧ w = w' := by
  have HX := Lib.hid (fun w => diff_any w hx (by omega) (by omega))
  have HY := Lib.hid (fun w => diff_any w hy (by omega) (by omega))
  have hh := half_sum (x := x) (y := y) (by omega) (by omega)
  rw [hr] at hh
  unfold halfN at hh
  obtain ⟨A, hA⟩ : ∃ A, Go.bits .and .i64 x y = A := ⟨_, rfl⟩
  obtain ⟨B, hB⟩ : ∃ A, Go.bits .xor .i64 x y = A := ⟨_, rfl⟩
  rw [hA, hB] at hh
  have hw : IntKind.i64.wrap (A + B / 2) = r := by rw [hh]; exact IntWalk.i64_in _ (by omega)
  clear hx hy hr hh x1 x2 y1 y2
  go_enter Try.func49, Try.ntmps49
  go_wp2_with (first
    | (go_at_call 25; (with_reducible refine (HX.out _).mono ?_); rintro e w1 ⟨rfl, rfl⟩)
    | (go_at_call 25; (with_reducible refine (HY.out _).mono ?_); rintro e w1 ⟨rfl, rfl⟩))
  go_ret
  exact ⟨rfl, rfl⟩
theorem delay_any (w : World) (hx : (t4 - t1 - x) % 18446744073709551616 = 0) (hy : (t3 - t2 - y) % 18446744073709551616 = 0) (x1 : 0 ≤ x) (x2 : x < 4611686018427387904) (y1 : 0 ≤ y) (y2 : y < 4611686018427387904) (hr : x - y = r) :
    Calls Try.prog 50 #[.int .u64 t1, .int .u64 t2, .int .u64 t3, .int .u64 t4] w fun e w' => e = .returned (.int .i64 r) ∧ w = w' := by
  have HX := Lib.hid (fun w => diff_any w hx (by omega) (by omega))
  have HY := Lib.hid (fun w => diff_any w hy (by omega) (by omega))
  have hw : IntKind.i64.wrap (x - y) = r := by rw [hr]; exact IntWalk.i64_in _ (by omega)
  have b1 : decide (y < 0) = false := by simp; omega
  have b2 : decide (x < 0) = false := by simp; omega
  clear hx hy hr x2 y2
  go_enter Try.func50, Try.ntmps50
  go_wp2_with (first
    | (go_at_call 25; (with_reducible refine (HX.out _).mono ?_); rintro e w1 ⟨rfl, rfl⟩)
    | (go_at_call 25; (with_reducible refine (HY.out _).mono ?_); rintro e w1 ⟨rfl, rfl⟩))
  go_ret
  exact ⟨rfl, rfl⟩
end
set_option maxHeartbeats 1000000 in
theorem sample_any (w : World) {t o a b c : Int} (t0 : 0 ≤ t) (t1 : t < 18446744073709551616) (o0 : -68719476736 < o) (o1 : o < 68719476736) :
    Calls Try.prog 22 #[.int .u64 t, .int .i64 o, .agg #[.int .i64 a, .int .i64 b, .int .i64 c]] w fun e w' => e = .returned (.agg #[.int .i64 ((smN a + 2 * o - smN c) / 2), .int .i64 (smN a + smN c), .int .i64 0, .int .i64 0]) ∧ Below w.heap.size w w' := by
  have HA := Lib.hid (fun w => some_any w a)
  have HB := Lib.hid (fun w => some_any w b)
  have HC := Lib.hid (fun w => some_any w c)
  have ba := smN_bd a
  have bb := smN_bd b
  have bc := smN_bd c
  generalize smN a = A at HA ba ⊢
  generalize smN b = B at HB bb ⊢
  generalize smN c = C at HC bc ⊢
  obtain ⟨T1, h1⟩ : ∃ r, (t + A) % 18446744073709551616 = r := ⟨_, rfl⟩
  obtain ⟨T2, h2⟩ : ∃ r, (T1 + o) % 18446744073709551616 = r := ⟨_, rfl⟩
  obtain ⟨T3, h3⟩ : ∃ r, (T2 + B) % 18446744073709551616 = r := ⟨_, rfl⟩
  obtain ⟨U, h4⟩ : ∃ r, (T3 + -o) % 18446744073709551616 = r := ⟨_, rfl⟩
  obtain ⟨T4, h5⟩ : ∃ r, (U + C) % 18446744073709551616 = r := ⟨_, rfl⟩
  have M1 := Lib.hid (fun w => move_any w h1)
  have M2 := Lib.hid (fun w => move_any w h2)
  have M3 := Lib.hid (fun w => move_any w h3)
  have M4 := Lib.hid (fun w => move_any w h4)
  have M5 := Lib.hid (fun w => move_any w h5)
  have HO := Lib.hid (fun w => offset_any (t1 := t) (t2 := T2) (t3 := T3) (t4 := T4) (x := A + o) (y := o - C) w (by omega) (by omega) (by omega) (by omega) (by omega) (by omega) (show (A + o + (o - C)) / 2 = (A + 2 * o - C) / 2 by congr 1; omega))
  have HD := Lib.hid (fun w => delay_any (t1 := t) (t2 := T2) (t3 := T3) (t4 := T4) (x := A + B + C) (y := B) w (by omega) (by omega) (by omega) (by omega) (by omega) (by omega) (show A + B + C - B = A + C by omega))
  have hn : IntKind.i64.wrap (-o) = -o := IntWalk.i64_in _ (by omega)
  generalize (A + 2 * o - C) / 2 = R1 at HO ⊢
  generalize A + C = R2 at HD ⊢
  clear h1 h2 h3 h4 h5 ba bb bc t0 t1 o0 o1
  go_enter Try.func22, Try.ntmps22
  go_upto_region 3 with (first
    | (go_at_call 17; (with_reducible refine (HA.out _).mono ?_); rintro e w1 ⟨rfl, rfl⟩)
    | (go_at_call 17; (with_reducible refine (HB.out _).mono ?_); rintro e w1 ⟨rfl, rfl⟩)
    | (go_at_call 23; (with_reducible refine (M1.out _).mono ?_); rintro e w1 ⟨rfl, rfl⟩)
    | (go_at_call 23; (with_reducible refine (M2.out _).mono ?_); rintro e w1 ⟨rfl, rfl⟩)
    | (go_at_call 23; (with_reducible refine (M3.out _).mono ?_); rintro e w1 ⟨rfl, rfl⟩))
  have hk : Bk ((w.alloc (.cells #[.int .i64 a, .int .i64 b, .int .i64 c] 59)).alloc (.cells #[.int .i64 0, .int .i64 0, .int .i64 0, .int .i64 0] 56)) w.heap.size 59 #[.int .i64 a, .int .i64 b, .int .i64 c] := (Bk.new w _ _).alloc _
  have hk2 : Bk ((w.alloc (.cells #[.int .i64 a, .int .i64 b, .int .i64 c] 59)).alloc (.cells #[.int .i64 0, .int .i64 0, .int .i64 0, .int .i64 0] 56)) (w.heap.size + 1) 56 #[.int .i64 0, .int .i64 0, .int .i64 0, .int .i64 0] := Bk.at_new _ _ (by simp)
  have hbel : Below w.heap.size w ((w.alloc (.cells #[.int .i64 a, .int .i64 b, .int .i64 c] 59)).alloc (.cells #[.int .i64 0, .int .i64 0, .int .i64 0, .int .i64 0] 56)) := by (repeat (first | (with_reducible exact Below.refl _ _) | (with_reducible assumption) | (with_reducible refine Below.drew ?_) | (with_reducible refine below_drewN ?_ _) | ((with_reducible refine Below.setCell ?_ (p := ⟨_, _, _⟩) ?_ _); rotate_left; (simp <;> omega)) | ((with_reducible refine Below.alloc ?_ ?_ _); rotate_left; (simp <;> omega)) | ((with_reducible refine Below.trans ?_ (Below.mono (by with_reducible assumption) ?_)); rotate_left; (simp <;> omega))))
  generalize (w.alloc (.cells #[.int .i64 a, .int .i64 b, .int .i64 c] 59)).alloc (.cells #[.int .i64 0, .int .i64 0, .int .i64 0, .int .i64 0] 56) = W at hk hk2 hbel ⊢
  have C2 : ∀ w', Below W.heap.size W w' → w'.cell? ⟨w.heap.size, 2, none⟩ = some (.int .i64 c) := fun w' h => (hk.below h hk.lt).cell 2
  have HK := Lib.hid hk2
  have HBEL := Lib.hid hbel
  have hs := hbel.size
  clear hk hk2 hbel
  (refine region_told _ (by kernel_rfl) (by kernel_rfl) (by simp only [putAll, Act.put, List.setIfInBounds_toArray, List.set_cons_zero, List.set_cons_succ, Nat.reduceAdd]; rfl) ?_)
  repeat (refine told_step (fun v _ => v = _) (Stays.eq _) (by intro y w' hw' hd; simp only [depsOf, updG, Region.binds, Nat.reduceAdd, Nat.reduceEqDiff, if_false, if_true, and_true, true_and, forall_const, Array.toList, GTrue] at hd; (try go_split_ands); unfold toldAt; go_simp; exact ⟨Below.refl _ _, rfl⟩) ?_)
  (refine told_step (fun v _ => v = .int .u64 U) (Stays.eq _) (by intro y w' hw' hd; simp only [depsOf, updG, Region.binds, Nat.reduceAdd, Nat.reduceEqDiff, if_false, if_true, and_true, true_and, forall_const, Array.toList, GTrue] at hd; (try go_split_ands); unfold toldAt; go_simp; exact ⟨Below.refl _ _, quietW (M4.out w')⟩) ?_)
  repeat (refine told_step (fun v _ => v = _) (Stays.eq _) (by intro y w' hw' hd; simp only [depsOf, updG, Region.binds, Nat.reduceAdd, Nat.reduceEqDiff, if_false, if_true, and_true, true_and, forall_const, Array.toList, GTrue] at hd; (try go_split_ands); unfold toldAt; go_simp; exact ⟨Below.refl _ _, rfl⟩) ?_)
  (refine told_step (fun v _ => v = .int .i64 C) (Stays.eq _) (by intro y w' hw' hd; simp only [depsOf, updG, Region.binds, Nat.reduceAdd, Nat.reduceEqDiff, if_false, if_true, and_true, true_and, forall_const, Array.toList, GTrue] at hd; (try go_split_ands); unfold toldAt; go_simp; exact ⟨Below.refl _ _, quietW (HC.out w')⟩) ?_)
  repeat (refine told_step (fun v _ => v = _) (Stays.eq _) (by intro y w' hw' hd; simp only [depsOf, updG, Region.binds, Nat.reduceAdd, Nat.reduceEqDiff, if_false, if_true, and_true, true_and, forall_const, Array.toList, GTrue] at hd; (try go_split_ands); unfold toldAt; go_simp; exact ⟨Below.refl _ _, rfl⟩) ?_)
  (refine told_step (fun v _ => v = .int .u64 T4) (Stays.eq _) (by intro y w' hw' hd; simp only [depsOf, updG, Region.binds, Nat.reduceAdd, Nat.reduceEqDiff, if_false, if_true, and_true, true_and, forall_const, Array.toList, GTrue] at hd; (try go_split_ands); unfold toldAt; go_simp; exact ⟨Below.refl _ _, quietW (M5.out w')⟩) ?_)
  repeat (refine told_step (fun v _ => v = _) (Stays.eq _) (by intro y w' hw' hd; simp only [depsOf, updG, Region.binds, Nat.reduceAdd, Nat.reduceEqDiff, if_false, if_true, and_true, true_and, forall_const, Array.toList, GTrue] at hd; (try go_split_ands); unfold toldAt; go_simp; exact ⟨Below.refl _ _, rfl⟩) ?_)
  (refine told_nil ?_; intro y w2 hw2 hd)
  have e9 : y 8 = .int .u64 T4 := hd 8 (by decide)
  rw [e9]
  clear hd e9 C2
  have hk2 := HK.out.below hw2 HK.out.lt
  have hb2 := HBEL.out.trans (hw2.mono hs)
  have g0 : w2.cell? ⟨w.heap.size + 1, 0, none⟩ = some (.int .i64 0) := hk2.cell 0
  have g1 : w2.cell? ⟨w.heap.size + 1, 1, none⟩ = some (.int .i64 0) := hk2.cell 1
  have g2 : w2.cell? ⟨w.heap.size + 1, 2, none⟩ = some (.int .i64 0) := hk2.cell 2
  have g3 : w2.cell? ⟨w.heap.size + 1, 3, none⟩ = some (.int .i64 0) := hk2.cell 3
  have f0 := fun i => hk2.frozen i
  have HB2 := Lib.hid hb2
  clear hw2 hk2 hb2
  go_wp2_with (first
    | (go_at_call 49; (with_reducible refine (HO.out _).mono ?_); rintro e w1 ⟨rfl, rfl⟩)
    | (go_at_call 50; (with_reducible refine (HD.out _).mono ?_); rintro e w1 ⟨rfl, rfl⟩))
  refine bodyPost_ret (v := .agg #[.int .i64 R1, .int .i64 R2, .int .i64 0, .int .i64 0]) (by simp [results, Try.results22, go_sem, *]) rfl ⟨rfl, ?_⟩
  have hb2 := HB2.out
  (repeat (first | (with_reducible exact Below.refl _ _) | (with_reducible assumption) | (with_reducible refine Below.drew ?_) | (with_reducible refine below_drewN ?_ _) | ((with_reducible refine Below.setCell ?_ (p := ⟨_, _, _⟩) ?_ _); rotate_left; (simp <;> omega)) | ((with_reducible refine Below.alloc ?_ ?_ _); rotate_left; (simp <;> omega)) | ((with_reducible refine Below.trans ?_ (Below.mono (by with_reducible assumption) ?_)); rotate_left; (simp <;> omega))))
end Go.Proofs.Yteemglgbhdpodaa
