/- Distances of points, and the document's sums, means and distances. -/
import Derived.Test.YtlagbacljobbcaaP4
import Derived.Lib.BitFns
namespace Go.Proofs.Ytlagbacljobbcaa
set_option linter.unusedSimpArgs false
set_option linter.unusedVariables false
open Go.RowKit
attribute [local go_sem] call_bits call_frombits unary_neg_float

theorem andnot_top {x : Nat} (h : x < 2 ^ 64) : Go.bits .andNot .u64 (x : Int) 9223372036854775808 = ((x % 2 ^ 63 : Nat) : Int) := by
  have e2 : (BitVec.ofInt 64 (x : Int)).toNat = x := by simp [BitVec.toNat_ofInt]; omega
  have key : ∀ v : BitVec 64, (v &&& ~~~ (BitVec.ofInt 64 (9223372036854775808 : Int))).toNat = v.toNat % 2 ^ 63 := by
    intro v
    have : v &&& ~~~ (BitVec.ofInt 64 (9223372036854775808 : Int)) = v &&& BitVec.ofNat 64 (2 ^ 63 - 1) := by congr 1
    rw [this, BitVec.toNat_and]
    have : (BitVec.ofNat 64 (2 ^ 63 - 1)).toNat = 2 ^ 63 - 1 := by decide
    rw [this, Nat.and_two_pow_sub_one_eq_mod]
  show IntKind.u64.wrap (((BitVec.ofInt 64 (x : Int) &&& ~~~ BitVec.ofInt 64 (9223372036854775808 : Int)).toNat : Nat) : Int) = _
  rw [key, e2, IntKind.wrap_u64]
  omega
theorem ret_float {k : FloatKind} {a b : Nat} (h : a = b) : Ending.returned (.float k a) = Ending.returned (.float k b) := by rw [h]
theorem abs_any (w : World) {x : Nat} {o : Option Nat} (h : x < 2 ^ 64) (hx : mk x = o) : Calls Try.prog 35 #[.float .f64 x] w fun e w' => e = .returned (.float .f64 (x % 2 ^ 63)) ∧ w = w' := by
  have hb := andnot_top h
  go_enter Try.func35, Try.ntmps35
  go_wp2_with fail
  go_ret
  exact ⟨ret_float (by omega), rfl⟩
theorem worth_any (w : World) {x : Nat} {o : Option Nat} (h : x < 2 ^ 64) (hx : mk x = o) : Calls Try.prog 36 #[.float .f64 x] w fun e w' => e = .returned (.float .f64 (x % 2 ^ 63)) ∧ w = w' := by
  have hw : IntKind.u64.wrap ((x : Int) * 2) / 2 = ((x % 2 ^ 63 : Nat) : Int) := by rw [IntKind.wrap_u64]; omega
  go_enter Try.func36, Try.ntmps36
  go_wp2_with fail
  go_ret
  exact ⟨ret_float (by omega), rfl⟩
theorem near_any (w : World) (n : Int) : Calls Try.prog 17 #[.int .i64 n] w fun e w' => e = .returned (.int .i64 (Int.tmod n 1099511627776)) ∧ w = w' := by
  go_enter Try.func17, Try.ntmps17
  go_wp2_with fail
  go_ret
  exact ⟨rfl, rfl⟩
/-- a distance -/
def ffar (a b c d : Option Nat) : Option Nat := let x := fabs (fop .sub a c); let y := fabs (fop .sub b d); if fgt x y then x else y
theorem far_any (w : World) {a b c d : Nat} {o p q r : Option Nat} (ha : mk a = o) (hb : mk b = p) (hc : mk c = q) (hd : mk d = r) : Calls Try.prog 20 #[.complex .f64 a b, .complex .f64 c d] w (FE (ffar o p q r) w) := by
  go_enter Try.func20, Try.ntmps20
  go_upto_region 2 with (first
    | ((with_reducible refine wpList_float rfl rfl (x := a) (y := c) rfl rfl op_sub ha hc ?_); rintro x nx hx ex)
    | ((with_reducible refine wpList_float rfl rfl (x := b) (y := d) rfl rfl op_sub hb hd ?_); rintro y ny hy ey)
    | (go_at_call 35; refine (abs_any _ hx ex).mono ?_; rintro e w1 ⟨rfl, rfl⟩)
    | (go_at_call 35; refine (abs_any _ hy ey).mono ?_; rintro e w2 ⟨rfl, rfl⟩))
  have gx := mk_abs x
  have gy := mk_abs y
  rw [ex] at gx
  rw [ey] at gy
  have lx : x % 2 ^ 63 < 2 ^ 64 := by omega
  have ly : y % 2 ^ 63 < 2 ^ 64 := by omega
  generalize x % 2 ^ 63 = x1 at gx lx ⊢
  generalize y % 2 ^ 63 = y1 at gy ly ⊢
  have ho : fgt (fabs (fop .sub o q)) (fabs (fop .sub p r)) = (FloatKind.f64.format.order x1 y1 == some .gt) := by rw [← gx, ← gy]; unfold fgt; rw [ford_mk]; rfl
  have hf : ffar o p q r = if (FloatKind.f64.format.order x1 y1 == some .gt) then mk x1 else mk y1 := by
    show (if fgt (fabs (fop .sub o q)) (fabs (fop .sub p r)) = true then fabs (fop .sub o q) else fabs (fop .sub p r)) = _
    rw [ho, gx, gy]
  have HF := Lib.hid hf
  clear ho hf gx gy ex ey
  cases ht : (FloatKind.f64.format.order x1 y1 == some Ordering.gt)
  · have e1 := HF.out
    rw [ht, if_neg (by decide)] at e1
    have E1 := Lib.hid e1
    clear e1 HF
    go_wp2_with fail
    go_ret
    exact ⟨y1, rfl, ly, E1.out.symm, by (repeat (first | (with_reducible exact Below.refl _ _) | (with_reducible assumption) | (with_reducible refine Below.drew ?_) | (with_reducible refine below_drewN ?_ _) | ((with_reducible refine Below.setCell ?_ (p := ⟨_, _, _⟩) ?_ _); rotate_left; (simp <;> omega)) | ((with_reducible refine Below.alloc ?_ ?_ _); rotate_left; (simp <;> omega)) | ((with_reducible refine Below.trans ?_ (Below.mono (by with_reducible assumption) ?_)); rotate_left; (simp <;> omega))))⟩
  · have e1 := HF.out
    rw [ht, if_pos rfl] at e1
    have E1 := Lib.hid e1
    clear e1 HF
    go_wp2_with fail
    go_ret
    exact ⟨x1, rfl, lx, E1.out.symm, by (repeat (first | (with_reducible exact Below.refl _ _) | (with_reducible assumption) | (with_reducible refine Below.drew ?_) | (with_reducible refine below_drewN ?_ _) | ((with_reducible refine Below.setCell ?_ (p := ⟨_, _, _⟩) ?_ _); rotate_left; (simp <;> omega)) | ((with_reducible refine Below.alloc ?_ ?_ _); rotate_left; (simp <;> omega)) | ((with_reducible refine Below.trans ?_ (Below.mono (by with_reducible assumption) ?_)); rotate_left; (simp <;> omega))))⟩
end Go.Proofs.Ytlagbacljobbcaa
