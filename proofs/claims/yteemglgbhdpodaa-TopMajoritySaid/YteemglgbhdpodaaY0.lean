/- Means, distances of points (as in layer 13), for the seats of the top. -/
import Derived.Test.YteemglgbhdpodaaP3
import Derived.Test.YteemglgbhdpodaaPf
import Derived.Deep.Cut
import Derived.Laws.Externs
import Derived.Lib.BitFns
namespace Go.Proofs.Yteemglgbhdpodaa
set_option linter.unusedSimpArgs false
set_option linter.unusedVariables false
set_option maxRecDepth 100000
open Go.RowKit Go.ChangeShapes Go.WideShapes Go.ChangeAt

def fitN (n : Nat) : Int := if n = 0 then 4 else if 1024 < n then 2 else 0
theorem fit_any (w : World) {A : Option Addr} {n c : Nat} (hm : n ≤ 9223372036854775807) : Calls Try.prog 47 #[.slice A n c] w fun e w' => e = .returned (.int .i64 (fitN n)) ∧ w = w' := by
  go_enter Try.func47, Try.ntmps47
  by_cases h0 : n = 0
  · have e : fitN n = 4 := if_pos h0
    subst h0
    go_wp2
    go_ret
    first | exact ⟨ret_int e.symm, rfl⟩ | exact ⟨rfl, rfl⟩
  · by_cases h1 : 1024 < n
    · have e : fitN n = 2 := by unfold fitN; rw [if_neg h0, if_pos h1]
      have z0 : ((n : Int) == 0) = false := by simpa using h0
      have z1 : (1024 : Int) < (n : Int) := by omega
      clear h0 h1
      go_wp2
      go_ret
      first | exact ⟨ret_int e.symm, rfl⟩ | exact ⟨rfl, rfl⟩
    · have e : fitN n = 0 := by unfold fitN; rw [if_neg h0, if_neg h1]
      have z0 : ((n : Int) == 0) = false := by simpa using h0
      have z1 : ¬ (1024 : Int) < (n : Int) := by omega
      clear h0 h1
      go_wp2
      go_ret
      first | exact ⟨ret_int e.symm, rfl⟩ | exact ⟨rfl, rfl⟩
theorem fit_ok {n : Nat} (h0 : n ≠ 0) (h1 : n ≤ 1024) : fitN n = 0 := by unfold fitN; rw [if_neg h0, if_neg (by omega)]
theorem fit_bad {n : Nat} (h : ¬ (n ≠ 0 ∧ n ≤ 1024)) : fitN n = 4 ∧ n = 0 ∨ fitN n = 2 := by
  unfold fitN
  by_cases h0 : n = 0
  · rw [if_pos h0]; exact .inl ⟨rfl, h0⟩
  · rw [if_neg h0, if_pos (by omega)]; exact .inr rfl
/-- a mean: of no points, or of too many, none -/
def fcnt (n : Nat) : Option Nat := mk (FloatKind.f64.nearest n)
def fmean (l : List Nat) : Option Nat := if fitN l.length = 0 then fop .quo (fsum l) (fcnt l.length) else mk 0
def ME (o p : Option Nat) (z : Int) (w : World) (e : Ending) (w' : World) : Prop := ∃ a b, e = .returned (.tuple #[.complex .f64 a b, .int .i64 z]) ∧ a < 2 ^ 64 ∧ b < 2 ^ 64 ∧ mk a = o ∧ mk b = p ∧ Below w.heap.size w w'
theorem mean_any (w : World) {A : Option Addr} {n c : Nat} {zs : List (Nat × Nat)} (hr : RdV w A n c (cvs zs)) :
    Calls Try.prog 20 #[.slice A n c] w (ME (fmean (zs.map Prod.fst)) (fmean (zs.map Prod.snd)) (fitN n) w) := by
  have hl : zs.length = n := by have := hr.len; rwa [cvs_len] at this
  have hF := fit_any w (A := A) (c := c) hr.max
  have hS := sum_any w hr
  have hmx := hr.max
  by_cases hok : n ≠ 0 ∧ n ≤ 1024
  · have e0 := fit_ok hok.1 hok.2
    have HF := Lib.hid (show fmean (zs.map Prod.fst) = fop .quo (fsum (zs.map Prod.fst)) (fcnt n) by unfold fmean; rw [List.length_map, hl, if_pos e0])
    have HG := Lib.hid (show fmean (zs.map Prod.snd) = fop .quo (fsum (zs.map Prod.snd)) (fcnt n) by unfold fmean; rw [List.length_map, hl, if_pos e0])
    rw [e0] at hF ⊢
    clear hok e0 hl
    go_enter Try.func20, Try.ntmps20
    go_upto_region 4 with (go_at_call 47; refine hF.mono ?_; rintro e w1 ⟨rfl, rfl⟩)
    clear hF
    go_upto_region 5 with (go_at_call 48; refine hS.mono ?_; rintro e w2 ⟨a, b, rfl, la, lb, ea, eb, bw⟩)
    clear hS
    have EA := Lib.hid ea
    have EB := Lib.hid eb
    clear ea eb
    go_wp2_with (first
      | ((with_reducible refine wpList_float rfl rfl (x := a) rfl rfl op_quo EA.out (rfl : mk (FloatKind.f64.nearest n) = fcnt n) ?_); rintro x nx hx ex)
      | ((with_reducible refine wpList_float rfl rfl (x := b) rfl rfl op_quo EB.out (rfl : mk (FloatKind.f64.nearest n) = fcnt n) ?_); rintro y ny hy ey))
    go_ret2
    exact ⟨x, y, rfl, hx, hy, by rw [ex, HF.out], by rw [ey, HG.out], by (repeat (first | (with_reducible exact Below.refl _ _) | (with_reducible assumption) | (with_reducible refine Below.drew ?_) | (with_reducible refine below_drewN ?_ _) | ((with_reducible refine Below.setCell ?_ (p := ⟨_, _, _⟩) ?_ _); rotate_left; (simp <;> omega)) | ((with_reducible refine Below.alloc ?_ ?_ _); rotate_left; (simp <;> omega)) | ((with_reducible refine Below.trans ?_ (Below.mono (by with_reducible assumption) ?_)); rotate_left; (simp <;> omega))))⟩
  · have hz : fitN n = 4 ∨ fitN n = 2 := (fit_bad hok).imp (·.1) id
    have HF := Lib.hid (show fmean (zs.map Prod.fst) = mk 0 by unfold fmean; rw [List.length_map, hl, if_neg (by omega)])
    have HG := Lib.hid (show fmean (zs.map Prod.snd) = mk 0 by unfold fmean; rw [List.length_map, hl, if_neg (by omega)])
    clear hok hl hS
    rcases hz with e0 | e0 <;> rw [e0] at hF ⊢ <;> clear e0
    all_goals
      go_enter Try.func20, Try.ntmps20
      go_wp2_with (go_at_call 47; refine hF.mono ?_; rintro e w1 ⟨rfl, rfl⟩)
      go_ret2
      exact ⟨0, 0, rfl, by decide, by decide, HF.out.symm, HG.out.symm, Below.refl _ _⟩
theorem call_bits (w : World) (x : Nat) : (callFunc 92 #[.float .f64 x]).run Try.prog w = .ok (.value (.int .u64 (x : Int))) w := by
  rw [run_callFunc_extern (e := Extern.MathFloatBits.float64bits) Try.func92 (by rfl) (by rfl) (by kernel_rfl) (by kernel_rfl)]
  rfl
theorem call_frombits (w : World) (x : Int) : (callFunc 91 #[.int .u64 x]).run Try.prog w = .ok (.value (.float .f64 x.toNat)) w := by
  rw [run_callFunc_extern (e := Extern.MathFloatBits.float64frombits) Try.func91 (by rfl) (by rfl) (by kernel_rfl) (by kernel_rfl)]
  rfl
attribute [local go_sem] call_bits call_frombits
/-- are plain answers equal? -/
def feq (o p : Option Nat) : Bool := ford o p == some .eq
def flt (o p : Option Nat) : Bool := ford o p == some .lt
def fgt (o p : Option Nat) : Bool := ford o p == some .gt
theorem same_any (w : World) {a b c d : Nat} {o p q r : Option Nat} (ha : mk a = o) (hb : mk b = p) (hc : mk c = q) (hd : mk d = r) : Calls Try.prog 21 #[.complex .f64 a b, .complex .f64 c d] w fun e w' => e = .returned (.bool (feq o q && feq p r)) ∧ w = w' := by
  subst ha hb hc hd
  unfold feq
  rw [ford_mk, ford_mk]
  go_enter Try.func21, Try.ntmps21
  go_wp2
  go_ret
  exact ⟨rfl, rfl⟩
theorem andnot_top {x : Nat} (h : x < 2 ^ 64) : Go.bits .andNot .u64 (x : Int) 9223372036854775808 = ((x % 2 ^ 63 : Nat) : Int) := by
  have e2 : (BitVec.ofInt 64 (x : Int)).toNat = x := by simp [BitVec.toNat_ofInt]; omega
  have key : ∀ v : BitVec 64, (v &&& ~~~ (BitVec.ofInt 64 (9223372036854775808 : Int))).toNat = v.toNat % 2 ^ 63 := by
    intro v
    have : v &&& ~~~ (BitVec.ofInt 64 (9223372036854775808 : Int)) = v &&& BitVec.ofNat 64 (2 ^ 63 - 1) := by congr 1
    rw [this, BitVec.toNat_and]
    have : (BitVec.ofNat 64 (2 ^ 63 - 1)).toNat = 2 ^ 63 - 1 := by decide
    rw [this, Nat.and_two_pow_sub_one_eq_mod]
  show IntKind.u64.wrap (((BitVec.ofInt 64 (x : Int) &&& ~~~ BitVec.ofInt 64 (9223372036854775808 : Int)).toNat : Nat) : Int) = _
  rw [key, e2, IntKind.wrap_u64]
  omega
theorem ret_float {k : FloatKind} {a b : Nat} (h : a = b) : Ending.returned (.float k a) = Ending.returned (.float k b) := by rw [h]
theorem abs_any (w : World) {x : Nat} {o : Option Nat} (h : x < 2 ^ 64) (hx : mk x = o) : Calls Try.prog 71 #[.float .f64 x] w fun e w' => e = .returned (.float .f64 (x % 2 ^ 63)) ∧ w = w' := by
  have hb := andnot_top h
  go_enter Try.func71, Try.ntmps71
  go_wp2_with fail
  go_ret
  exact ⟨ret_float (by omega), rfl⟩
/-- a distance -/
def ffar (a b c d : Option Nat) : Option Nat := let x := fabs (fop .sub a c); let y := fabs (fop .sub b d); if fgt x y then x else y
theorem far_any (w : World) {a b c d : Nat} {o p q r : Option Nat} (ha : mk a = o) (hb : mk b = p) (hc : mk c = q) (hd : mk d = r) : Calls Try.prog 43 #[.complex .f64 a b, .complex .f64 c d] w (FE (ffar o p q r) w) := by
  go_enter Try.func43, Try.ntmps43
  go_upto_region 2 with (first
    | ((with_reducible refine wpList_float rfl rfl (x := a) (y := c) rfl rfl op_sub ha hc ?_); rintro x nx hx ex)
    | ((with_reducible refine wpList_float rfl rfl (x := b) (y := d) rfl rfl op_sub hb hd ?_); rintro y ny hy ey)
    | (go_at_call 71; refine (abs_any _ hx ex).mono ?_; rintro e w1 ⟨rfl, rfl⟩)
    | (go_at_call 71; refine (abs_any _ hy ey).mono ?_; rintro e w2 ⟨rfl, rfl⟩))
  have gx := mk_abs x
  have gy := mk_abs y
  rw [ex] at gx
  rw [ey] at gy
  have lx : x % 2 ^ 63 < 2 ^ 64 := by omega
  have ly : y % 2 ^ 63 < 2 ^ 64 := by omega
  generalize x % 2 ^ 63 = x1 at gx lx ⊢
  generalize y % 2 ^ 63 = y1 at gy ly ⊢
  have ho : fgt (fabs (fop .sub o q)) (fabs (fop .sub p r)) = (FloatKind.f64.format.order x1 y1 == some .gt) := by rw [← gx, ← gy]; unfold fgt; rw [ford_mk]; rfl
  have hf : ffar o p q r = if (FloatKind.f64.format.order x1 y1 == some .gt) then mk x1 else mk y1 := by
    show (if fgt (fabs (fop .sub o q)) (fabs (fop .sub p r)) = true then fabs (fop .sub o q) else fabs (fop .sub p r)) = _
    rw [ho, gx, gy]
  have HF := Lib.hid hf
  clear ho hf gx gy ex ey
  cases ht : (FloatKind.f64.format.order x1 y1 == some Ordering.gt)
  · have e1 := HF.out
    rw [ht, if_neg (by decide)] at e1
    have E1 := Lib.hid e1
    clear e1 HF
    go_wp2_with fail
    go_ret
    exact ⟨y1, rfl, ly, E1.out.symm, by (repeat (first | (with_reducible exact Below.refl _ _) | (with_reducible assumption) | (with_reducible refine Below.drew ?_) | (with_reducible refine below_drewN ?_ _) | ((with_reducible refine Below.setCell ?_ (p := ⟨_, _, _⟩) ?_ _); rotate_left; (simp <;> omega)) | ((with_reducible refine Below.alloc ?_ ?_ _); rotate_left; (simp <;> omega)) | ((with_reducible refine Below.trans ?_ (Below.mono (by with_reducible assumption) ?_)); rotate_left; (simp <;> omega))))⟩
  · have e1 := HF.out
    rw [ht, if_pos rfl] at e1
    have E1 := Lib.hid e1
    clear e1 HF
    go_wp2_with fail
    go_ret
    exact ⟨x1, rfl, lx, E1.out.symm, by (repeat (first | (with_reducible exact Below.refl _ _) | (with_reducible assumption) | (with_reducible refine Below.drew ?_) | (with_reducible refine below_drewN ?_ _) | ((with_reducible refine Below.setCell ?_ (p := ⟨_, _, _⟩) ?_ _); rotate_left; (simp <;> omega)) | ((with_reducible refine Below.alloc ?_ ?_ _); rotate_left; (simp <;> omega)) | ((with_reducible refine Below.trans ?_ (Below.mono (by with_reducible assumption) ?_)); rotate_left; (simp <;> omega))))⟩
section
open Ieee
theorem fn_digits {b : Nat} {s : Bool} {m : Nat} {e n : Int} (h : double.read b = .number s m e) (hv : signed s m (e + 1074).toNat = n * 2 ^ lp) : m * 2 ^ (e + 1074).toNat = n.natAbs * 2 ^ lp := by
  rw [signed_eq] at hv
  have := congrArg Int.natAbs hv
  rw [Int.natAbs_mul, Int.natAbs_mul, Int.natAbs_pow, Int.natAbs_pow] at this
  cases s
  · simpa using this
  · simpa using this
theorem two_lp : 0 < 2 ^ lp := Nat.two_pow_pos lp
/-- where the digits of a whole number stand -/
theorem digits_at {m E g a : Nat} (h : m * 2 ^ E = a * 2 ^ lp) (ha : 2 ^ g ≤ a) (ha' : a < 2 ^ (g + 1)) : m ≠ 0 ∧ E + m.log2 = g + lp := by
  have h0 : m ≠ 0 := by
    intro h1; subst h1
    rw [Nat.zero_mul] at h
    have := Nat.mul_pos (Nat.lt_of_lt_of_le (Nat.two_pow_pos g) ha) two_lp
    omega
  refine ⟨h0, ?_⟩
  have h1 : 2 ^ (m.log2 + E) ≤ m * 2 ^ E := by rw [Nat.pow_add]; exact Nat.mul_le_mul_right _ (Nat.log2_self_le h0)
  have h2 : m * 2 ^ E < 2 ^ (m.log2 + 1 + E) := by rw [Nat.pow_add]; exact Nat.mul_lt_mul_of_pos_right Nat.lt_log2_self (Nat.two_pow_pos _)
  have h3 : 2 ^ (g + lp) ≤ a * 2 ^ lp := by rw [Nat.pow_add]; exact Nat.mul_le_mul_right _ ha
  have h4 : a * 2 ^ lp < 2 ^ (g + 1 + lp) := by rw [Nat.pow_add]; exact Nat.mul_lt_mul_of_pos_right ha' two_lp
  rw [h] at h1 h2
  have h5 := (Nat.pow_lt_pow_iff_right (by decide : 1 < 2)).1 (Nat.lt_of_le_of_lt h1 h4)
  have h6 := (Nat.pow_lt_pow_iff_right (by decide : 1 < 2)).1 (Nat.lt_of_le_of_lt h3 h2)
  omega
theorem log_of {a : Nat} (h : a ≠ 0) : 2 ^ a.log2 ≤ a ∧ a < 2 ^ (a.log2 + 1) := ⟨Nat.log2_self_le h, Nat.lt_log2_self⟩
/-- the digits of a quotient -/
theorem quo_digits {m n : Nat} (hm : m ≠ 0) (hm2 : m < 2 ^ 53) (hn : n ≠ 0) : 2 ^ 53 ≤ m <<< (54 + n.log2 - m.log2) / n := by
  have h1 : m.log2 < 53 := (Nat.log2_lt hm).2 hm2
  rw [shl_eq, Nat.le_div_iff_mul_le (by omega)]
  have h2 := Nat.log2_self_le hm
  have h3 : n < 2 ^ (n.log2 + 1) := Nat.lt_log2_self
  have h4 : 2 ^ (54 + n.log2) ≤ m * 2 ^ (54 + n.log2 - m.log2) := by
    have : 2 ^ (54 + n.log2) = 2 ^ m.log2 * 2 ^ (54 + n.log2 - m.log2) := by rw [← Nat.pow_add]; congr 1; omega
    rw [this]; exact Nat.mul_le_mul_right _ h2
  have h5 : 2 ^ 53 * n ≤ 2 ^ (54 + n.log2) := by
    have : 2 ^ (54 + n.log2) = 2 ^ 53 * 2 ^ (n.log2 + 1) := by rw [← Nat.pow_add]; congr 1; omega
    rw [this]; exact Nat.mul_le_mul_left _ (by omega)
  omega
theorem fop_quo (b c : Nat) : fop .quo (some b) (some c) = ((double.read b).quotient 54 (double.read c)).map double.write := rfl
theorem iv_pos_sign {b : Nat} {s : Bool} {m : Nat} {e n : Int} (hv : signed s m (e + 1074).toNat = n * 2 ^ lp) (hn : 0 < n) : s = false := by
  cases s
  · rfl
  · rw [signed_eq] at hv
    simp only [if_true] at hv
    have hp : (0 : Int) < 2 ^ lp := Int.pow_pos (by decide)
    have h1 := Int.mul_pos hn hp
    have h2 : (0 : Int) ≤ (m : Int) * 2 ^ (e + 1074).toNat := Int.mul_nonneg (by simp) (Int.le_of_lt (Int.pow_pos (by decide)))
    rw [Int.neg_mul] at hv
    omega
theorem mean_exact {o p : Option Nat} {S N Q : Int} (h : IV o S) (h' : IV p N) (h1 : 1 ≤ N) (h2 : N ≤ 100) (hS : Sm S) (hQ : S = Q * N) : IV (fop .quo o p) Q := by
  obtain ⟨b, rfl, _, s, m, i, hb, hi, hbv⟩ := h
  obtain ⟨c, rfl, _, t, n, j, hc, hj, hcv⟩ := h'
  have dn := fn_digits hc hcv
  have dm := fn_digits hb hbv
  have ln := log_of (a := N.natAbs) (by omega)
  obtain ⟨n0, an⟩ := digits_at dn ln.1 ln.2
  have hlp : lp = 1074 := rfl
  have gN : N.natAbs.log2 ≤ 6 := by
    have : N.natAbs.log2 < 7 := (Nat.log2_lt (by omega)).2 (by omega)
    omega
  have ht := iv_pos_sign (b := c) hcv (by omega)
  subst ht
  obtain ⟨_, m53, _⟩ := read_dig hb
  rw [fop_quo, hb, hc]
  simp only [Datum.quotient]
  rw [if_neg n0]
  by_cases hm : m = 0
  · subst hm
    have hS0 : S.natAbs = 0 := by
      rw [Nat.zero_mul] at dm
      rcases Nat.eq_zero_or_pos S.natAbs with h0 | h0
      · exact h0
      · have := Nat.mul_pos h0 two_lp; omega
    have hQ0 : Q = 0 := by
      have : Q * N = 0 := by omega
      rcases Int.mul_eq_zero.1 this with h | h
      · exact h
      · omega
    subst hQ0
    have hz : (2 * ((0 <<< (54 + n.log2 - Nat.log2 0)) / n) + ((0 <<< (54 + n.log2 - Nat.log2 0)) % n != 0).toNat) = 0 := by simp
    rw [hz]
    refine ⟨_, rfl, (nearest_num _ _ _).2, ?_⟩
    show Fn (double.read (double.nearest (s ^^ false) 0 _)) _
    unfold Format.nearest
    rw [if_pos rfl]
    have := (read_word (s ^^ false) 0 0 (by decide) (.inl rfl) (by decide)).1
    exact ⟨_, 0, -1074, by simpa using this, by omega, by rw [signed_eq]; simp⟩
  · have m1 : S.natAbs ≠ 0 := by
      intro h0
      rw [h0, Nat.zero_mul] at dm
      have := Nat.mul_pos (show 0 < m by omega) (Nat.two_pow_pos (i + 1074).toNat)
      omega
    have lm := log_of m1
    obtain ⟨_, am⟩ := digits_at dm lm.1 lm.2
    have hl : m.log2 < 53 := (Nat.log2_lt hm).2 m53
    have hg : S.natAbs.log2 < 53 := (Nat.log2_lt m1).2 hS
    obtain ⟨I, hI⟩ : ∃ I : Nat, (i + 1074).toNat = I := ⟨_, rfl⟩
    obtain ⟨J, hJ⟩ : ∃ J : Nat, (j + 1074).toNat = J := ⟨_, rfl⟩
    rw [hI] at dm am hbv
    rw [hJ] at dn an hcv
    rw [hlp] at am an
    obtain ⟨M, hM⟩ : ∃ M : Nat, 54 + n.log2 - m.log2 = M := ⟨_, rfl⟩
    rw [hM]
    have hge : I ≤ J + M := by omega
    have hmul : m * 2 ^ M = n * (Q.natAbs * 2 ^ (J + M - I)) := by
      have e1 : m * 2 ^ I = Q.natAbs * (n * 2 ^ J) := by rw [dm, dn, hQ, Int.natAbs_mul, Nat.mul_assoc]
      apply Nat.eq_of_mul_eq_mul_right (Nat.two_pow_pos I)
      calc m * 2 ^ M * 2 ^ I = (m * 2 ^ I) * 2 ^ M := by rw [Nat.mul_right_comm]
        _ = Q.natAbs * (n * 2 ^ J) * 2 ^ M := by rw [e1]
        _ = n * Q.natAbs * (2 ^ J * 2 ^ M) := by rw [← Nat.mul_assoc Q.natAbs, Nat.mul_comm Q.natAbs n, Nat.mul_assoc (n * Q.natAbs)]
        _ = n * Q.natAbs * (2 ^ (J + M - I) * 2 ^ I) := by rw [← Nat.pow_add, ← Nat.pow_add]; congr 2; omega
        _ = n * (Q.natAbs * 2 ^ (J + M - I)) * 2 ^ I := by rw [Nat.mul_assoc n, Nat.mul_assoc n, Nat.mul_assoc Q.natAbs]
    have hdiv : m <<< M / n = Q.natAbs * 2 ^ (J + M - I) := by rw [shl_eq, hmul, Nat.mul_div_cancel_left _ (by omega)]
    have hmod : m <<< M % n = 0 := by rw [shl_eq, hmul, Nat.mul_mod_right]
    rw [hdiv, hmod]
    have hpl : i - j - (M : Int) - 1 = -(((J + M - I : Nat) : Int)) - 1 := by omega
    have hsmall : J + M - I ≤ 1000 := by omega
    have hF : Fn (.number (s ^^ false) (2 * (Q.natAbs * 2 ^ (J + M - I)) + ((0 : Nat) != 0).toNat) (i - j - (M : Int) - 1)) (Q * 2 ^ lp) := by
      refine ⟨_, _, _, rfl, by omega, ?_⟩
      rw [hpl]
      have e2 : (-(((J + M - I : Nat) : Int)) - 1 + 1074).toNat = lp - (J + M - I) - 1 := by omega
      rw [e2, signed_eq, Bool.xor_false]
      have e3 : (2 * (Q.natAbs * 2 ^ (J + M - I)) + ((0 : Nat) != 0).toNat) * 2 ^ (lp - (J + M - I) - 1) = Q.natAbs * 2 ^ lp := by
        have : 2 * (Q.natAbs * 2 ^ (J + M - I)) + ((0 : Nat) != 0).toNat = Q.natAbs * 2 ^ (J + M - I + 1) := by
          rw [show ((0 : Nat) != 0).toNat = 0 from rfl, Nat.add_zero, Nat.pow_succ, ← Nat.mul_assoc Q.natAbs, Nat.mul_comm]
        rw [this, Nat.mul_assoc, ← Nat.pow_add]; congr 2; omega
      have e4 := congrArg (Nat.cast (R := Int)) e3
      rw [Int.natCast_mul, Int.natCast_pow, Int.natCast_mul, Int.natCast_pow] at e4
      have hsg : s = decide (S < 0) := by
        by_cases h0 : S < 0
        · cases s
          · exfalso
            rw [signed_eq] at hbv
            simp only [Bool.false_eq_true, if_false] at hbv
            have q1 : (0 : Int) ≤ (m : Int) * 2 ^ I := Int.mul_nonneg (by simp) (Int.le_of_lt (Int.pow_pos (by decide)))
            have q2 : S * 2 ^ lp < 0 := Int.mul_neg_of_neg_of_pos h0 (Int.pow_pos (by decide))
            omega
          · simp [h0]
        · cases s
          · simp [h0]
          · exfalso
            have := iv_pos_sign (b := b) (s := true) (m := m) (e := i) (n := S) (by rw [hI]; exact hbv) (by omega)
            cases this
      have hQS : S < 0 ↔ Q < 0 := by
        rw [hQ]
        constructor
        · intro h
          apply Classical.byContradiction
          intro hn
          have := Int.mul_nonneg (show 0 ≤ Q by omega) (show 0 ≤ N by omega)
          omega
        · intro h; exact Int.mul_neg_of_neg_of_pos h (by omega)
      subst hsg
      by_cases h0 : S < 0
      · rw [if_pos (by simpa using h0), Int.neg_mul]
        have h0' := hQS.1 h0
        have e5 : ((2 : Nat) : Int) = 2 := rfl
        rw [e5] at e4
        rw [e4, ← Int.neg_mul]; congr 1; omega
      · rw [if_neg (by simpa using h0)]
        have h0' : ¬ Q < 0 := fun h => h0 (hQS.2 h)
        have e5 : ((2 : Nat) : Int) = 2 := rfl
        rw [e5] at e4
        rw [e4]; congr 1; omega
    obtain ⟨w1, w2⟩ := write_int hF (by
      unfold Sm at hS ⊢
      have : Q.natAbs * 1 ≤ Q.natAbs * N.natAbs := Nat.mul_le_mul_left _ (by omega)
      rw [hQ, Int.natAbs_mul] at hS
      omega)
    exact ⟨_, rfl, w2, w1⟩
end
def fi (n : Int) : Nat := FloatKind.f64.nearest n
theorem tmod_small (n : Int) : (Int.tmod n 1099511627776).natAbs < 1099511627776 := by
  have h := Int.tmod_lt_of_pos n (b := 1099511627776) (by decide)
  have h2 := Int.lt_tmod_of_pos n (b := 1099511627776) (by decide)
  omega
theorem Sm.of {n : Int} (h : n.natAbs < 9007199254740992) : Sm n := h
theorem cmp_self (n : Int) : compare n n = .eq := by simp
theorem IV.eq {o p : Option Nat} {n : Int} (h : IV o n) (h' : IV p n) : feq o p = true := by
  unfold feq; rw [h.order h', cmp_self n]; rfl
theorem IV.mk_fi {n : Int} (h : Sm n) : IV (mk (FloatKind.f64.nearest n)) n := by
  have h1 : nanB (FloatKind.f64.nearest n) = false := (nearest_num (decide (n < 0)) n.natAbs 0).1
  rw [mk_of h1]; exact IV.ofInt h
theorem fi_iv {n : Int} (h : n.natAbs < 1099511627776) : IV (mk (fi n)) n := IV.mk_fi (Sm.of (by omega))
theorem iv0 : IV (mk 0) 0 := by
  have e : mk 0 = mk (fi 0) := by decide +kernel
  rw [e]; exact fi_iv (by decide)
theorem fcnt_iv {n : Nat} (h : n ≤ 100) : IV (fcnt n) n := IV.mk_fi (Sm.of (by omega))
def ivs (xs : List Int) : List Value := xs.map fun x => .int .i64 x
theorem ivs_len (xs : List Int) : (ivs xs).length = xs.length := by simp [ivs]
theorem i64s_arg {H : Type} {enc : TypeId × Value → H} {P : Program} {W : World} {t e : TypeId} {A : Option Addr} {n c : Nat} {d : DataW H} {p : List MemPlace} (ht : P.underlying t = some (.slice e)) (he : P.underlying e = some (.int .i64)) (hc : P.cellsOf e = 1)
    (h0 : DataW.Trod enc P W 0 (fun _ => true) true t (.slice A n c) d p) : ∃ xs : List Int, RdV W A n c (ivs xs) := by
  obtain ⟨fuel, hf⟩ := h0
  rcases open_ints ht he hc hf with ⟨hcs, _⟩ | ⟨x, l, c', zs, hcs, _, hl, hm, hz, _, hcell, hwz⟩
  · simp [Value.cells] at hcs
    obtain ⟨rfl, rfl, rfl⟩ := hcs
    exact ⟨[], RdV.nil _ _ _⟩
  · simp [Value.cells] at hcs
    obtain ⟨rfl, rfl, rfl⟩ := hcs
    simp only [if_true] at hz
    refine ⟨zs.take n, by rw [ivs_len, List.length_take]; omega, hl, by unfold maxLen at hm; omega, fun hn => ⟨x, rfl, ?_, fun j u hu => ?_⟩⟩
    · have := World.block_lt_of_cell? W _ (hcell 0 (by omega))
      rwa [Go.ChangeShapes.block_add] at this
    · have hj : j < n := by
        rcases Nat.lt_or_ge j n with h | h
        · exact h
        · rw [List.getElem?_eq_none (by rw [ivs_len, List.length_take]; omega)] at hu; cases hu
      rw [hcell j (by omega)]
      unfold ivs at hu
      rw [List.getElem?_map, List.getElem?_take, if_pos hj, List.getElem?_eq_getElem (by omega)] at hu
      rw [List.getD_eq_getElem?_getD, List.getElem?_eq_getElem (by omega)]
      simpa using hu
def gi (xs : List Int) (k : Nat) : Int := xs.getD k 0
theorem gi_get {xs : List Int} {k : Nat} (h : k < xs.length) : (ivs xs)[k]? = some (.int .i64 (gi xs k)) := by
  unfold ivs gi; rw [List.getElem?_map, List.getElem?_eq_getElem h, List.getD_eq_getElem?_getD, List.getElem?_eq_getElem h]; rfl
theorem pointV (w : World) (x y : Int) : Calls Try.prog 18 #[.int .i64 x, .int .i64 y] w fun e w' => e = .returned (.complex .f64 (fi x) (fi y)) ∧ w = w' := point_any w x y
theorem quietV {P : Program} {f : FuncId} {args : Array Value} {w : World} {v : Value} (h : Calls P f args w fun e w' => e = .returned v ∧ w = w') :
    Calls P f args w fun e w' => e = .returned v ∧ Below w.heap.size w w' := h.mono (by rintro e w' ⟨rfl, rfl⟩; exact ⟨rfl, Below.refl _ _⟩)
theorem info_c : (Try.prog.info? 47).map (fun i => (i.zero, i.size, i.bytes)) = some (some (.complex .f64 0 0), 1, 16) := by kernel_rfl
theorem obk_eq (A : Option Addr) (n c : Nat) : (Value.slice A n c).ownBlock = obk A := by cases A <;> rfl
theorem Apt.none (A : Option Addr) : Apt Option.none A := fun _ h => by cases h
theorem cvs_take (xs : List (Nat × Nat)) (k : Nat) (h : k < xs.length) : cvs (xs.take k) ++ [.complex .f64 xs[k].1 xs[k].2] = cvs (xs.take (k + 1)) := by
  unfold cvs; rw [List.take_succ_eq_append_getElem h, List.map_append]; rfl
end Go.Proofs.Yteemglgbhdpodaa
