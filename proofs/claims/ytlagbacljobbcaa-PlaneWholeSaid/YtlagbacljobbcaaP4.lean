/- Means, turns, distances of points, and the document's: each told by plain answers. -/
import Derived.Test.YtlagbacljobbcaaP3
import Derived.Deep.Cut
import Derived.Laws.Externs
namespace Go.Proofs.Ytlagbacljobbcaa
set_option linter.unusedSimpArgs false
set_option linter.unusedVariables false
open Go.RowKit

def fitN (n : Nat) : Int := if n = 0 then 4 else if 1024 < n then 2 else 0
theorem fit_any (w : World) {A : Option Addr} {n c : Nat} (hm : n ≤ 9223372036854775807) : Calls Try.prog 32 #[.slice A n c] w fun e w' => e = .returned (.int .i64 (fitN n)) ∧ w = w' := by
  go_enter Try.func32, Try.ntmps32
  by_cases h0 : n = 0
  · have e : fitN n = 4 := if_pos h0
    subst h0
    go_wp2
    go_ret
    first | exact ⟨ret_int e.symm, rfl⟩ | exact ⟨rfl, rfl⟩
  · by_cases h1 : 1024 < n
    · have e : fitN n = 2 := by unfold fitN; rw [if_neg h0, if_pos h1]
      have z0 : ((n : Int) == 0) = false := by simpa using h0
      have z1 : (1024 : Int) < (n : Int) := by omega
      clear h0 h1
      go_wp2
      go_ret
      first | exact ⟨ret_int e.symm, rfl⟩ | exact ⟨rfl, rfl⟩
    · have e : fitN n = 0 := by unfold fitN; rw [if_neg h0, if_neg h1]
      have z0 : ((n : Int) == 0) = false := by simpa using h0
      have z1 : ¬ (1024 : Int) < (n : Int) := by omega
      clear h0 h1
      go_wp2
      go_ret
      first | exact ⟨ret_int e.symm, rfl⟩ | exact ⟨rfl, rfl⟩
theorem rfit_any (w : World) {n : Nat} (hm : n ≤ 9223372036854775807) : Calls Try.prog 33 #[.int .i64 (n : Int)] w fun e w' => e = .returned (.int .i64 (fitN n)) ∧ w = w' := by
  go_enter Try.func33, Try.ntmps33
  by_cases h0 : n = 0
  · have e : fitN n = 4 := if_pos h0
    subst h0
    go_wp2
    go_ret
    first | exact ⟨ret_int e.symm, rfl⟩ | exact ⟨rfl, rfl⟩
  · by_cases h1 : 1024 < n
    · have e : fitN n = 2 := by unfold fitN; rw [if_neg h0, if_pos h1]
      have z0 : ((n : Int) == 0) = false := by simpa using h0
      have z1 : (1024 : Int) < (n : Int) := by omega
      clear h0 h1
      go_wp2
      go_ret
      first | exact ⟨ret_int e.symm, rfl⟩ | exact ⟨rfl, rfl⟩
    · have e : fitN n = 0 := by unfold fitN; rw [if_neg h0, if_neg h1]
      have z0 : ((n : Int) == 0) = false := by simpa using h0
      have z1 : ¬ (1024 : Int) < (n : Int) := by omega
      clear h0 h1
      go_wp2
      go_ret
      first | exact ⟨ret_int e.symm, rfl⟩ | exact ⟨rfl, rfl⟩
theorem fit_ok {n : Nat} (h0 : n ≠ 0) (h1 : n ≤ 1024) : fitN n = 0 := by unfold fitN; rw [if_neg h0, if_neg (by omega)]
theorem fit_bad {n : Nat} (h : ¬ (n ≠ 0 ∧ n ≤ 1024)) : fitN n = 4 ∧ n = 0 ∨ fitN n = 2 := by
  unfold fitN
  by_cases h0 : n = 0
  · rw [if_pos h0]; exact .inl ⟨rfl, h0⟩
  · rw [if_neg h0, if_pos (by omega)]; exact .inr rfl
/-- a mean: of no points, or of too many, none -/
def fcnt (n : Nat) : Option Nat := mk (FloatKind.f64.nearest n)
def fmean (l : List Nat) : Option Nat := if fitN l.length = 0 then fop .quo (fsum l) (fcnt l.length) else mk 0
def ME (o p : Option Nat) (z : Int) (w : World) (e : Ending) (w' : World) : Prop := ∃ a b, e = .returned (.tuple #[.complex .f64 a b, .int .i64 z]) ∧ a < 2 ^ 64 ∧ b < 2 ^ 64 ∧ mk a = o ∧ mk b = p ∧ Below w.heap.size w w'
theorem mean_any (w : World) {A : Option Addr} {n c : Nat} {zs : List (Nat × Nat)} (hr : RdV w A n c (cvs zs)) :
    Calls Try.prog 13 #[.slice A n c] w (ME (fmean (zs.map Prod.fst)) (fmean (zs.map Prod.snd)) (fitN n) w) := by
  have hl : zs.length = n := by have := hr.len; rwa [cvs_len] at this
  have hF := fit_any w (A := A) (c := c) hr.max
  have hS := sum_any w hr
  have hmx := hr.max
  by_cases hok : n ≠ 0 ∧ n ≤ 1024
  · have e0 := fit_ok hok.1 hok.2
    have HF := Lib.hid (show fmean (zs.map Prod.fst) = fop .quo (fsum (zs.map Prod.fst)) (fcnt n) by unfold fmean; rw [List.length_map, hl, if_pos e0])
    have HG := Lib.hid (show fmean (zs.map Prod.snd) = fop .quo (fsum (zs.map Prod.snd)) (fcnt n) by unfold fmean; rw [List.length_map, hl, if_pos e0])
    rw [e0] at hF ⊢
    clear hok e0 hl
    go_enter Try.func13, Try.ntmps13
    go_upto_region 4 with (go_at_call 32; refine hF.mono ?_; rintro e w1 ⟨rfl, rfl⟩)
    clear hF
    go_upto_region 5 with (go_at_call 11; refine hS.mono ?_; rintro e w2 ⟨a, b, rfl, la, lb, ea, eb, bw⟩)
    clear hS
    have EA := Lib.hid ea
    have EB := Lib.hid eb
    clear ea eb
    go_wp2_with (first
      | ((with_reducible refine wpList_float rfl rfl (x := a) rfl rfl op_quo EA.out (rfl : mk (FloatKind.f64.nearest n) = fcnt n) ?_); rintro x nx hx ex)
      | ((with_reducible refine wpList_float rfl rfl (x := b) rfl rfl op_quo EB.out (rfl : mk (FloatKind.f64.nearest n) = fcnt n) ?_); rintro y ny hy ey))
    go_ret2
    exact ⟨x, y, rfl, hx, hy, by rw [ex, HF.out], by rw [ey, HG.out], by (repeat (first | (with_reducible exact Below.refl _ _) | (with_reducible assumption) | (with_reducible refine Below.drew ?_) | (with_reducible refine below_drewN ?_ _) | ((with_reducible refine Below.setCell ?_ (p := ⟨_, _, _⟩) ?_ _); rotate_left; (simp <;> omega)) | ((with_reducible refine Below.alloc ?_ ?_ _); rotate_left; (simp <;> omega)) | ((with_reducible refine Below.trans ?_ (Below.mono (by with_reducible assumption) ?_)); rotate_left; (simp <;> omega))))⟩
  · have hz : fitN n = 4 ∨ fitN n = 2 := (fit_bad hok).imp (·.1) id
    have HF := Lib.hid (show fmean (zs.map Prod.fst) = mk 0 by unfold fmean; rw [List.length_map, hl, if_neg (by omega)])
    have HG := Lib.hid (show fmean (zs.map Prod.snd) = mk 0 by unfold fmean; rw [List.length_map, hl, if_neg (by omega)])
    clear hok hl hS
    rcases hz with e0 | e0 <;> rw [e0] at hF ⊢ <;> clear e0
    all_goals
      go_enter Try.func13, Try.ntmps13
      go_wp2_with (go_at_call 32; refine hF.mono ?_; rintro e w1 ⟨rfl, rfl⟩)
      go_ret2
      exact ⟨0, 0, rfl, by decide, by decide, HF.out.symm, HG.out.symm, Below.refl _ _⟩
theorem unary_neg_float (k : FloatKind) (b : Nat) : Op.unary .neg (.float k b) = pure (.float k (Op.negFloat k b)) := rfl
theorem neg_f64 (b : Nat) : Op.negFloat .f64 b = b ^^^ 2 ^ 63 := rfl
attribute [local go_sem] unary_neg_float
theorem turn_any (w : World) {a b : Nat} (hb : b < 2 ^ 64) : Calls Try.prog 18 #[.complex .f64 a b] w fun e w' => e = .returned (.complex .f64 (b ^^^ 2 ^ 63) a) ∧ w = w' := by
  go_enter Try.func18, Try.ntmps18
  rw [← neg_f64]
  go_wp2
  go_ret
  exact ⟨rfl, rfl⟩
theorem scale_any (w : World) {a b f : Nat} {o p q : Option Nat} (ha : mk a = o) (hb : mk b = p) (hf : mk f = q) : Calls Try.prog 22 #[.complex .f64 a b, .float .f64 f] w (CE (fop .mul o q) (fop .mul p q) w) := by
  go_enter Try.func22, Try.ntmps22
  go_wp2_with (first
    | ((with_reducible refine wpList_float rfl rfl (x := a) (y := f) rfl rfl op_mul ha hf ?_); rintro x nx hx ex)
    | ((with_reducible refine wpList_float rfl rfl (x := b) (y := f) rfl rfl op_mul hb hf ?_); rintro y ny hy ey))
  go_ret
  exact ⟨x, y, rfl, hx, hy, ex, ey, by (repeat (first | (with_reducible exact Below.refl _ _) | (with_reducible assumption) | (with_reducible refine Below.drew ?_) | (with_reducible refine below_drewN ?_ _) | ((with_reducible refine Below.setCell ?_ (p := ⟨_, _, _⟩) ?_ _); rotate_left; (simp <;> omega)) | ((with_reducible refine Below.alloc ?_ ?_ _); rotate_left; (simp <;> omega)) | ((with_reducible refine Below.trans ?_ (Below.mono (by with_reducible assumption) ?_)); rotate_left; (simp <;> omega))))⟩
theorem call_bits (w : World) (x : Nat) : (callFunc 34 #[.float .f64 x]).run Try.prog w = .ok (.value (.int .u64 (x : Int))) w := by
  rw [run_callFunc_extern (e := Extern.MathFloatBits.float64bits) Try.func34 (by rfl) (by rfl) (by kernel_rfl) (by kernel_rfl)]
  rfl
theorem call_frombits (w : World) (x : Int) : (callFunc 21 #[.int .u64 x]).run Try.prog w = .ok (.value (.float .f64 x.toNat)) w := by
  rw [run_callFunc_extern (e := Extern.MathFloatBits.float64frombits) Try.func21 (by rfl) (by rfl) (by kernel_rfl) (by kernel_rfl)]
  rfl
attribute [local go_sem] call_bits call_frombits
theorem bits_pt (w : World) {a b : Nat} (hx : a < 2 ^ 64) (hy : b < 2 ^ 64) : Calls Try.prog 23 #[.complex .f64 a b] w fun e w' => e = .returned (.tuple #[.int .u64 a, .int .u64 b]) ∧ w = w' := by
  go_enter Try.func23, Try.ntmps23
  go_wp2_with fail
  go_ret2
  exact ⟨rfl, rfl⟩
/-- are plain answers equal? -/
def feq (o p : Option Nat) : Bool := ford o p == some .eq
def flt (o p : Option Nat) : Bool := ford o p == some .lt
def fgt (o p : Option Nat) : Bool := ford o p == some .gt
theorem same_any (w : World) {a b c d : Nat} {o p q r : Option Nat} (ha : mk a = o) (hb : mk b = p) (hc : mk c = q) (hd : mk d = r) : Calls Try.prog 19 #[.complex .f64 a b, .complex .f64 c d] w fun e w' => e = .returned (.bool (feq o q && feq p r)) ∧ w = w' := by
  subst ha hb hc hd
  unfold feq
  rw [ford_mk, ford_mk]
  go_enter Try.func19, Try.ntmps19
  go_wp2
  go_ret
  exact ⟨rfl, rfl⟩
end Go.Proofs.Ytlagbacljobbcaa
