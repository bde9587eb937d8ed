/- Floats as plain functions of their bits: a word that is no number is 'none', every other word is itself. -/
import Derived.Test.YteemglgbhdpodaaB0
import Derived.Laws.FloatArith
namespace Go.Proofs.Yteemglgbhdpodaa
set_option linter.unusedSimpArgs false
set_option linter.unusedVariables false
set_option maxRecDepth 100000
open Ieee

/-- is a word no number? -/
def nanB (b : Nat) : Bool := (double.read b).isNaN
/-- a word as a plain answer -/
def mk (b : Nat) : Option Nat := if nanB b then none else some b
theorem mk_some {b r : Nat} (h : mk b = some r) : b = r ∧ nanB r = false := by
  unfold mk at h
  split at h
  · cases h
  · rename_i hn
    cases h
    exact ⟨rfl, by simpa using hn⟩
theorem mk_none {b : Nat} (h : mk b = none) : nanB b = true := by
  unfold mk at h
  split at h
  · assumption
  · cases h
theorem mk_of {b : Nat} (h : nanB b = false) : mk b = some b := by unfold mk; rw [h]; rfl
theorem mk_nan {b : Nat} (h : nanB b = true) : mk b = none := by unfold mk; rw [h]; rfl
/-- a word by its sign and its rung -/
theorem read_rung (b : Nat) : double.read b = (if b % 2 ^ 63 < 2 ^ 52 then .number (b / 2 ^ 63 % 2 == 1) (b % 2 ^ 63) (-1074)
    else if b % 2 ^ 63 < 2047 * 2 ^ 52 then .number (b / 2 ^ 63 % 2 == 1) (2 ^ 52 + b % 2 ^ 63 % 2 ^ 52) (-1074 + (b % 2 ^ 63 / 2 ^ 52 - 1 : Nat))
    else if b % 2 ^ 63 = 2047 * 2 ^ 52 then .infinity (b / 2 ^ 63 % 2 == 1) else .nan (b / 2 ^ 63 % 2 == 1) (b % 2 ^ 63 - 2047 * 2 ^ 52)) := rfl
theorem nan_rung (b : Nat) : nanB b = decide (2047 * 2 ^ 52 < b % 2 ^ 63) := by
  unfold nanB
  rw [read_rung]
  rcases Nat.lt_or_ge (b % 2 ^ 63) (2 ^ 52) with h1 | h1
  · rw [if_pos h1]; simp [Datum.isNaN]; omega
  · rw [if_neg (by omega)]
    rcases Nat.lt_or_ge (b % 2 ^ 63) (2047 * 2 ^ 52) with h2 | h2
    · rw [if_pos h2]; simp [Datum.isNaN]; omega
    · rw [if_neg (by omega)]
      by_cases h3 : b % 2 ^ 63 = 2047 * 2 ^ 52
      · rw [if_pos h3]; simp [Datum.isNaN]; omega
      · rw [if_neg h3]; simp [Datum.isNaN]; omega
/-- the words that the tape may answer -/
theorem cut_nan (x y t : Nat) : nanB ((Question.nanBits .f64 x y).cut t) = true ∧ (Question.nanBits .f64 x y).cut t < 2 ^ 64 := by
  have e : (Question.nanBits .f64 x y).cut t = (t % 2) * 2 ^ 63 + 0x7ff0000000000000 + 1 + (t / 2) % (2 ^ 52 - 1) := rfl
  rw [e, nan_rung]
  have h1 : (t / 2) % (2 ^ 52 - 1) < 2 ^ 52 - 1 := Nat.mod_lt _ (by decide)
  generalize (t / 2) % (2 ^ 52 - 1) = u at h1
  have h2 : t % 2 = 0 ∨ t % 2 = 1 := by omega
  rcases h2 with h | h <;> rw [h] <;> simp <;> omega
theorem word_rung (neg : Bool) {r : Nat} (h : r < 2 ^ 63) : double.word neg r % 2 ^ 63 = r ∧ double.word neg r < 2 ^ 64 ∧ (double.word neg r / 2 ^ 63 % 2 == 1) = neg := by
  cases neg
  · show r % 2 ^ 63 = r ∧ r < 2 ^ 64 ∧ (r / 2 ^ 63 % 2 == 1) = false
    refine ⟨by omega, by omega, ?_⟩
    rw [Nat.div_eq_of_lt h]; rfl
  · show (2 ^ 63 + r) % 2 ^ 63 = r ∧ 2 ^ 63 + r < 2 ^ 64 ∧ ((2 ^ 63 + r) / 2 ^ 63 % 2 == 1) = true
    refine ⟨by omega, by omega, ?_⟩
    have : (2 ^ 63 + r) / 2 ^ 63 = 1 := by omega
    rw [this]; rfl
/-- what is written of what is no NaN is none -/
theorem nearest_num (neg : Bool) (m : Nat) (e : Int) : nanB (double.nearest neg m e) = false ∧ double.nearest neg m e < 2 ^ 64 := by
  have key : ∀ r, r ≤ 2047 * 2 ^ 52 → nanB (double.word neg r) = false ∧ double.word neg r < 2 ^ 64 := by
    intro r hr
    obtain ⟨h1, h2, _⟩ := word_rung neg (r := r) (by omega)
    rw [nan_rung, h1]
    exact ⟨decide_eq_false (by omega), h2⟩
  unfold Format.nearest
  dsimp only
  split
  · exact key 0 (by decide)
  · exact key _ (Nat.min_le_right _ _)
theorem write_num {d : Datum} (h : d.isNaN = false) : nanB (double.write d) = false ∧ double.write d < 2 ^ 64 := by
  cases d with
  | number s m e => exact nearest_num s m e
  | infinity s =>
    obtain ⟨h1, h2, _⟩ := word_rung s (r := 2047 * 2 ^ 52) (by decide)
    refine ⟨?_, h2⟩
    show nanB (double.word s (2047 * 2 ^ 52)) = false
    rw [nan_rung, h1]
    decide
  | nan s f => cases h
theorem sum_num {x y d : Datum} (h : x.sum y = some d) : d.isNaN = false := by
  cases x <;> cases y <;> simp only [Datum.sum] at h
  all_goals first
    | (cases h; rfl)
    | (split at h <;> cases h; rfl)
    | cases h
theorem product_num {x y d : Datum} (h : x.product y = some d) : d.isNaN = false := by
  cases x <;> cases y <;> simp only [Datum.product] at h
  all_goals first
    | (cases h; rfl)
    | (split at h <;> cases h; rfl)
    | cases h
theorem quotient_num {k : Nat} {x y d : Datum} (h : x.quotient k y = some d) : d.isNaN = false := by
  cases x <;> cases y <;> simp only [Datum.quotient] at h
  all_goals first
    | (cases h; rfl)
    | (repeat' split at h) <;> first | (cases h; rfl) | cases h
    | cases h
def isOp (op : BinOp) : Prop := op = .add ∨ op = .sub ∨ op = .mul ∨ op = .quo
theorem bits_num {op : BinOp} {x y r : Nat} (h : floatBits op .f64 x y = some r) : nanB r = false ∧ r < 2 ^ 64 := by
  unfold floatBits at h
  split at h
  · obtain ⟨d, hd, rfl⟩ := Option.map_eq_some_iff.1 h; exact write_num (sum_num hd)
  · obtain ⟨d, hd, rfl⟩ := Option.map_eq_some_iff.1 h; exact write_num (sum_num hd)
  · obtain ⟨d, hd, rfl⟩ := Option.map_eq_some_iff.1 h; exact write_num (product_num hd)
  · obtain ⟨d, hd, rfl⟩ := Option.map_eq_some_iff.1 h; exact write_num (quotient_num hd)
  · cases h
/-- an operation on plain answers -/
def fop (op : BinOp) (o p : Option Nat) : Option Nat := o.bind fun x => p.bind fun y => floatBits op .f64 x y
theorem opp_nan {d : Datum} : d.opposite.isNaN = d.isNaN := by cases d <;> rfl
theorem bits_nan_l {op : BinOp} {x y : Nat} (h : nanB x = true) : floatBits op .f64 x y = none := by
  unfold nanB at h
  unfold floatBits
  cases hx : double.read x with
  | nan s f => cases op <;> simp only [Format.add, Format.sub, Format.mul, Format.div, FloatKind.format, hx] <;> simp [Datum.sum, Datum.product, Datum.quotient]
  | number s m e => rw [hx] at h; cases h
  | infinity s => rw [hx] at h; cases h
theorem bits_nan_r {op : BinOp} {x y : Nat} (h : nanB y = true) : floatBits op .f64 x y = none := by
  unfold nanB at h
  unfold floatBits
  cases hx : double.read y with
  | nan s f => cases op <;> simp only [Format.add, Format.sub, Format.mul, Format.div, FloatKind.format, hx] <;> cases double.read x <;> simp [Datum.sum, Datum.product, Datum.quotient, Datum.opposite]
  | number s m e => rw [hx] at h; cases h
  | infinity s => rw [hx] at h; cases h
theorem fop_mk (op : BinOp) (x y : Nat) : fop op (mk x) (mk y) = floatBits op .f64 x y := by
  unfold fop
  by_cases hx : nanB x = true
  · rw [mk_nan hx, bits_nan_l hx]; rfl
  · rw [mk_of (by simpa using hx)]
    by_cases hy : nanB y = true
    · rw [mk_nan hy, bits_nan_r hy]; rfl
    · rw [mk_of (by simpa using hy)]; rfl
/-- how two plain answers stand to each other -/
def ford (o p : Option Nat) : Option Ordering := o.bind fun x => p.bind fun y => double.order x y
theorem ford_mk (x y : Nat) : ford (mk x) (mk y) = double.order x y := by
  unfold ford
  by_cases hx : nanB x = true
  · rw [mk_nan hx]
    unfold Format.order
    unfold nanB at hx
    cases hd : double.read x with
    | nan s f => rfl
    | number s m e => rw [hd] at hx; cases hx
    | infinity s => rw [hd] at hx; cases hx
  · rw [mk_of (by simpa using hx)]
    by_cases hy : nanB y = true
    · rw [mk_nan hy]
      unfold Format.order
      unfold nanB at hy
      cases hd : double.read y with
      | nan s f => cases double.read x <;> rfl
      | number s m e => rw [hd] at hy; cases hy
      | infinity s => rw [hd] at hy; cases hy
    · rw [mk_of (by simpa using hy)]; rfl
theorem order_self {x : Nat} (h : nanB x = false) : double.order x x = some .eq := by
  unfold Format.order
  unfold nanB at h
  cases hd : double.read x with
  | nan s f => rw [hd] at h; cases h
  | number s m e => simp [Datum.order]
  | infinity s => simp [Datum.order]
theorem order_nan {x : Nat} (h : nanB x = true) : double.order x x = none := by
  rw [← ford_mk, mk_nan h]; rfl
/-- the sign turned, and struck -/
def fneg (o : Option Nat) : Option Nat := o.map (· ^^^ 2 ^ 63)
def fabs (o : Option Nat) : Option Nat := o.map (· % 2 ^ 63)
theorem xor_top {b : Nat} (h : b < 2 ^ 64) : b ^^^ 2 ^ 63 = if b < 2 ^ 63 then b + 2 ^ 63 else b - 2 ^ 63 := by
  split
  · rename_i hb
    have h1 := Nat.two_pow_add_eq_or_of_lt hb 1
    rw [Nat.mul_one] at h1
    have h2 : 2 ^ 63 ^^^ b = 2 ^ 63 ||| b := by
      apply Nat.eq_of_testBit_eq
      intro i
      rw [Nat.testBit_xor, Nat.testBit_or, Nat.testBit_two_pow]
      by_cases hi : 63 = i
      · subst hi
        have : b.testBit 63 = false := Nat.testBit_lt_two_pow hb
        rw [this]; rfl
      · simp [hi]
    rw [Nat.xor_comm, h2, ← h1, Nat.add_comm]
  · rename_i hb
    have hb' : b - 2 ^ 63 < 2 ^ 63 := by omega
    have e : b = 2 ^ 63 * 1 + (b - 2 ^ 63) := by omega
    have h1 := Nat.two_pow_add_eq_or_of_lt hb' 1
    rw [← e, Nat.mul_one] at h1
    apply Nat.eq_of_testBit_eq
    intro i
    rw [Nat.testBit_xor]
    conv => lhs; rw [h1]
    rw [Nat.testBit_or, Nat.testBit_two_pow]
    by_cases hi : 63 = i
    · subst hi
      have : (b - 2 ^ 63).testBit 63 = false := Nat.testBit_lt_two_pow hb'
      rw [this]; rfl
    · simp [hi]
theorem neg_rung {b : Nat} (h : b < 2 ^ 64) : (b ^^^ 2 ^ 63) % 2 ^ 63 = b % 2 ^ 63 ∧ b ^^^ 2 ^ 63 < 2 ^ 64 := by
  rw [xor_top h]; split <;> omega
theorem mk_neg {b : Nat} (h : b < 2 ^ 64) : mk (b ^^^ 2 ^ 63) = fneg (mk b) := by
  have h1 : nanB (b ^^^ 2 ^ 63) = nanB b := by rw [nan_rung, nan_rung, (neg_rung h).1]
  unfold mk fneg
  rw [h1]
  split <;> rfl
theorem mk_abs (b : Nat) : mk (b % 2 ^ 63) = fabs (mk b) := by
  have h1 : nanB (b % 2 ^ 63) = nanB b := by rw [nan_rung, nan_rung, Nat.mod_mod]
  unfold mk fabs
  rw [h1]
  split <;> rfl
/-- two words of one plain answer: the same bits, or both no number -/
theorem like_of {a b : Nat} (h : mk a = mk b) : (a == b) = true ∨ (double.order a a = none ∧ double.order b b = none) := by
  cases ha : mk a with
  | none => right; rw [ha] at h; exact ⟨order_nan (mk_none ha), order_nan (mk_none h.symm)⟩
  | some r =>
    left
    rw [ha] at h
    rw [(mk_some ha).1, (mk_some h.symm).1]
    simp
end Go.Proofs.Yteemglgbhdpodaa
