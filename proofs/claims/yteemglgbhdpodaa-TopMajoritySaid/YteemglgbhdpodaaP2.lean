/- Steps of the walk over floats; the small functions of points. -/
import Derived.Test.YteemglgbhdpodaaP1
import Derived.Test.YteemglgbhdpodaaK0
namespace Go.Proofs.Yteemglgbhdpodaa
set_option linter.unusedSimpArgs false
set_option linter.unusedVariables false
set_option maxRecDepth 100000
open Go.RowKit

section
variable {P : Program} {w : World}
theorem run_choose_nan (x y : Nat) : (choose (.nanBits .f64 x y)).run P w = .ok ((Question.nanBits .f64 x y).cut (w.tape w.drawn (.nanBits .f64 x y))) w.drew := rfl
theorem run_float {op : BinOp} (hop : isOp op) (t : TypeId) (x y : Nat) : ∃ b n, (binOp op t (.float .f64 x) (.float .f64 y)).run P w = .ok (.float .f64 b) (w.drewN n) ∧ b < 2 ^ 64 ∧ mk b = fop op (mk x) (mk y) := by
  rw [fop_mk]
  cases h : floatBits op .f64 x y with
  | some r =>
    obtain ⟨h1, h2⟩ := bits_num h
    exact ⟨r, 0, by rw [run_float_arith w op t .f64 x y r h]; rfl, h2, mk_of h1⟩
  | none =>
    obtain ⟨h1, h2⟩ := cut_nan x y (w.tape w.drawn (.nanBits .f64 x y))
    refine ⟨_, 1, ?_, h2, mk_nan h1⟩
    unfold floatBits at h
    rcases hop with rfl | rfl | rfl | rfl <;> simp only at h <;> simp [binOp, Op.floatArith, h, run_choose_nan] <;> rfl
theorem wp_float {o : Oper} {a : Act} {K : Act → World → Prop} {Q : Exit → Act → World → Prop} {op : BinOp} {t ty : TypeId} {s r : Operand} (ho : o.op = .binOp op t s r ty) {x y : Nat} (hs : a.eval s = .float .f64 x) (hr : a.eval r = .float .f64 y) (hop : isOp op)
    {p q : Option Nat} (hp : mk x = p) (hq : mk y = q) (h : ∀ b n, b < 2 ^ 64 → mk b = fop op p q → K (a.put o.dst (.float .f64 b)) (w.drewN n)) : o.wp P a w K Q := by
  subst hp; subst hq
  obtain ⟨b, n, hrun, hb, hm⟩ := run_float (P := P) (w := w) hop t x y
  have hg : (eqGuard op t s r (.float .f64 x) (.float .f64 y)).run P w = .ok () w := by
    rcases hop with rfl | rfl | rfl | rfl <;> simp [eqGuard]
  unfold Oper.wp execOp
  simp only [ho, hs, hr, Sem.run_bind, Sem.run_pure, Result.andThen_ok, hg, hrun]
  exact h b n hb hm
theorem wpList_float {ops : Array Oper} {rest : List Oper} {o : Oper} {a : Act} {Q : Exit → Act → World → Prop} (hgd : o.guard = none) {op : BinOp} {t ty : TypeId} {s r : Operand} (ho : o.op = .binOp op t s r ty) {x y : Nat} (hs : a.eval s = .float .f64 x) (hr : a.eval r = .float .f64 y) (hop : isOp op)
    {p q : Option Nat} (hp : mk x = p) (hq : mk y = q) (h : ∀ b n, b < 2 ^ 64 → mk b = fop op p q → wpList P ops Q rest (a.put o.dst (.float .f64 b)) (w.drewN n)) : wpList P ops Q (o :: rest) a w :=
  wpList_plain hgd fun _ hK => wp_float ho hs hr hop hp hq fun b n hb hm => hK _ _ (h b n hb hm)
end
theorem op_add : isOp .add := .inl rfl
theorem op_sub : isOp .sub := .inr (.inl rfl)
theorem op_mul : isOp .mul := .inr (.inr (.inl rfl))
theorem op_quo : isOp .quo := .inr (.inr (.inr rfl))
/-- a float, a point, told by plain answers -/
def FR (o : Option Nat) (v : Value) : Prop := ∃ b, v = .float .f64 b ∧ b < 2 ^ 64 ∧ mk b = o
def CR (o p : Option Nat) (v : Value) : Prop := ∃ a b, v = .complex .f64 a b ∧ a < 2 ^ 64 ∧ b < 2 ^ 64 ∧ mk a = o ∧ mk b = p
def FE (o : Option Nat) (w : World) (e : Ending) (w' : World) : Prop := ∃ b, e = .returned (.float .f64 b) ∧ b < 2 ^ 64 ∧ mk b = o ∧ Below w.heap.size w w'
def CE (o p : Option Nat) (w : World) (e : Ending) (w' : World) : Prop := ∃ a b, e = .returned (.complex .f64 a b) ∧ a < 2 ^ 64 ∧ b < 2 ^ 64 ∧ mk a = o ∧ mk b = p ∧ Below w.heap.size w w'
theorem point_any (w : World) (o d : Int) : Calls Try.prog 18 #[.int .i64 o, .int .i64 d] w fun e w' => e = .returned (.complex .f64 (FloatKind.f64.nearest o) (FloatKind.f64.nearest d)) ∧ w = w' := by
  go_enter Try.func18, Try.ntmps18
  go_wp2
  go_ret
  exact ⟨rfl, rfl⟩
theorem sum1_any (w : World) {a b c d : Nat} {o p q r : Option Nat} (ha : mk a = o) (hb : mk b = p) (hc : mk c = q) (hd : mk d = r) : Calls Try.prog 76 #[.complex .f64 a b, .complex .f64 c d] w (CE (fop .add o q) (fop .add p r) w) := by
  go_enter Try.func76, Try.ntmps76
  go_wp2_with (first
    | ((with_reducible refine wpList_float rfl rfl (x := a) (y := c) rfl rfl op_add ha hc ?_); rintro x nx hx ex)
    | ((with_reducible refine wpList_float rfl rfl (x := b) (y := d) rfl rfl op_add hb hd ?_); rintro y ny hy ey))
  go_ret
  exact ⟨x, y, rfl, hx, hy, ex, ey, by (repeat (first | (with_reducible exact Below.refl _ _) | (with_reducible assumption) | (with_reducible refine Below.drew ?_) | (with_reducible refine below_drewN ?_ _) | ((with_reducible refine Below.setCell ?_ (p := ⟨_, _, _⟩) ?_ _); rotate_left; (simp <;> omega)) | ((with_reducible refine Below.alloc ?_ ?_ _); rotate_left; (simp <;> omega)) | ((with_reducible refine Below.trans ?_ (Below.mono (by with_reducible assumption) ?_)); rotate_left; (simp <;> omega))))⟩
end Go.Proofs.Yteemglgbhdpodaa
