/- The document's sums and means; how far points lie around their mean: each told by plain answers. -/
import Derived.Test.YtlagbacljobbcaaP5
import Derived.Test.YtlagbacljobbcaaTd
namespace Go.Proofs.Ytlagbacljobbcaa
set_option linter.unusedSimpArgs false
set_option linter.unusedVariables false
open Go.RowKit
attribute [local go_sem] call_bits call_frombits unary_neg_float
attribute [local go_sem] toldUpon_value toldUpon_skip toldUpon_enter

theorem told_float_at {P : Program} {ops : Array Oper} {o : Oper} {a : Act} {w : World} (hgd : o.guard = none) {op : BinOp} {t ty : TypeId} {s r : Operand} (ho : o.op = .binOp op t s r ty) {x y : Nat} (hs : a.eval s = .float .f64 x) (hr : a.eval r = .float .f64 y) (hop : isOp op)
    {p q : Option Nat} (hp : mk x = p) (hq : mk y = q) : toldAt P ops o a w (fun v _ => FR (fop op p q) v) := by
  subst hp hq
  obtain ⟨b, n, hrun, hb, hm⟩ := run_float (P := P) (w := w) hop t x y
  have hg : (eqGuard op t s r (.float .f64 x) (.float .f64 y)).run P w = .ok () w := by
    rcases hop with rfl | rfl | rfl | rfl <;> simp [eqGuard]
  unfold toldAt
  have hw : Region.wanted o (yielded ops a.tmps) = true := by simp [Region.wanted, hgd]
  rw [if_pos hw]
  unfold execOp
  simp only [ho, hs, hr, Sem.run_bind, Sem.run_pure, Result.andThen_ok, hg, hrun]
  exact ⟨below_drewN (Below.refl _ _) n, b, rfl, hb, hm⟩
theorem stays_FR (o : Option Nat) : Stays (fun v _ => FR o v) := fun _ _ _ _ h => h
theorem rsum_any (w : World) {A : Option Addr} {n c : Nat} {xs : List Nat} (hr : RdV w A n c (fvs xs)) : Calls Try.prog 31 #[.slice A n c] w (FE (fsum xs) w) := by
  have hl : xs.length = n := by have := hr.len; rwa [fvs_len] at this
  have hmx := hr.max
  go_enter Try.func31, Try.ntmps31
  go_wp2_with fail
  go_loopw [3, 4] (fun x i wr => ∃ (t a : Nat), t ≤ n ∧ i = .int .i64 (t : Int) ∧ x = .float .f64 a ∧ a < 2 ^ 64 ∧ mk a = fsum (xs.take t) ∧ Below w.heap.size w wr) (fun _ i _ => n - (intOf i).toNat)
  case atStart => exact ⟨0, 0, Nat.zero_le _, rfl, rfl, by decide, rfl, Below.refl _ _⟩
  case round =>
    obtain ⟨t, a, ht, rfl, rfl, la, ea, hbel⟩ := hrel
    by_cases hlt : t < n
    · obtain ⟨ad, rfl, hab, hac⟩ := (hr.below hbel).form (by omega)
      obtain ⟨p, hz⟩ : ∃ p, xs[t] = p := ⟨_, rfl⟩
      have cx := hac t (.float .f64 p) (by rw [fvs, List.getElem?_map, List.getElem?_eq_getElem (by omega), hz]; rfl)
      have a1 : (t : Int) < (n : Int) := by omega
      have a0 : (0 : Int) ≤ (t : Int) := by omega
      have HA := Lib.hid (show fop .add (fsum (xs.take t)) (mk p) = fsum (xs.take (t + 1)) by
        unfold fsum; rw [fsumF_take _ (by omega)]; rw [hz])
      have EA := Lib.hid ea
      have HBEL := Lib.hid hbel
      have hs := hbel.size
      have i1 : IntKind.i64.wrap ((t : Int) + 1) = (t : Int) + 1 := IntWalk.i64_in _ (by omega)
      clear ea hac hz hbel
      go_wp2_with ((with_reducible refine wpList_float rfl rfl (x := a) (y := p) rfl rfl op_add EA.out (rfl : mk p = mk p) ?_); rintro a2 na ha2 ea2)
      go_roundw
      case rel => exact ⟨t + 1, a2, by omega, by go_num, rfl, ha2, by rw [ea2, HA.out], HBEL.out.trans (below_drewN (Below.refl _ _) _)⟩
      case measure => simp [intOf]; omega
    · obtain rfl : n = t := by omega
      go_wp2_with fail
      go_ret
      refine ⟨a, rfl, la, ?_, hbel⟩
      rw [ea, List.take_of_length_le (by omega)]
def FFE (o p : Option Nat) (w : World) (e : Ending) (w' : World) : Prop := ∃ a b, e = .returned (.tuple #[.float .f64 a, .float .f64 b]) ∧ a < 2 ^ 64 ∧ b < 2 ^ 64 ∧ mk a = o ∧ mk b = p ∧ Below w.heap.size w w'
theorem rSum_any (w : World) {A B : Option Addr} {n c m d : Nat} {xs ys : List Nat} (hx : RdV w A n c (fvs xs)) (hy : RdV w B m d (fvs ys)) : Calls Try.prog 12 #[.slice A n c, .slice B m d] w (FFE (fsum xs) (fsum ys) w) := by
  have h1 := rsum_any w hx
  have h2 := fun w' (h : Below w.heap.size w w') => rsum_any w' (hy.below h)
  go_enter Try.func12, Try.ntmps12
  go_wp2_with (first
    | (go_at_call 31; (with_reducible refine h1.mono ?_); rintro e w1 ⟨a, rfl, la, ea, ba⟩)
    | (go_at_call 31; (with_reducible refine (h2 _ ba).mono ?_); rintro e w2 ⟨b, rfl, lb, eb, bb⟩))
  go_ret2
  exact ⟨a, b, rfl, la, lb, ea, eb, ba.trans (bb.mono ba.size)⟩
def FFIE (o p : Option Nat) (z : Int) (w : World) (e : Ending) (w' : World) : Prop := ∃ a b, e = .returned (.tuple #[.float .f64 a, .float .f64 b, .int .i64 z]) ∧ a < 2 ^ 64 ∧ b < 2 ^ 64 ∧ mk a = o ∧ mk b = p ∧ Below w.heap.size w w'
theorem rmean_any (w : World) {A B : Option Addr} {n c m d : Nat} {xs ys : List Nat} (hx : RdV w A n c (fvs xs)) (hy : RdV w B m d (fvs ys)) (hnm : xs.length = ys.length) : Calls Try.prog 14 #[.slice A n c, .slice B m d] w (FFIE (fmean xs) (fmean ys) (fitN n) w) := by
  have hl : xs.length = n := by have := hx.len; rwa [fvs_len] at this
  have hF := rfit_any w hx.max
  have hS := rSum_any w hx hy
  have hmx := hx.max
  by_cases hok : n ≠ 0 ∧ n ≤ 1024
  · have e0 := fit_ok hok.1 hok.2
    have HF := Lib.hid (show fmean xs = fop .quo (fsum xs) (fcnt n) by unfold fmean; rw [hl, if_pos e0])
    have HG := Lib.hid (show fmean ys = fop .quo (fsum ys) (fcnt n) by unfold fmean; rw [← hnm, hl, if_pos e0])
    rw [e0] at hF ⊢
    clear hok e0 hl hnm
    go_enter Try.func14, Try.ntmps14
    go_upto_region 4 with (go_at_call 33; refine hF.mono ?_; rintro e w1 ⟨rfl, rfl⟩)
    clear hF
    go_upto_region 5 with (go_at_call 12; refine hS.mono ?_; rintro e w2 ⟨a, b, rfl, la, lb, ea, eb, bw⟩)
    clear hS
    have EA := Lib.hid ea
    have EB := Lib.hid eb
    clear ea eb
    go_wp2_with (first
      | ((with_reducible refine wpList_float rfl rfl (x := a) rfl rfl op_quo EA.out (rfl : mk (FloatKind.f64.nearest n) = fcnt n) ?_); rintro x nx hx ex)
      | ((with_reducible refine wpList_float rfl rfl (x := b) rfl rfl op_quo EB.out (rfl : mk (FloatKind.f64.nearest n) = fcnt n) ?_); rintro y ny hy ey))
    exact bodyPost_ret (v := .tuple #[.float .f64 x, .float .f64 y, .int .i64 0]) (by simp [results, Try.results14, go_sem]) rfl ⟨x, y, rfl, hx, hy, by rw [ex, HF.out], by rw [ey, HG.out], by (repeat (first | (with_reducible exact Below.refl _ _) | (with_reducible assumption) | (with_reducible refine Below.drew ?_) | (with_reducible refine below_drewN ?_ _) | ((with_reducible refine Below.setCell ?_ (p := ⟨_, _, _⟩) ?_ _); rotate_left; (simp <;> omega)) | ((with_reducible refine Below.alloc ?_ ?_ _); rotate_left; (simp <;> omega)) | ((with_reducible refine Below.trans ?_ (Below.mono (by with_reducible assumption) ?_)); rotate_left; (simp <;> omega))))⟩
  · have hz : fitN n = 4 ∨ fitN n = 2 := (fit_bad hok).imp (·.1) id
    have HF := Lib.hid (show fmean xs = mk 0 by unfold fmean; rw [hl, if_neg (by omega)])
    have HG := Lib.hid (show fmean ys = mk 0 by unfold fmean; rw [← hnm, hl, if_neg (by omega)])
    clear hok hl hS hnm
    rcases hz with e0 | e0 <;> rw [e0] at hF ⊢ <;> clear e0
    · go_enter Try.func14, Try.ntmps14
      go_wp2_with (go_at_call 33; refine hF.mono ?_; rintro e w1 ⟨rfl, rfl⟩)
      exact bodyPost_ret (v := .tuple #[.float .f64 0, .float .f64 0, .int .i64 4]) (by simp [results, Try.results14, go_sem]) rfl ⟨0, 0, rfl, by decide, by decide, HF.out.symm, HG.out.symm, Below.refl _ _⟩
    · go_enter Try.func14, Try.ntmps14
      go_wp2_with (go_at_call 33; refine hF.mono ?_; rintro e w1 ⟨rfl, rfl⟩)
      exact bodyPost_ret (v := .tuple #[.float .f64 0, .float .f64 0, .int .i64 2]) (by simp [results, Try.results14, go_sem]) rfl ⟨0, 0, rfl, by decide, by decide, HF.out.symm, HG.out.symm, Below.refl _ _⟩
theorem rfar_any (w : World) {a b c d : Nat} {o p q r : Option Nat} (ha : mk a = o) (hb : mk b = p) (hc : mk c = q) (hd : mk d = r) : Calls Try.prog 24 #[.float .f64 a, .float .f64 b, .float .f64 c, .float .f64 d] w (FE (ffar o p q r) w) := by
  go_enter Try.func24, Try.ntmps24
  go_upto_region 2 with (first
    | ((with_reducible refine wpList_float rfl rfl (x := a) (y := c) rfl rfl op_sub ha hc ?_); rintro x nx hx ex)
    | ((with_reducible refine wpList_float rfl rfl (x := b) (y := d) rfl rfl op_sub hb hd ?_); rintro y ny hy ey)
    | (go_at_call 36; refine (worth_any _ hx ex).mono ?_; rintro e w1 ⟨rfl, rfl⟩)
    | (go_at_call 36; refine (worth_any _ hy ey).mono ?_; rintro e w2 ⟨rfl, rfl⟩))
  have gx := mk_abs x
  have gy := mk_abs y
  rw [ex] at gx
  rw [ey] at gy
  have lx : x % 2 ^ 63 < 2 ^ 64 := by omega
  have ly : y % 2 ^ 63 < 2 ^ 64 := by omega
  generalize x % 2 ^ 63 = x1 at gx lx ⊢
  generalize y % 2 ^ 63 = y1 at gy ly ⊢
  have ho : fgt (fabs (fop .sub o q)) (fabs (fop .sub p r)) = (FloatKind.f64.format.order x1 y1 == some .gt) := by rw [← gx, ← gy]; unfold fgt; rw [ford_mk]; rfl
  have hf : ffar o p q r = if (FloatKind.f64.format.order x1 y1 == some .gt) then mk x1 else mk y1 := by
    show (if fgt (fabs (fop .sub o q)) (fabs (fop .sub p r)) = true then fabs (fop .sub o q) else fabs (fop .sub p r)) = _
    rw [ho, gx, gy]
  have HF := Lib.hid hf
  clear ho hf gx gy ex ey
  cases ht : (FloatKind.f64.format.order x1 y1 == some Ordering.gt)
  · have e1 := HF.out
    rw [ht, if_neg (by decide)] at e1
    have E1 := Lib.hid e1
    clear e1 HF
    go_wp2_with fail
    go_ret
    exact ⟨y1, rfl, ly, E1.out.symm, by (repeat (first | (with_reducible exact Below.refl _ _) | (with_reducible assumption) | (with_reducible refine Below.drew ?_) | (with_reducible refine below_drewN ?_ _) | ((with_reducible refine Below.setCell ?_ (p := ⟨_, _, _⟩) ?_ _); rotate_left; (simp <;> omega)) | ((with_reducible refine Below.alloc ?_ ?_ _); rotate_left; (simp <;> omega)) | ((with_reducible refine Below.trans ?_ (Below.mono (by with_reducible assumption) ?_)); rotate_left; (simp <;> omega))))⟩
  · have e1 := HF.out
    rw [ht, if_pos rfl] at e1
    have E1 := Lib.hid e1
    clear e1 HF
    go_wp2_with fail
    go_ret
    exact ⟨x1, rfl, lx, E1.out.symm, by (repeat (first | (with_reducible exact Below.refl _ _) | (with_reducible assumption) | (with_reducible refine Below.drew ?_) | (with_reducible refine below_drewN ?_ _) | ((with_reducible refine Below.setCell ?_ (p := ⟨_, _, _⟩) ?_ _); rotate_left; (simp <;> omega)) | ((with_reducible refine Below.alloc ?_ ?_ _); rotate_left; (simp <;> omega)) | ((with_reducible refine Below.trans ?_ (Below.mono (by with_reducible assumption) ?_)); rotate_left; (simp <;> omega))))⟩
end Go.Proofs.Ytlagbacljobbcaa
