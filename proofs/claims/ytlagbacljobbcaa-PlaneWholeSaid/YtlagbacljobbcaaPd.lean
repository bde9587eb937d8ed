/- Layer 13: four turns are none, and a turn changes no distance: the walk. -/
import Derived.Test.YtlagbacljobbcaaPc
namespace Go.Proofs.Ytlagbacljobbcaa
set_option linter.unusedSimpArgs false
set_option linter.unusedVariables false
open Go.RowKit
attribute [local go_sem] call_bits call_frombits

theorem tmod_small (n : Int) : (Int.tmod n 1099511627776).natAbs < 1099511627776 := by
  have h := Int.tmod_lt_of_pos n (b := 1099511627776) (by decide)
  have h2 := Int.lt_tmod_of_pos n (b := 1099511627776) (by decide)
  omega
theorem Sm.of {n : Int} (h : n.natAbs < 9007199254740992) : Sm n := h
theorem cmp_self (n : Int) : compare n n = .eq := by simp
theorem IV.eq {o p : Option Nat} {n : Int} (h : IV o n) (h' : IV p n) : feq o p = true := by
  unfold feq; rw [h.order h', cmp_self n]; rfl
/-- the greater distance of two -/
def mxd (a b c d : Int) : Int := if (b - d).natAbs < (a - c).natAbs then (a - c).natAbs else (b - d).natAbs
theorem IV.far {o p q r : Option Nat} {a b c d : Int} (ha : IV o a) (hb : IV p b) (hc : IV q c) (hd : IV r d) (h1 : Sm (a - c)) (h2 : Sm (b - d)) : IV (ffar o p q r) (mxd a b c d) := by
  have hx := (ha.sub hc h1).abs
  have hy := (hb.sub hd h2).abs
  show IV (if fgt (fabs (fop .sub o q)) (fabs (fop .sub p r)) = true then fabs (fop .sub o q) else fabs (fop .sub p r)) (mxd a b c d)
  have ho : fgt (fabs (fop .sub o q)) (fabs (fop .sub p r)) = decide ((b - d).natAbs < (a - c).natAbs) := by
    unfold fgt
    rw [hx.order hy]
    by_cases h : (b - d).natAbs < (a - c).natAbs
    · rw [Int.compare_eq_gt.2 (by omega)]; simp [h]
    · rcases Nat.lt_or_ge (a - c).natAbs (b - d).natAbs with h3 | h3
      · rw [Int.compare_eq_lt.2 (by omega)]; simp [h]
      · rw [show (a - c).natAbs = (b - d).natAbs by omega, cmp_self]; simp
  rw [ho]
  unfold mxd
  by_cases h : (b - d).natAbs < (a - c).natAbs
  · rw [if_pos h, if_pos (by simpa using h)]; exact hx
  · rw [if_neg h, if_neg (by simpa using h)]; exact hy
theorem IV.mk_fi {n : Int} (h : Sm n) : IV (mk (FloatKind.f64.nearest n)) n := by
  have h1 : nanB (FloatKind.f64.nearest n) = false := (nearest_num (decide (n < 0)) n.natAbs 0).1
  rw [mk_of h1]; exact IV.ofInt h
theorem IV.bits {u v : Nat} {n : Int} (h : IV (mk u) n) (h' : IV (mk v) n) : FloatKind.f64.format.order u v = some .eq := by
  have h1 := h.order h'
  rw [ford_mk, cmp_self n] at h1
  exact h1
theorem IV.bits0 {u : Nat} (h : IV (mk u) 0) : FloatKind.f64.format.order u 0 = some .eq := h.bits (by
  have e : mk 0 = mk (FloatKind.f64.nearest 0) := by decide +kernel
  rw [e]
  exact IV.mk_fi (by unfold Sm; decide))
def FIV (n : Int) (w : World) (e : Ending) (w' : World) : Prop := ∃ u, e = .returned (.float .f64 u) ∧ IV (mk u) n ∧ Below w.heap.size w w'
theorem xor_twice (a : Nat) : a ^^^ 2 ^ 63 ^^^ 2 ^ 63 = a := by rw [Nat.xor_assoc, Nat.xor_self, Nat.xor_zero]
theorem farIV (w : World) {a b c d : Nat} {x y z t m : Int} (ha : IV (mk a) x) (hb : IV (mk b) y) (hc : IV (mk c) z) (hd : IV (mk d) t) (h1 : Sm (x - z)) (h2 : Sm (y - t)) (hm : mxd x y z t = m) : Calls Try.prog 20 #[.complex .f64 a b, .complex .f64 c d] w (FIV m w) := by
  refine (far_any w (rfl : mk a = _) (rfl : mk b = _) (rfl : mk c = _) (rfl : mk d = _)).mono ?_
  rintro e w' ⟨u, rfl, lu, eu, bu⟩
  exact ⟨u, rfl, by rw [eu, ← hm]; exact ha.far hb hc hd h1 h2, bu⟩
set_option maxRecDepth 100000 in
set_option maxHeartbeats 1000000 in
theorem walk_PlaneTurns (a b c d : Int) (W : World) (wa : (Lit.int .i64 a).wf = true) (wb : (Lit.int .i64 b).wf = true) (wc : (Lit.int .i64 c).wf = true) (wd : (Lit.int .i64 d).wf = true) :
    Calls Try.prog 4 #[.int .i64 a, .int .i64 b, .int .i64 c, .int .i64 d] W fun e w' => e = .returned (.bool true) ∧ Below W.heap.size W w' := by
  have na := tmod_small a
  have nb := tmod_small b
  have nc := tmod_small c
  have nd := tmod_small d
  have hN := fun w n => near_any w n
  generalize ea : Int.tmod a 1099511627776 = a1 at na
  generalize eb : Int.tmod b 1099511627776 = b1 at nb
  generalize ec : Int.tmod c 1099511627776 = c1 at nc
  generalize ed : Int.tmod d 1099511627776 = d1 at nd
  have N1 := fun w => near_any w a
  have N2 := fun w => near_any w b
  have N3 := fun w => near_any w c
  have N4 := fun w => near_any w d
  rw [ea] at N1
  rw [eb] at N2
  rw [ec] at N3
  rw [ed] at N4
  have sa : Sm a1 := Sm.of (by omega)
  have sb : Sm b1 := Sm.of (by omega)
  have sc : Sm c1 := Sm.of (by omega)
  have sd : Sm d1 := Sm.of (by omega)
  have ia := IV.mk_fi sa
  have ib := IV.mk_fi sb
  have ic := IV.mk_fi sc
  have id := IV.mk_fi sd
  have P1 := fun w => point_any w a1 b1
  have P2 := fun w => point_any w c1 d1
  have la := (nearest_num (decide (a1 < 0)) a1.natAbs 0).2
  have lb := (nearest_num (decide (b1 < 0)) b1.natAbs 0).2
  have ld := (nearest_num (decide (d1 < 0)) d1.natAbs 0).2
  change FloatKind.f64.nearest a1 < _ at la
  change FloatKind.f64.nearest b1 < _ at lb
  change FloatKind.f64.nearest d1 < _ at ld
  generalize FloatKind.f64.nearest a1 = fa at ia P1 la
  generalize FloatKind.f64.nearest b1 = fb at ib P1 lb
  generalize FloatKind.f64.nearest c1 = fc at ic P2
  generalize FloatKind.f64.nearest d1 = fd at id P2 ld
  have T1 := fun w => turn_any w (a := fa) (b := fb) lb
  have T2 := fun w => turn_any w (a := fb ^^^ 2 ^ 63) (b := fa) la
  have T3 := fun w => turn_any w (a := fa ^^^ 2 ^ 63) (b := fb ^^^ 2 ^ 63) (neg_rung lb).2
  have T4 := fun w => turn_any w (a := fb) (b := fa ^^^ 2 ^ 63) (neg_rung la).2
  have T5 := fun w => turn_any w (a := fc) (b := fd) ld
  rw [xor_twice] at T3 T4
  have ja : IV (mk (fa ^^^ 2 ^ 63)) (-a1) := by rw [mk_neg la]; exact ia.neg
  have jb : IV (mk (fb ^^^ 2 ^ 63)) (-b1) := by rw [mk_neg lb]; exact ib.neg
  have jd : IV (mk (fd ^^^ 2 ^ 63)) (-d1) := by rw [mk_neg ld]; exact id.neg
  generalize fa ^^^ 2 ^ 63 = ga at T2 T3 T4 ja
  generalize fb ^^^ 2 ^ 63 = gb at T1 T2 T3 jb
  generalize fd ^^^ 2 ^ 63 = gd' at T5 jd
  have hSa : ∀ w, Calls Try.prog 19 #[.complex .f64 fa fb, .complex .f64 fa fb] w fun e w' => e = .returned (.bool true) ∧ w = w' := fun w => by
    have h := same_any w (rfl : mk fa = _) (rfl : mk fb = _) (rfl : mk fa = _) (rfl : mk fb = _)
    rwa [ia.eq ia, ib.eq ib] at h
  obtain ⟨m, hm⟩ : ∃ m, mxd a1 b1 c1 d1 = m := ⟨_, rfl⟩
  have F1 := fun w => farIV w (m := m) jb ia jd ic (Sm.of (by omega)) (Sm.of (by omega)) (by rw [← hm]; unfold mxd; repeat' split <;> omega)
  have F2 := fun w => farIV w (m := m) ia ib ic id (Sm.of (by omega)) (Sm.of (by omega)) hm
  have F3 := fun w => farIV w (m := m) ic id ia ib (Sm.of (by omega)) (Sm.of (by omega)) (by rw [← hm]; unfold mxd; repeat' split <;> omega)
  have F4 := fun w => farIV w (m := 0) ia ib ia ib (Sm.of (by omega)) (Sm.of (by omega)) (by unfold mxd; split <;> omega)
  clear sa sb sc sd ia ib ic id ja jb jd na nb nc nd la lb ld hm ea eb ec ed hN
  go_enter Try.func4, Try.ntmps4
  go_upto_region 3 with (first
    | (go_at_call 17; (with_reducible refine (N1 _).mono ?_); rintro e w1 ⟨rfl, rfl⟩)
    | (go_at_call 17; (with_reducible refine (N2 _).mono ?_); rintro e w1 ⟨rfl, rfl⟩)
    | (go_at_call 17; (with_reducible refine (N3 _).mono ?_); rintro e w1 ⟨rfl, rfl⟩)
    | (go_at_call 17; (with_reducible refine (N4 _).mono ?_); rintro e w1 ⟨rfl, rfl⟩)
    | (go_at_call 16; (with_reducible refine (P1 _).mono ?_); rintro e w1 ⟨rfl, rfl⟩)
    | (go_at_call 16; (with_reducible refine (P2 _).mono ?_); rintro e w1 ⟨rfl, rfl⟩)
    | (go_at_call 18; (with_reducible refine (T1 _).mono ?_); rintro e w1 ⟨rfl, rfl⟩)
    | (go_at_call 18; (with_reducible refine (T2 _).mono ?_); rintro e w1 ⟨rfl, rfl⟩)
    | (go_at_call 18; (with_reducible refine (T3 _).mono ?_); rintro e w1 ⟨rfl, rfl⟩)
    | (go_at_call 18; (with_reducible refine (T4 _).mono ?_); rintro e w1 ⟨rfl, rfl⟩))
  clear N1 N2 N3 N4 P1 P2
  go_wp2_with (first
    | (go_at_call 9; refine (palive_any _).mono ?_; rintro e w1 ⟨rfl, b1⟩)
    | (go_at_call 19; (with_reducible refine (hSa _).mono ?_); rintro e w2' ⟨rfl, rfl⟩)
    | (go_at_call 18; (with_reducible refine (T1 _).mono ?_); rintro e w2' ⟨rfl, rfl⟩)
    | (go_at_call 18; (with_reducible refine (T5 _).mono ?_); rintro e w2' ⟨rfl, rfl⟩)
    | (go_at_call 20; (with_reducible refine (F1 _).mono ?_); rintro e w2 ⟨u, rfl, iu, b2⟩)
    | (go_at_call 20; (with_reducible refine (F3 _).mono ?_); rintro e w5 ⟨p, rfl, ip, b5⟩; have o2 : FloatKind.f64.format.order _ p = some .eq := iq.bits ip; clear iq ip)
    | (go_at_call 20; (with_reducible refine (F4 _).mono ?_); rintro e w6 ⟨r, rfl, ir, b6⟩; have o3 := ir.bits0; clear ir)
    | (go_at_call 20; (with_reducible refine (F2 _).mono ?_); rintro e w3 ⟨v, rfl, iv, b3⟩; have o1 : FloatKind.f64.format.order u v = some .eq := iu.bits iv; clear iu iv)
    | (go_at_call 20; (with_reducible refine (F2 _).mono ?_); rintro e w4 ⟨q, rfl, iq, b4⟩))
  go_ret
  exact ⟨rfl, b1.trans ((b2.trans ((b3.trans ((b4.trans ((b5.trans (b6.mono b5.size)).mono b4.size)).mono b3.size)).mono b2.size)).mono b1.size)⟩
end Go.Proofs.Ytlagbacljobbcaa
