/- Samples: whether they may be, how they age, how far they may be off. -/
import Derived.Test.YteemglgbhdpodaaN1
import Derived.Test.YteemglgbhdpodaaTt
import Derived.Test.YteemglgbhdpodaaK0
import Derived.Deep.Cut
import Derived.Deep.MidRow
namespace Go.Proofs.Yteemglgbhdpodaa
set_option linter.unusedSimpArgs false
set_option linter.unusedVariables false
set_option maxRecDepth 100000
open Go.RowKit
attribute [local go_sem] toldUpon_value toldUpon_skip toldUpon_enter

/-- a sample: offset, delay, dispersion, time -/
structure Smp where
  o : Int
  d : Int
  p : Int
  a : Int
def sv (s : Smp) : Value := .agg #[.int .i64 s.o, .int .i64 s.d, .int .i64 s.p, .int .i64 s.a]
def mayB (s : Smp) : Bool := decide (-1152921504606846976 ≤ s.o) && decide (s.o ≤ 1152921504606846976) && decide (0 ≤ s.d) && decide (s.d ≤ 1152921504606846976) && decide (0 ≤ s.p) && decide (s.p ≤ 1152921504606846976) && decide (-1152921504606846976 ≤ s.a) && decide (s.a ≤ 1152921504606846976)
theorem mayB_iff {s : Smp} : mayB s = true ↔ (-1152921504606846976 ≤ s.o ∧ s.o ≤ 1152921504606846976) ∧ (0 ≤ s.d ∧ s.d ≤ 1152921504606846976) ∧ (0 ≤ s.p ∧ s.p ≤ 1152921504606846976) ∧ (-1152921504606846976 ≤ s.a ∧ s.a ≤ 1152921504606846976) := by
  unfold mayB; simp only [Bool.and_eq_true, decide_eq_true_eq]
  constructor
  · rintro ⟨⟨⟨⟨⟨⟨⟨h1, h2⟩, h3⟩, h4⟩, h5⟩, h6⟩, h7⟩, h8⟩; exact ⟨⟨h1, h2⟩, ⟨h3, h4⟩, ⟨h5, h6⟩, h7, h8⟩
  · rintro ⟨⟨h1, h2⟩, ⟨h3, h4⟩, ⟨h5, h6⟩, h7, h8⟩; exact ⟨⟨⟨⟨⟨⟨⟨h1, h2⟩, h3⟩, h4⟩, h5⟩, h6⟩, h7⟩, h8⟩
set_option maxHeartbeats 1000000 in
theorem may_any (w : World) (s : Smp) : Calls Try.prog 54 #[sv s] w fun e w' => e = .returned (.bool (mayB s)) ∧ Below w.heap.size w w' := by
  obtain ⟨o, d, p, a⟩ := s
  have H := Lib.hid (show mayB ⟨o, d, p, a⟩ = (decide (-1152921504606846976 ≤ o) && decide (o ≤ 1152921504606846976) && decide (0 ≤ d) && decide (d ≤ 1152921504606846976) && decide (0 ≤ p) && decide (p ≤ 1152921504606846976) && decide (-1152921504606846976 ≤ a) && decide (a ≤ 1152921504606846976)) from rfl)
  unfold sv
  go_enter Try.func54, Try.ntmps54
  go_wp2_with fail
  all_goals
    go_ret
    exact ⟨by rw [H.out]; first | (simp [*]; done) | (simp [*]; omega), (Below.refl _ _).alloc (Nat.le_refl _) _⟩
/-- by how much a sample has aged -/
def agedN (s : Smp) (now : Int) : Int := max (max (min now 1152921504606846976) (-1152921504606846976) - s.a) 0 / 65536
theorem aged_any (w : World) (s : Smp) (now : Int) (h1 : -1152921504606846976 ≤ s.a) (h2 : s.a ≤ 1152921504606846976) : Calls Try.prog 95 #[sv s, .int .i64 now] w fun e w' => e = .returned (.int .i64 (agedN s now)) ∧ Below w.heap.size w w' := by
  obtain ⟨o, d, p, a⟩ := s
  replace h1 : -1152921504606846976 ≤ a := h1
  replace h2 : a ≤ 1152921504606846976 := h2
  have H := Lib.hid (show agedN ⟨o, d, p, a⟩ now = max (max (min now 1152921504606846976) (-1152921504606846976) - a) 0 / 65536 from rfl)
  unfold sv
  go_enter Try.func95, Try.ntmps95
  go_wp2_with fail
  all_goals
    go_ret
    exact ⟨by rw [H.out]; exact ret_int (by omega), (Below.refl _ _).alloc (Nat.le_refl _) _⟩
theorem agedN_bd (s : Smp) (now : Int) (h1 : -1152921504606846976 ≤ s.a) (h2 : s.a ≤ 1152921504606846976) : 0 ≤ agedN s now ∧ agedN s now ≤ 35184372088832 := by
  unfold agedN; omega
/-- how far a sample may be off -/
def distN (s : Smp) (now : Int) : Int := if mayB s = true then s.d / 2 + s.p + agedN s now else -1
set_option maxHeartbeats 1000000 in
theorem dist_any (w : World) (s : Smp) (now : Int) : Calls Try.prog 80 #[sv s, .int .i64 now] w fun e w' => e = .returned (.int .i64 (distN s now)) ∧ Below w.heap.size w w' := by
  have hM := fun w => may_any w s
  by_cases hm : mayB s = true
  · obtain ⟨⟨o1, o2⟩, ⟨d1, d2⟩, ⟨p1, p2⟩, a1, a2⟩ := mayB_iff.1 hm
    have hA := fun w => aged_any w s now a1 a2
    obtain ⟨g1, g2⟩ := agedN_bd s now a1 a2
    have H := Lib.hid (show distN s now = s.d / 2 + s.p + agedN s now by unfold distN; rw [if_pos hm])
    rw [hm] at hM
    clear hm
    generalize agedN s now = ag at hA g1 g2 H
    obtain ⟨o, d, p, a⟩ := s
    replace d1 : 0 ≤ d := d1
    replace d2 : d ≤ 1152921504606846976 := d2
    replace p1 : 0 ≤ p := p1
    replace p2 : p ≤ 1152921504606846976 := p2
    clear a1 a2 o1 o2
    unfold sv at hM hA ⊢
    go_enter Try.func80, Try.ntmps80
    go_upto_region 3 with (go_at_call 54; refine (hM _).mono ?_; rintro e w1 ⟨rfl, hb1⟩; obtain ⟨B1, z1, bb1⟩ := box1 hb1)
    have C0 : ∀ w', Below w1.heap.size w1 w' → w'.cell? ⟨w.heap.size, 0, none⟩ = some (.int .i64 o) := fun w' h => (B1.below h z1).cell 0
    have C1 : ∀ w', Below w1.heap.size w1 w' → w'.cell? ⟨w.heap.size, 1, none⟩ = some (.int .i64 d) := fun w' h => (B1.below h z1).cell 1
    have C2 : ∀ w', Below w1.heap.size w1 w' → w'.cell? ⟨w.heap.size, 2, none⟩ = some (.int .i64 p) := fun w' h => (B1.below h z1).cell 2
    have C3 : ∀ w', Below w1.heap.size w1 w' → w'.cell? ⟨w.heap.size, 3, none⟩ = some (.int .i64 a) := fun w' h => (B1.below h z1).cell 3
    have j1 : IntKind.i64.wrap (d / 2 + p) = d / 2 + p := IntWalk.i64_in _ (by omega)
    have j2 : IntKind.i64.wrap (d / 2 + p + ag) = d / 2 + p + ag := IntWalk.i64_in _ (by omega)
    clear hM B1
    have BB := Lib.hid bb1
    have hs := bb1.size
    clear bb1
    (refine region_told _ (by kernel_rfl) (by kernel_rfl) (by simp only [putAll, Act.put, List.setIfInBounds_toArray, List.set_cons_zero, List.set_cons_succ, Nat.reduceAdd]; rfl) ?_)
    repeat (refine told_step (fun v _ => v = _) (Stays.eq _) (by intro y w' hw' hd; simp only [depsOf, updG, Region.binds, Nat.reduceAdd, Nat.reduceEqDiff, if_false, if_true, and_true, true_and, forall_const, Array.toList, GTrue] at hd; (try go_split_ands); unfold toldAt; go_simp; exact ⟨Below.refl _ _, rfl⟩) ?_)
    (refine told_step (fun v _ => v = _) (Stays.eq _) (by intro y w' hw' hd; simp only [depsOf, updG, Region.binds, Nat.reduceAdd, Nat.reduceEqDiff, if_false, if_true, and_true, true_and, forall_const, Array.toList, GTrue] at hd; (try go_split_ands); unfold toldAt; go_simp; refine ⟨Below.refl _ _, ?_⟩; exact hA w') ?_)
    repeat (refine told_step (fun v _ => v = _) (Stays.eq _) (by intro y w' hw' hd; simp only [depsOf, updG, Region.binds, Nat.reduceAdd, Nat.reduceEqDiff, if_false, if_true, and_true, true_and, forall_const, Array.toList, GTrue] at hd; (try go_split_ands); unfold toldAt; go_simp; exact ⟨Below.refl _ _, rfl⟩) ?_)
    (refine told_nil ?_; intro y w2 hw2 hd)
    have H10 : y 10 = .int .i64 (d / 2 + p + ag) := hd 10 (by decide)
    rw [H10]
    clear hd H10 C0 C1 C2 C3
    have HW := Lib.hid (BB.out.trans (hw2.mono hs))
    clear hw2
    go_wp2_with fail
    go_ret
    exact ⟨by rw [H.out]; rfl, HW.out⟩
  · have H := Lib.hid (show distN s now = -1 by unfold distN; rw [if_neg hm])
    rw [show mayB s = false by simpa using hm] at hM
    clear hm
    obtain ⟨o, d, p, a⟩ := s
    unfold sv at hM ⊢
    go_enter Try.func80, Try.ntmps80
    go_wp2_with (go_at_call 54; refine (hM _).mono ?_; rintro e w1 ⟨rfl, hb1⟩; obtain ⟨B1, z1, bb1⟩ := box1 hb1)
    go_ret
    exact ⟨by rw [H.out]; rfl, bb1⟩
end Go.Proofs.Yteemglgbhdpodaa
