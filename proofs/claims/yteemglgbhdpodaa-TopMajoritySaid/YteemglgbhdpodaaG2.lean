/- Rows of samples, and how they are put in order. -/
import Derived.Test.YteemglgbhdpodaaG1
import Derived.Maps.AppendAt
namespace Go.Proofs.Yteemglgbhdpodaa
set_option linter.unusedSimpArgs false
set_option linter.unusedVariables false
set_option maxRecDepth 100000
open Go.RowKit
attribute [local go_sem] toldUpon_value toldUpon_skip toldUpon_enter

/-- A block that begins with these samples. -/
def SB (w : World) (g : Nat) (ss : List Smp) : Prop := ∃ rest, Bk w g 56 (ss.flatMap sc ++ rest).toArray
theorem sc_len (ss : List Smp) : (ss.flatMap sc).length = 4 * ss.length := by
  induction ss with
  | nil => rfl
  | cons s ss ih => simp only [List.flatMap_cons, List.length_append, ih, List.length_cons]; simp [sc]; omega
theorem sc_at (ss : List Smp) (rest : List Value) {j : Nat} (hj : j < ss.length) : (ss.flatMap sc ++ rest)[4 * j]? = some (.int .i64 (rg ss j).o) ∧ (ss.flatMap sc ++ rest)[4 * j + 1]? = some (.int .i64 (rg ss j).d) ∧ (ss.flatMap sc ++ rest)[4 * j + 2]? = some (.int .i64 (rg ss j).p) ∧ (ss.flatMap sc ++ rest)[4 * j + 3]? = some (.int .i64 (rg ss j).a) := by
  induction ss generalizing j with
  | nil => simp at hj
  | cons s ss ih =>
    cases j with
    | zero => exact ⟨rfl, rfl, rfl, rfl⟩
    | succ j =>
      have h := ih (j := j) (by simpa using hj)
      have e : rg (s :: ss) (j + 1) = rg ss j := rfl
      rw [e, List.flatMap_cons]
      have e2 : ∀ k, (sc s ++ ss.flatMap sc ++ rest)[4 + k]? = (ss.flatMap sc ++ rest)[k]? := by
        intro k
        rw [List.append_assoc, List.getElem?_append_right (by simp [sc])]
        congr 1; simp [sc]
      rw [show 4 * (j + 1) = 4 + 4 * j by omega, show 4 + 4 * j + 1 = 4 + (4 * j + 1) by omega, show 4 + 4 * j + 2 = 4 + (4 * j + 2) by omega, show 4 + 4 * j + 3 = 4 + (4 * j + 3) by omega, e2, e2, e2, e2]
      exact h
theorem sc_put (ss : List Smp) (rest : List Value) {j : Nat} (hj : j < ss.length) (s : Smp) : ((((ss.flatMap sc ++ rest).set (4 * j) (.int .i64 s.o)).set (4 * j + 1) (.int .i64 s.d)).set (4 * j + 2) (.int .i64 s.p)).set (4 * j + 3) (.int .i64 s.a) = (ss.set j s).flatMap sc ++ rest := by
  induction ss generalizing j with
  | nil => simp at hj
  | cons t ss ih =>
    cases j with
    | zero => rfl
    | succ j =>
      have h := ih (j := j) (by simpa using hj)
      rw [List.flatMap_cons, show 4 * (j + 1) = 4 * j + 1 + 1 + 1 + 1 by omega]
      show Value.int .i64 t.o :: Value.int .i64 t.d :: Value.int .i64 t.p :: Value.int .i64 t.a :: _ = Value.int .i64 t.o :: Value.int .i64 t.d :: Value.int .i64 t.p :: Value.int .i64 t.a :: ((ss.set j s).flatMap sc ++ rest)
      rw [← h]
      rfl
section
variable {w w' : World} {g : Nat} {ss : List Smp}
theorem SB.lt (h : SB w g ss) : g < w.heap.size := by obtain ⟨r, h⟩ := h; exact h.lt
theorem SB.below (h : SB w g ss) (hb : Below w.heap.size w w') : SB w' g ss := by obtain ⟨r, h⟩ := h; exact ⟨r, h.below hb h.lt⟩
theorem SB.at (h : SB w g ss) {j : Nat} (hj : j < ss.length) : w.cell? ⟨g, j * 4, none⟩ = some (.int .i64 (rg ss j).o) ∧ w.cell? ⟨g, j * 4 + 1, none⟩ = some (.int .i64 (rg ss j).d) ∧ w.cell? ⟨g, j * 4 + 2, none⟩ = some (.int .i64 (rg ss j).p) ∧ w.cell? ⟨g, j * 4 + 3, none⟩ = some (.int .i64 (rg ss j).a) := by
  obtain ⟨r, h⟩ := h
  obtain ⟨h0, h1, h2, h3⟩ := sc_at ss r hj
  rw [Nat.mul_comm j 4]
  rw [h.cell, h.cell, h.cell, h.cell]
  exact ⟨by simpa using h0, by simpa using h1, by simpa using h2, by simpa using h3⟩
theorem SB.frozen (h : SB w g ss) (o : Nat) : w.frozen? ⟨g, o, none⟩ = false := by obtain ⟨r, h⟩ := h; exact h.frozen o
theorem SB.put (h : SB w g ss) {j : Nat} (hj : j < ss.length) (s : Smp) : SB ((((w.setCell ⟨g, j * 4, none⟩ (.int .i64 s.o)).setCell ⟨g, j * 4 + 1, none⟩ (.int .i64 s.d)).setCell ⟨g, j * 4 + 2, none⟩ (.int .i64 s.p)).setCell ⟨g, j * 4 + 3, none⟩ (.int .i64 s.a)) g (ss.set j s) := by
  obtain ⟨r, h⟩ := h
  refine ⟨r, ?_⟩
  have k := (((h.set (j * 4) (.int .i64 s.o)).set (j * 4 + 1) (.int .i64 s.d)).set (j * 4 + 2) (.int .i64 s.p)).set (j * 4 + 3) (.int .i64 s.a)
  rw [← sc_put ss r hj s, Nat.mul_comm 4 j]
  simpa using k
end
def cmpN (x y : Smp) (now : Int) : Int := if distN x now < distN y now then -1 else if distN y now < distN x now then 1 else 0
theorem cmp_any (w : World) (x y : Smp) (now : Int) {b : Nat} (hb : b < w.heap.size) (hc : w.cell? ⟨b, 0, none⟩ = some (.int .i64 now)) : Calls Try.prog 79 #[sv x, sv y, .pointer (some ⟨b, 0, none⟩)] w fun e w' => e = .returned (.int .i64 (cmpN x y now)) ∧ Below w.heap.size w w' := by
  have hX := fun w => dist_any w x now
  have hY := fun w => dist_any w y now
  have H := Lib.hid (show cmpN x y now = if distN x now < distN y now then -1 else if distN y now < distN x now then 1 else 0 from rfl)
  generalize distN x now = dx at hX H
  generalize distN y now = dy at hY H
  obtain ⟨xo, xd, xp, xa⟩ := x
  obtain ⟨yo, yd, yp, ya⟩ := y
  unfold sv at hX hY ⊢
  go_enter Try.func79, Try.ntmps79
  go_upto_region 1 with (fail)
  obtain ⟨w1, hw1⟩ : ∃ w1, (w.alloc (.cells #[.int .i64 xo, .int .i64 xd, .int .i64 xp, .int .i64 xa] 56)).alloc (.cells #[.int .i64 yo, .int .i64 yd, .int .i64 yp, .int .i64 ya] 56) = w1 := ⟨_, rfl⟩
  have hb1 : Below w1.heap.size w1 w1 := Below.refl _ _
  conv at hb1 => arg 1; rw [← hw1]
  conv at hb1 => arg 2; rw [← hw1]
  obtain ⟨B1, B2, z1, z2, bb1⟩ := box2 hb1
  rw [hw1]
  clear hb1 hw1
  have C0 : ∀ w', Below w1.heap.size w1 w' → w'.cell? ⟨w.heap.size, 0, none⟩ = some (.int .i64 xo) := fun w' h => (B1.below h z1).cell 0
  have C1 : ∀ w', Below w1.heap.size w1 w' → w'.cell? ⟨w.heap.size, 1, none⟩ = some (.int .i64 xd) := fun w' h => (B1.below h z1).cell 1
  have C2 : ∀ w', Below w1.heap.size w1 w' → w'.cell? ⟨w.heap.size, 2, none⟩ = some (.int .i64 xp) := fun w' h => (B1.below h z1).cell 2
  have C3 : ∀ w', Below w1.heap.size w1 w' → w'.cell? ⟨w.heap.size, 3, none⟩ = some (.int .i64 xa) := fun w' h => (B1.below h z1).cell 3
  have D0 : ∀ w', Below w1.heap.size w1 w' → w'.cell? ⟨w.heap.size + 1, 0, none⟩ = some (.int .i64 yo) := fun w' h => (B2.below h z2).cell 0
  have D1 : ∀ w', Below w1.heap.size w1 w' → w'.cell? ⟨w.heap.size + 1, 1, none⟩ = some (.int .i64 yd) := fun w' h => (B2.below h z2).cell 1
  have D2 : ∀ w', Below w1.heap.size w1 w' → w'.cell? ⟨w.heap.size + 1, 2, none⟩ = some (.int .i64 yp) := fun w' h => (B2.below h z2).cell 2
  have D3 : ∀ w', Below w1.heap.size w1 w' → w'.cell? ⟨w.heap.size + 1, 3, none⟩ = some (.int .i64 ya) := fun w' h => (B2.below h z2).cell 3
  have E0 : ∀ w', Below w1.heap.size w1 w' → w'.cell? ⟨b, 0, none⟩ = some (.int .i64 now) := fun w' h => ((bb1.trans (h.mono bb1.size)).cell (p := ⟨b, 0, none⟩) hb).trans hc
  have BB := Lib.hid bb1
  have hs := bb1.size
  clear hc hb bb1 B1 B2
  (refine region_told _ (by kernel_rfl) (by kernel_rfl) (by simp only [putAll, Act.put, List.setIfInBounds_toArray, List.set_cons_zero, List.set_cons_succ, Nat.reduceAdd]; rfl) ?_)
  repeat (refine told_step (fun v _ => v = _) (Stays.eq _) (by intro y w' hw' hd; simp only [depsOf, updG, Region.binds, Nat.reduceAdd, Nat.reduceEqDiff, if_false, if_true, and_true, true_and, forall_const, Array.toList, GTrue] at hd; (try go_split_ands); unfold toldAt; go_simp; exact ⟨Below.refl _ _, rfl⟩) ?_)
  (refine told_step (fun v _ => v = _) (Stays.eq _) (by intro y w' hw' hd; simp only [depsOf, updG, Region.binds, Nat.reduceAdd, Nat.reduceEqDiff, if_false, if_true, and_true, true_and, forall_const, Array.toList, GTrue] at hd; (try go_split_ands); unfold toldAt; go_simp; refine ⟨Below.refl _ _, ?_⟩; exact hX w') ?_)
  repeat (refine told_step (fun v _ => v = _) (Stays.eq _) (by intro y w' hw' hd; simp only [depsOf, updG, Region.binds, Nat.reduceAdd, Nat.reduceEqDiff, if_false, if_true, and_true, true_and, forall_const, Array.toList, GTrue] at hd; (try go_split_ands); unfold toldAt; go_simp; exact ⟨Below.refl _ _, rfl⟩) ?_)
  (refine told_step (fun v _ => v = _) (Stays.eq _) (by intro y w' hw' hd; simp only [depsOf, updG, Region.binds, Nat.reduceAdd, Nat.reduceEqDiff, if_false, if_true, and_true, true_and, forall_const, Array.toList, GTrue] at hd; (try go_split_ands); unfold toldAt; go_simp; refine ⟨Below.refl _ _, ?_⟩; exact hY w') ?_)
  repeat (refine told_step (fun v _ => v = _) (Stays.eq _) (by intro y w' hw' hd; simp only [depsOf, updG, Region.binds, Nat.reduceAdd, Nat.reduceEqDiff, if_false, if_true, and_true, true_and, forall_const, Array.toList, GTrue] at hd; (try go_split_ands); unfold toldAt; go_simp; exact ⟨Below.refl _ _, rfl⟩) ?_)
  (refine told_nil ?_; intro z w2 hw2 hd)
  have e6 : z 6 = .int .i64 dx := hd 6 (by decide)
  have e7 : z 7 = .int .i64 dy := hd 7 (by decide)
  rw [e6, e7]
  clear hd e6 e7 C0 C1 C2 C3 D0 D1 D2 D3 E0 hX hY
  have HW := Lib.hid (BB.out.trans (hw2.mono hs))
  clear hw2
  by_cases h1 : dx < dy
  · have HC := Lib.hid (H.out.trans (if_pos h1))
    go_wp2_with fail
    go_ret
    exact ⟨by rw [HC.out]; rfl, HW.out⟩
  · by_cases h2 : dy < dx
    · have HC := Lib.hid (H.out.trans ((if_neg h1).trans (if_pos h2)))
      go_wp2_with fail
      go_ret
      exact ⟨by rw [HC.out]; rfl, HW.out⟩
    · have HC := Lib.hid (H.out.trans ((if_neg h1).trans (if_neg h2)))
      go_wp2_with fail
      go_ret
      exact ⟨by rw [HC.out]; rfl, HW.out⟩
end Go.Proofs.Yteemglgbhdpodaa
