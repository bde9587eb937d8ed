/- FilterTells: the walk. -/
import Derived.Test.YtbiajjdjbnnggaaGc
namespace Go.Proofs.Ytbiajjdjbnnggaa
set_option linter.unusedSimpArgs false
set_option linter.unusedVariables false
set_option maxRecDepth 100000
open Go.RowKit
attribute [local go_sem] toldUpon_value toldUpon_skip toldUpon_enter

set_option maxHeartbeats 1000000 in
theorem best_nil (w : World) (now : Int) : Calls Try.prog 11 #[.pointer none, .int .i64 now] w (BES s0 4 w) := by
  have hR := fun w' => row_nil w' now
  unfold ROW at hR
  go_enter Try.func11, Try.ntmps11
  obtain ⟨w1, hw1⟩ : ∃ w1, w.alloc (.cells #[.int .i64 0, .int .i64 0, .int .i64 0, .int .i64 0] 27) = w1 := ⟨_, rfl⟩
  have hbk : Bk w1 w.heap.size 27 #[.int .i64 0, .int .i64 0, .int .i64 0, .int .i64 0] := by rw [← hw1]; exact Bk.new w _ _
  have hb1 : Below w.heap.size w w1 := by rw [← hw1]; exact (Below.refl _ _).alloc (Nat.le_refl _) _
  have hz : w1.heap.size = w.heap.size + 1 := by rw [← hw1]; simp
  go_upto_region 1 with (fail)
  clear hw1
  go_upto_region 2 with (go_at_call 9; refine (hR w1).mono ?_; rintro e w2 ⟨A, c, rfl, hrs, hb2⟩)
  have hbk2 := hbk.below hb2 hbk.lt
  have c0 := hbk2.cell 0
  have c1 := hbk2.cell 1
  have c2 := hbk2.cell 2
  have c3 := hbk2.cell 3
  have fz : ∀ o, w2.frozen? ⟨w.heap.size, o, none⟩ = false := fun o => hbk2.frozen o
  have HBB := Lib.hid (hb1.trans (hb2.mono (by omega)))
  clear hR hbk hb1 hbk2 hb2 hrs
  go_wp2_with fail
  exact bodyPost_ret (v := .tuple #[sv s0, .int .i64 4]) (by simp [results, Try.results11, go_sem, c0, c1, c2, c3, sv, s0]) rfl ⟨rfl, (((HBB.out.setCell (p := ⟨w.heap.size, 0, none⟩) (Nat.le_refl _) _).setCell (p := ⟨w.heap.size, 1, none⟩) (Nat.le_refl _) _).setCell (p := ⟨w.heap.size, 2, none⟩) (Nat.le_refl _) _).setCell (p := ⟨w.heap.size, 3, none⟩) (Nat.le_refl _) _⟩
def GFB : GFact := fun v w => ∃ g, v = .pointer (some ⟨g, 0, none⟩) ∧ FB w g R0 0
theorem GFB.stays : Stays GFB := fun _ _ _ hb ⟨g, e, h⟩ => ⟨g, e, h.below hb⟩
def GROW0 : GFact := fun v _ => ∃ A c, v = .slice A 0 c
theorem GROW0.stays : Stays GROW0 := fun _ _ _ _ ⟨A, c, e⟩ => ⟨A, c, e⟩
set_option maxHeartbeats 4000000 in
theorem walk_FilterTells (s : Smp) (now : Int) (n : Nat) (hn : n < 18446744073709551616) (w : World) : Calls Try.prog 7 #[sv s, .int .i64 now, .int .u64 (n : Int)] w fun e w' => e = .returned (.bool true) ∧ Below w.heap.size w w' := by
  have hAl := fun w => falive_any w
  have hD := fun w => dist_any w s now
  have hD2 := fun w => rdist_any w s now
  have hR1 : ∀ w, Calls Try.prog 27 #[.int .u64 (n : Int)] w fun e w' => e = .returned (.int .u64 ((rootN n : Nat) : Int)) ∧ Below w.heap.size w w' := fun w => (root_any w hn).mono (by rintro e w' ⟨rfl, rfl⟩; exact ⟨rfl, Below.refl _ _⟩)
  have hR2 : ∀ w, Calls Try.prog 28 #[.int .u64 (n : Int)] w fun e w' => e = .returned (.int .u64 ((rootN n : Nat) : Int)) ∧ Below w.heap.size w w' := fun w => (rroot_any w hn).mono (by rintro e w' ⟨rfl, rfl⟩; exact ⟨rfl, Below.refl _ _⟩)
  have hAd := fun w => add_nil w s
  have hRs : ∀ w, Calls Try.prog 20 #[.pointer none] w fun e w' => e = .returned (.int .i64 6) ∧ Below w.heap.size w w' := fun w => (reset_nil w).mono (by rintro e w' ⟨rfl, rfl⟩; exact ⟨rfl, Below.refl _ _⟩)
  have hLn : ∀ w, Calls Try.prog 13 #[.pointer none] w fun e w' => e = .returned (.int .i64 0) ∧ Below w.heap.size w w' := fun w => (len_nil w).mono (by rintro e w' ⟨rfl, rfl⟩; exact ⟨rfl, Below.refl _ _⟩)
  have hBe := fun w => best_nil w now
  unfold BES at hBe
  have hJi : ∀ w, Calls Try.prog 17 #[.pointer none, .int .i64 now] w fun e w' => e = .returned (.int .i64 0) ∧ Below w.heap.size w w' := fun w => jit_gen w _ now [] (fun j hj => absurd hj (by simp)) (by decide) (row_nil w now)
  have hDi : ∀ w, Calls Try.prog 18 #[.pointer none, .int .i64 now] w fun e w' => e = .returned (.int .i64 (dispN [] now)) ∧ Below w.heap.size w w' := fun w => disp_gen w _ now [] (fun j hj => absurd hj (by simp)) (by decide) (row_nil w now)
  have hDn : ∀ w g, FB w g R0 0 → Calls Try.prog 18 #[.pointer (some ⟨g, 0, none⟩), .int .i64 now] w fun e w' => e = .returned (.int .i64 (dispN [] now)) ∧ Below w.heap.size w w' := fun w g h => disp_gen w _ now [] (fun j hj => absurd hj (by simp)) (by decide) (row_any w now h (by decide))
  generalize dispN [] now = dv at hDi hDn
  generalize distN s now = dx at hD hD2
  generalize rootN n = rt at hR1 hR2
  obtain ⟨xo, xd, xp, xa⟩ := s
  unfold sv s0 at *
  simp only at hBe
  go_enter Try.func7, Try.ntmps7
  obtain ⟨w1, hw1⟩ : ∃ w1, w.alloc (.cells #[.int .i64 xo, .int .i64 xd, .int .i64 xp, .int .i64 xa] 27) = w1 := ⟨_, rfl⟩
  have hbk : Bk w1 w.heap.size 27 #[.int .i64 xo, .int .i64 xd, .int .i64 xp, .int .i64 xa] := by rw [← hw1]; exact Bk.new w _ _
  have hb1 : Below w.heap.size w w1 := by rw [← hw1]; exact (Below.refl _ _).alloc (Nat.le_refl _) _
  have hz1 := hb1.size
  go_upto_region 1 with (fail)
  clear hw1
  go_upto_region 3 with (go_at_call 11; refine (hBe w1).mono ?_; rintro e w2 ⟨rfl, hb2⟩)
  obtain ⟨wz, hwz⟩ : ∃ x, w2.alloc (.cells #[.int .i64 0, .int .i64 0, .int .i64 0, .int .i64 0] 27) = x := ⟨_, rfl⟩
  have hn : Below w2.heap.size w2 wz := by rw [← hwz]; exact (Below.refl _ _).alloc (Nat.le_refl _) _
  have hz2 := hb2.size
  have hB2 := hb2.trans (hn.mono hz2)
  have bk2 := hbk.below hB2 hbk.lt
  have HZ := Lib.hid (hb1.trans (hB2.mono hz1))
  have hz3 := HZ.out.size
  have l2 : w.heap.size < wz.heap.size := bk2.lt
  have C0 : ∀ w', Below wz.heap.size wz w' → w'.cell? ⟨w.heap.size, 0, none⟩ = some (.int .i64 xo) := fun w' h => (bk2.below h l2).cell 0
  have C1 : ∀ w', Below wz.heap.size wz w' → w'.cell? ⟨w.heap.size, 1, none⟩ = some (.int .i64 xd) := fun w' h => (bk2.below h l2).cell 1
  have C2 : ∀ w', Below wz.heap.size wz w' → w'.cell? ⟨w.heap.size, 2, none⟩ = some (.int .i64 xp) := fun w' h => (bk2.below h l2).cell 2
  have C3 : ∀ w', Below wz.heap.size wz w' → w'.cell? ⟨w.heap.size, 3, none⟩ = some (.int .i64 xa) := fun w' h => (bk2.below h l2).cell 3
  rw [hwz]
  clear hwz hn hB2 bk2 hbk hb1 hb2 hz2
  have HDN := Lib.hid hDn
  clear hDn hBe
  (refine region_told _ (by kernel_rfl) (by kernel_rfl) (by simp only [putAll, Act.put, List.setIfInBounds_toArray, List.set_cons_zero, List.set_cons_succ, Nat.reduceAdd]; rfl) ?_)
  (refine told_step (fun v _ => v = _) (Stays.eq _) (by intro y w' hw' hd; simp only [depsOf, updG, Region.binds, Nat.reduceAdd, Nat.reduceEqDiff, if_false, if_true, and_true, true_and, forall_const, Array.toList, GTrue] at hd; (try go_split_ands); unfold toldAt; go_simp; refine ⟨Below.refl _ _, ?_⟩; exact hAl w') ?_)
  repeat (refine told_step (fun v _ => v = _) (Stays.eq _) (by intro y w' hw' hd; simp only [depsOf, updG, Region.binds, Nat.reduceAdd, Nat.reduceEqDiff, if_false, if_true, and_true, true_and, forall_const, Array.toList, GTrue] at hd; (try go_split_ands); unfold toldAt; go_simp; exact ⟨Below.refl _ _, rfl⟩) ?_)
  (refine told_step (fun v _ => v = _) (Stays.eq _) (by intro y w' hw' hd; simp only [depsOf, updG, Region.binds, Nat.reduceAdd, Nat.reduceEqDiff, if_false, if_true, and_true, true_and, forall_const, Array.toList, GTrue] at hd; (try go_split_ands); unfold toldAt; go_simp; refine ⟨Below.refl _ _, ?_⟩; exact hD w') ?_)
  repeat (refine told_step (fun v _ => v = _) (Stays.eq _) (by intro y w' hw' hd; simp only [depsOf, updG, Region.binds, Nat.reduceAdd, Nat.reduceEqDiff, if_false, if_true, and_true, true_and, forall_const, Array.toList, GTrue] at hd; (try go_split_ands); unfold toldAt; go_simp; exact ⟨Below.refl _ _, rfl⟩) ?_)
  (refine told_step (fun v _ => v = _) (Stays.eq _) (by intro y w' hw' hd; simp only [depsOf, updG, Region.binds, Nat.reduceAdd, Nat.reduceEqDiff, if_false, if_true, and_true, true_and, forall_const, Array.toList, GTrue] at hd; (try go_split_ands); unfold toldAt; go_simp; refine ⟨Below.refl _ _, ?_⟩; exact hD2 w') ?_)
  repeat (refine told_step (fun v _ => v = _) (Stays.eq _) (by intro y w' hw' hd; simp only [depsOf, updG, Region.binds, Nat.reduceAdd, Nat.reduceEqDiff, if_false, if_true, and_true, true_and, forall_const, Array.toList, GTrue] at hd; (try go_split_ands); unfold toldAt; go_simp; exact ⟨Below.refl _ _, rfl⟩) ?_)
  (refine told_step (fun v _ => v = _) (Stays.eq _) (by intro y w' hw' hd; simp only [depsOf, updG, Region.binds, Nat.reduceAdd, Nat.reduceEqDiff, if_false, if_true, and_true, true_and, forall_const, Array.toList, GTrue] at hd; (try go_split_ands); unfold toldAt; go_simp; refine ⟨Below.refl _ _, ?_⟩; exact hR1 w') ?_)
  repeat (refine told_step (fun v _ => v = _) (Stays.eq _) (by intro y w' hw' hd; simp only [depsOf, updG, Region.binds, Nat.reduceAdd, Nat.reduceEqDiff, if_false, if_true, and_true, true_and, forall_const, Array.toList, GTrue] at hd; (try go_split_ands); unfold toldAt; go_simp; exact ⟨Below.refl _ _, rfl⟩) ?_)
  (refine told_step (fun v _ => v = _) (Stays.eq _) (by intro y w' hw' hd; simp only [depsOf, updG, Region.binds, Nat.reduceAdd, Nat.reduceEqDiff, if_false, if_true, and_true, true_and, forall_const, Array.toList, GTrue] at hd; (try go_split_ands); unfold toldAt; go_simp; refine ⟨Below.refl _ _, ?_⟩; exact hR2 w') ?_)
  repeat (refine told_step (fun v _ => v = _) (Stays.eq _) (by intro y w' hw' hd; simp only [depsOf, updG, Region.binds, Nat.reduceAdd, Nat.reduceEqDiff, if_false, if_true, and_true, true_and, forall_const, Array.toList, GTrue] at hd; (try go_split_ands); unfold toldAt; go_simp; exact ⟨Below.refl _ _, rfl⟩) ?_)
  (refine told_step (fun v _ => v = _) (Stays.eq _) (by intro y w' hw' hd; simp only [depsOf, updG, Region.binds, Nat.reduceAdd, Nat.reduceEqDiff, if_false, if_true, and_true, true_and, forall_const, Array.toList, GTrue] at hd; (try go_split_ands); unfold toldAt; go_simp; refine ⟨Below.refl _ _, ?_⟩; exact hAd w') ?_)
  repeat (refine told_step (fun v _ => v = _) (Stays.eq _) (by intro y w' hw' hd; simp only [depsOf, updG, Region.binds, Nat.reduceAdd, Nat.reduceEqDiff, if_false, if_true, and_true, true_and, forall_const, Array.toList, GTrue] at hd; (try go_split_ands); unfold toldAt; go_simp; exact ⟨Below.refl _ _, rfl⟩) ?_)
  (refine told_step (fun v _ => v = _) (Stays.eq _) (by intro y w' hw' hd; simp only [depsOf, updG, Region.binds, Nat.reduceAdd, Nat.reduceEqDiff, if_false, if_true, and_true, true_and, forall_const, Array.toList, GTrue] at hd; (try go_split_ands); unfold toldAt; go_simp; refine ⟨Below.refl _ _, ?_⟩; exact hRs w') ?_)
  repeat (refine told_step (fun v _ => v = _) (Stays.eq _) (by intro y w' hw' hd; simp only [depsOf, updG, Region.binds, Nat.reduceAdd, Nat.reduceEqDiff, if_false, if_true, and_true, true_and, forall_const, Array.toList, GTrue] at hd; (try go_split_ands); unfold toldAt; go_simp; exact ⟨Below.refl _ _, rfl⟩) ?_)
  (refine told_step (fun v _ => v = _) (Stays.eq _) (by intro y w' hw' hd; simp only [depsOf, updG, Region.binds, Nat.reduceAdd, Nat.reduceEqDiff, if_false, if_true, and_true, true_and, forall_const, Array.toList, GTrue] at hd; (try go_split_ands); unfold toldAt; go_simp; refine ⟨Below.refl _ _, ?_⟩; exact hLn w') ?_)
  repeat (refine told_step (fun v _ => v = _) (Stays.eq _) (by intro y w' hw' hd; simp only [depsOf, updG, Region.binds, Nat.reduceAdd, Nat.reduceEqDiff, if_false, if_true, and_true, true_and, forall_const, Array.toList, GTrue] at hd; (try go_split_ands); unfold toldAt; go_simp; exact ⟨Below.refl _ _, rfl⟩) ?_)
  (refine told_step (fun v _ => v = _) (Stays.eq _) (by intro y w' hw' hd; simp only [depsOf, updG, Region.binds, Nat.reduceAdd, Nat.reduceEqDiff, if_false, if_true, and_true, true_and, forall_const, Array.toList, GTrue] at hd; (try go_split_ands); unfold toldAt; go_simp; refine ⟨Below.refl _ _, ?_⟩; exact hJi w') ?_)
  repeat (refine told_step (fun v _ => v = _) (Stays.eq _) (by intro y w' hw' hd; simp only [depsOf, updG, Region.binds, Nat.reduceAdd, Nat.reduceEqDiff, if_false, if_true, and_true, true_and, forall_const, Array.toList, GTrue] at hd; (try go_split_ands); unfold toldAt; go_simp; exact ⟨Below.refl _ _, rfl⟩) ?_)
  (refine told_step (GROW0) (GROW0.stays) (by intro y w' hw' hd; simp only [depsOf, updG, Region.binds, Nat.reduceAdd, Nat.reduceEqDiff, if_false, if_true, and_true, true_and, forall_const, Array.toList, GTrue] at hd; (try go_split_ands); unfold toldAt; go_simp; refine ⟨Below.refl _ _, ?_⟩; exact (row_nil w' now).mono (by rintro e w4 ⟨A, c, rfl, _, h2⟩; exact ⟨_, rfl, h2, A, c, rfl⟩)) ?_)
  (refine told_step (fun v _ => v = .int .i64 0) (Stays.eq _) (by intro y w' hw' hd; simp only [depsOf, updG, Region.binds, Nat.reduceAdd, Nat.reduceEqDiff, if_false, if_true, and_true, true_and, forall_const, Array.toList, GTrue] at hd; (try go_split_ands); have h1 : GROW0 (y 46) w' := by { assumption }; obtain ⟨A, c, hy⟩ := h1; unfold toldAt; go_simp; exact Below.refl _ _) ?_)
  repeat (refine told_step (fun v _ => v = _) (Stays.eq _) (by intro y w' hw' hd; simp only [depsOf, updG, Region.binds, Nat.reduceAdd, Nat.reduceEqDiff, if_false, if_true, and_true, true_and, forall_const, Array.toList, GTrue] at hd; (try go_split_ands); unfold toldAt; go_simp; exact ⟨Below.refl _ _, rfl⟩) ?_)
  (refine told_step (fun v _ => v = _) (Stays.eq _) (by intro y w' hw' hd; simp only [depsOf, updG, Region.binds, Nat.reduceAdd, Nat.reduceEqDiff, if_false, if_true, and_true, true_and, forall_const, Array.toList, GTrue] at hd; (try go_split_ands); unfold toldAt; go_simp; refine ⟨Below.refl _ _, ?_⟩; exact hDi w') ?_)
  (refine told_step (GFB) (GFB.stays) (by intro y w' hw' hd; simp only [depsOf, updG, Region.binds, Nat.reduceAdd, Nat.reduceEqDiff, if_false, if_true, and_true, true_and, forall_const, Array.toList, GTrue] at hd; (try go_split_ands); unfold toldAt; go_simp; refine ⟨Below.refl _ _, ?_⟩; exact (new_any w').mono (by rintro e w4 ⟨rfl, h1, h2⟩; exact ⟨_, rfl, h2, _, rfl, h1⟩)) ?_)
  repeat (refine told_step (fun v _ => v = _) (Stays.eq _) (by intro y w' hw' hd; simp only [depsOf, updG, Region.binds, Nat.reduceAdd, Nat.reduceEqDiff, if_false, if_true, and_true, true_and, forall_const, Array.toList, GTrue] at hd; (try go_split_ands); unfold toldAt; go_simp; exact ⟨Below.refl _ _, rfl⟩) ?_)
  (refine told_step (fun v _ => v = .int .i64 dv) (Stays.eq _) (by intro y w' hw' hd; simp only [depsOf, updG, Region.binds, Nat.reduceAdd, Nat.reduceEqDiff, if_false, if_true, and_true, true_and, forall_const, Array.toList, GTrue] at hd; (try go_split_ands); have h1 : GFB (y 54) w' := by { assumption }; obtain ⟨g, hy, hfb⟩ := h1; unfold toldAt; go_simp; exact ⟨Below.refl _ _, HDN.out w' g hfb⟩) ?_)
  repeat (refine told_step (fun v _ => v = _) (Stays.eq _) (by intro y w' hw' hd; simp only [depsOf, updG, Region.binds, Nat.reduceAdd, Nat.reduceEqDiff, if_false, if_true, and_true, true_and, forall_const, Array.toList, GTrue] at hd; (try go_split_ands); unfold toldAt; go_simp; exact ⟨Below.refl _ _, rfl⟩) ?_)
  (refine told_nil ?_; intro y w3 hw3 hd)
  have H59 : y 59 = .bool true := hd 59 (by decide)
  rw [H59]
  clear hd H59 C0 C1 C2 C3
  have HW := Lib.hid (HZ.out.trans (hw3.mono hz3))
  clear hw3
  go_wp2_with fail
  go_ret
  exact ⟨rfl, HW.out⟩
theorem walk_FilterTells' (o d p a now z : Int) (w : World) (hz : (Lit.int .u64 z).wf = true) : Calls Try.prog 7 #[.agg #[.int .i64 o, .int .i64 d, .int .i64 p, .int .i64 a], .int .i64 now, .int .u64 z] w fun e w' => e = .returned (.bool true) ∧ Below w.heap.size w w' := by
  obtain ⟨h1, h2⟩ := u64_wf hz
  obtain ⟨n, rfl⟩ : ∃ n : Nat, z = (n : Int) := ⟨z.toNat, by omega⟩
  exact walk_FilterTells ⟨o, d, p, a⟩ now n (by omega) w
end Go.Proofs.Ytbiajjdjbnnggaa
