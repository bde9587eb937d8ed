/- Session keys, next key numbers, cookies, sums of fronts: the walks. -/
import Derived.Test.YtiimflmbcgnbeaaMZ
import Derived.Test.YtiimflmbcgnbeaaTd
namespace Go.Proofs.Ytiimflmbcgnbeaa
set_option linter.unusedSimpArgs false
set_option linter.unusedVariables false
open Go.RowKit Go.Proofs.YtiimflmbcgnbeaaW.PrintWords

attribute [local go_sem] toldUpon_value toldUpon_skip toldUpon_enter
set_option maxRecDepth 100000 in
set_option maxHeartbeats 4000000 in
theorem walk_KeysMakes (a b c d : Int) (A0 : Option Addr) (n0 c0 : Nat) (fc : List Nat) (W : World) (wa : (Lit.int .u32 a).wf = true) (wb : (Lit.int .u32 b).wf = true) (wc : (Lit.int .u32 c).wf = true) (wd : (Lit.int .u32 d).wf = true) (rd0 : Rd .u8 W A0 n0 c0 fc) (b8 : B8 fc) (al0 : ∀ ad, A0 = some ad → ad.block < W.heap.size) (y0 : n0 * 1 ≤ 140737488351232) :
    Calls Try.prog 16 #[.int .u32 a, .int .u32 b, .int .u32 c, .int .u32 d, .slice A0 n0 c0] W fun e w' => e = .returned (.bool true) ∧ Below W.heap.size W w' := by
  obtain ⟨a, rfl, la⟩ := u32_nat wa
  obtain ⟨b, rfl, lb⟩ := u32_nat wb
  obtain ⟨c, rfl, lc⟩ := u32_nat wc
  obtain ⟨d, rfl, ld⟩ := u32_nat wd
  go_enter Try.func16, Try.ntmps16
  by_cases h1 : (300 : Int) < (n0 : Int)
  · skip
    go_wp2_with (go_at_call 33; refine (kalive_any _).mono ?_; rintro e w1 ⟨rfl, hb1⟩)
    go_ret
    exact ⟨rfl, hb1⟩
  have hn : n0 < 1000000 := by omega
  have t1 := decide_eq_false h1
  obtain ⟨X, hX⟩ : ∃ z, nextN a b c d = z := ⟨_, rfl⟩
  obtain ⟨Y, hY⟩ : ∃ z, be4 (shaN (numL [a, b, 0, c])) 0 = z := ⟨_, rfl⟩
  obtain ⟨Z, hZ⟩ : ∃ z, be4 (shaN (numL [a, b, 1, c] ++ fc)) 0 = z := ⟨_, rfl⟩
  obtain ⟨S, hS0⟩ : ∃ z, sessN a b c d = z := ⟨_, rfl⟩
  have hS : ∀ w', Calls Try.prog 43 #[.int .u32 (a : Int), .int .u32 (b : Int), .int .u32 (c : Int), .int .u32 (d : Int)] w' fun e w'' => ∃ A k, e = .returned (.slice A 16 k) ∧ Rd .u8 w'' A 16 k S ∧ Below w'.heap.size w' w'' := fun w' => (session_any w' la lb lc ld).mono (by
    rintro e w'' ⟨A, k, rfl, ho, hb⟩
    exact ⟨A, k, rfl, hS0 ▸ ho.rd, hb⟩)
  have hR : ∀ w', Calls Try.prog 40 #[.int .u32 (a : Int), .int .u32 (b : Int), .int .u32 (c : Int), .int .u32 (d : Int)] w' fun e w'' => ∃ A k, e = .returned (.slice A 16 k) ∧ Rd .u8 w'' A 16 k S ∧ Below w'.heap.size w' w'' := fun w' => (rsession_any w' la lb lc ld).mono (by
    rintro e w'' ⟨A, k, rfl, hr, _, hb⟩
    exact ⟨A, k, rfl, hS0 ▸ hr, hb⟩)
  have hN := fun w' => next_any w' la lb lc ld
  have hM := fun w' => rnext_any w' la lb lc ld
  have hC := fun w' => cookie_any w' la lb lc
  have hD := fun w' => rcookie_any w' la lb lc
  have hB : ∀ w', Below W.heap.size W w' → Calls Try.prog 48 #[.int .u32 (a : Int), .int .u32 (b : Int), .int .u32 (c : Int), .slice A0 n0 c0] w' fun e w'' => e = .returned (.int .u32 ((be4 (shaN (numL [a, b, 1, c] ++ fc)) 0 : Nat) : Int)) ∧ Below w'.heap.size w' w'' := fun w' h => bound_any w' la lb lc (rd0.below h) b8 hn (fun ad e => Nat.lt_of_lt_of_le (al0 ad e) h.size)
  have hE : ∀ w', Below W.heap.size W w' → Calls Try.prog 49 #[.int .u32 (a : Int), .int .u32 (b : Int), .int .u32 (c : Int), .slice A0 n0 c0] w' fun e w'' => e = .returned (.int .u32 ((be4 (shaN (numL [a, b, 1, c] ++ fc)) 0 : Nat) : Int)) ∧ Below w'.heap.size w' w'' := fun w' h => rbound_any w' la lb lc (rd0.below h) b8 hn
  rw [hX] at hN hM
  rw [hY] at hC hD
  rw [hZ] at hB hE
  clear hX hY hZ hS0
  go_upto_region 3 with (fail)
  (refine region_told _ (by kernel_rfl) (by kernel_rfl) (by simp only [putAll, Act.put, List.setIfInBounds_toArray, List.set_cons_zero, List.set_cons_succ, Nat.reduceAdd]; rfl) ?_)
  (refine told_step (fun v _ => v = _) (Stays.eq _) (by intro y w' hw' hd; simp only [depsOf, updG, Region.binds, Nat.reduceAdd, Nat.reduceEqDiff, if_false, if_true, and_true, true_and, forall_const, Array.toList, GTrue] at hd; (try go_split_ands); unfold toldAt; go_simp; refine ⟨Below.refl _ _, ?_⟩; exact kalive_any w') ?_)
  repeat (refine told_step (fun v _ => v = _) (Stays.eq _) (by intro y w' hw' hd; simp only [depsOf, updG, Region.binds, Nat.reduceAdd, Nat.reduceEqDiff, if_false, if_true, and_true, true_and, forall_const, Array.toList, GTrue] at hd; (try go_split_ands); unfold toldAt; go_simp; exact ⟨Below.refl _ _, rfl⟩) ?_)
  (refine told_step (GRd .u8 16 S) ( GRd.stays _ _ _) (by intro y w' hw' hd; simp only [depsOf, updG, Region.binds, Nat.reduceAdd, Nat.reduceEqDiff, if_false, if_true, and_true, true_and, forall_const, Array.toList, GTrue] at hd; (try go_split_ands); unfold toldAt; go_simp; refine ⟨Below.refl _ _, ?_⟩;  exact (hS w').mono (by rintro e w4 ⟨A4, c4, rfl, r4, b4⟩; exact ⟨_, rfl, b4, _, _, rfl, r4⟩)) ?_)
  (refine told_step (fun v _ => v = _) (Stays.eq _) (by intro y w' hw' hd; simp only [depsOf, updG, Region.binds, Nat.reduceAdd, Nat.reduceEqDiff, if_false, if_true, and_true, true_and, forall_const, Array.toList, GTrue] at hd; obtain ⟨⟨A4, c4, e4, r4⟩, d4⟩ := hd; have z4 := conv_rd r4; unfold toldAt; go_simp; exact ⟨Below.refl _ _, rfl⟩) ?_)
  repeat (refine told_step (fun v _ => v = _) (Stays.eq _) (by intro y w' hw' hd; simp only [depsOf, updG, Region.binds, Nat.reduceAdd, Nat.reduceEqDiff, if_false, if_true, and_true, true_and, forall_const, Array.toList, GTrue] at hd; (try go_split_ands); unfold toldAt; go_simp; exact ⟨Below.refl _ _, rfl⟩) ?_)
  (refine told_step (GRd .u8 16 S) ( GRd.stays _ _ _) (by intro y w' hw' hd; simp only [depsOf, updG, Region.binds, Nat.reduceAdd, Nat.reduceEqDiff, if_false, if_true, and_true, true_and, forall_const, Array.toList, GTrue] at hd; (try go_split_ands); unfold toldAt; go_simp; refine ⟨Below.refl _ _, ?_⟩;  exact (hR w').mono (by rintro e w4 ⟨A4, c4, rfl, r4, b4⟩; exact ⟨_, rfl, b4, _, _, rfl, r4⟩)) ?_)
  (refine told_step (fun v _ => v = _) (Stays.eq _) (by intro y w' hw' hd; simp only [depsOf, updG, Region.binds, Nat.reduceAdd, Nat.reduceEqDiff, if_false, if_true, and_true, true_and, forall_const, Array.toList, GTrue] at hd; obtain ⟨⟨A4, c4, e4, r4⟩, d4⟩ := hd; have z4 := conv_rd r4; unfold toldAt; go_simp; exact ⟨Below.refl _ _, rfl⟩) ?_)
  repeat (refine told_step (fun v _ => v = _) (Stays.eq _) (by intro y w' hw' hd; simp only [depsOf, updG, Region.binds, Nat.reduceAdd, Nat.reduceEqDiff, if_false, if_true, and_true, true_and, forall_const, Array.toList, GTrue] at hd; (try go_split_ands); unfold toldAt; go_simp; exact ⟨Below.refl _ _, rfl⟩) ?_)
  (refine told_step (fun v _ => v = _) (Stays.eq _) (by intro y w' hw' hd; simp only [depsOf, updG, Region.binds, Nat.reduceAdd, Nat.reduceEqDiff, if_false, if_true, and_true, true_and, forall_const, Array.toList, GTrue] at hd; (try go_split_ands); unfold toldAt; go_simp; refine ⟨Below.refl _ _, ?_⟩; exact hN w') ?_)
  repeat (refine told_step (fun v _ => v = _) (Stays.eq _) (by intro y w' hw' hd; simp only [depsOf, updG, Region.binds, Nat.reduceAdd, Nat.reduceEqDiff, if_false, if_true, and_true, true_and, forall_const, Array.toList, GTrue] at hd; (try go_split_ands); unfold toldAt; go_simp; exact ⟨Below.refl _ _, rfl⟩) ?_)
  (refine told_step (fun v _ => v = _) (Stays.eq _) (by intro y w' hw' hd; simp only [depsOf, updG, Region.binds, Nat.reduceAdd, Nat.reduceEqDiff, if_false, if_true, and_true, true_and, forall_const, Array.toList, GTrue] at hd; (try go_split_ands); unfold toldAt; go_simp; refine ⟨Below.refl _ _, ?_⟩; exact hM w') ?_)
  repeat (refine told_step (fun v _ => v = _) (Stays.eq _) (by intro y w' hw' hd; simp only [depsOf, updG, Region.binds, Nat.reduceAdd, Nat.reduceEqDiff, if_false, if_true, and_true, true_and, forall_const, Array.toList, GTrue] at hd; (try go_split_ands); unfold toldAt; go_simp; exact ⟨Below.refl _ _, rfl⟩) ?_)
  (refine told_step (fun v _ => v = _) (Stays.eq _) (by intro y w' hw' hd; simp only [depsOf, updG, Region.binds, Nat.reduceAdd, Nat.reduceEqDiff, if_false, if_true, and_true, true_and, forall_const, Array.toList, GTrue] at hd; (try go_split_ands); unfold toldAt; go_simp; refine ⟨Below.refl _ _, ?_⟩; exact hC w') ?_)
  repeat (refine told_step (fun v _ => v = _) (Stays.eq _) (by intro y w' hw' hd; simp only [depsOf, updG, Region.binds, Nat.reduceAdd, Nat.reduceEqDiff, if_false, if_true, and_true, true_and, forall_const, Array.toList, GTrue] at hd; (try go_split_ands); unfold toldAt; go_simp; exact ⟨Below.refl _ _, rfl⟩) ?_)
  (refine told_step (fun v _ => v = _) (Stays.eq _) (by intro y w' hw' hd; simp only [depsOf, updG, Region.binds, Nat.reduceAdd, Nat.reduceEqDiff, if_false, if_true, and_true, true_and, forall_const, Array.toList, GTrue] at hd; (try go_split_ands); unfold toldAt; go_simp; refine ⟨Below.refl _ _, ?_⟩; exact hD w') ?_)
  repeat (refine told_step (fun v _ => v = _) (Stays.eq _) (by intro y w' hw' hd; simp only [depsOf, updG, Region.binds, Nat.reduceAdd, Nat.reduceEqDiff, if_false, if_true, and_true, true_and, forall_const, Array.toList, GTrue] at hd; (try go_split_ands); unfold toldAt; go_simp; exact ⟨Below.refl _ _, rfl⟩) ?_)
  (refine told_step (fun v _ => v = _) (Stays.eq _) (by intro y w' hw' hd; simp only [depsOf, updG, Region.binds, Nat.reduceAdd, Nat.reduceEqDiff, if_false, if_true, and_true, true_and, forall_const, Array.toList, GTrue] at hd; (try go_split_ands); unfold toldAt; go_simp; refine ⟨Below.refl _ _, ?_⟩; exact hB w' hw') ?_)
  repeat (refine told_step (fun v _ => v = _) (Stays.eq _) (by intro y w' hw' hd; simp only [depsOf, updG, Region.binds, Nat.reduceAdd, Nat.reduceEqDiff, if_false, if_true, and_true, true_and, forall_const, Array.toList, GTrue] at hd; (try go_split_ands); unfold toldAt; go_simp; exact ⟨Below.refl _ _, rfl⟩) ?_)
  (refine told_step (fun v _ => v = _) (Stays.eq _) (by intro y w' hw' hd; simp only [depsOf, updG, Region.binds, Nat.reduceAdd, Nat.reduceEqDiff, if_false, if_true, and_true, true_and, forall_const, Array.toList, GTrue] at hd; (try go_split_ands); unfold toldAt; go_simp; refine ⟨Below.refl _ _, ?_⟩; exact hE w' hw') ?_)
  repeat (refine told_step (fun v _ => v = _) (Stays.eq _) (by intro y w' hw' hd; simp only [depsOf, updG, Region.binds, Nat.reduceAdd, Nat.reduceEqDiff, if_false, if_true, and_true, true_and, forall_const, Array.toList, GTrue] at hd; (try go_split_ands); unfold toldAt; go_simp; exact ⟨Below.refl _ _, rfl⟩) ?_)
  (refine told_nil ?_; intro y w' hw' hd; replace hd := hd 53 (by decide); simp only [updG, Nat.reduceAdd, Nat.reduceEqDiff, if_false, if_true] at hd)
  go_wp2_with fail
  go_ret
  exact ⟨rfl, hw'⟩
end Go.Proofs.Ytiimflmbcgnbeaa
