/- Over ways that take as long there as back the offset is just right, and a clock that was never set is set to just the other one's time: the walk. -/
import Derived.Test.YteemglgbhdpodaaY6
namespace Go.Proofs.Yteemglgbhdpodaa
set_option linter.unusedSimpArgs false
set_option linter.unusedVariables false
set_option maxRecDepth 100000
open Go.RowKit
attribute [local go_sem] toldUpon_value toldUpon_skip toldUpon_enter

theorem smN_smN (n : Int) : smN (smN n) = smN n := by unfold smN; omega
theorem and15 (n : Int) : Go.bits .and .i64 n 15 = n % 16 := by
  rw [bits_and64, show ((15 : Int) % 18446744073709551616).toNat = 2 ^ 4 - 1 by decide, Nat.and_two_pow_sub_one_eq_mod, IntKind.wrap_i64]
  omega
set_option maxRecDepth 100000 in
set_option maxHeartbeats 2000000 in
theorem walk_TopSets (t o way wait poll : Int) (w : World) (h0 : (Lit.int .u64 t).wf = true) (_h1 : (Lit.int .i64 o).wf = true) (_h2 : (Lit.int .i64 way).wf = true) (_h3 : (Lit.int .i64 wait).wf = true) (_h4 : (Lit.int .i64 poll).wf = true) :
    Calls Try.prog 5 #[.int .u64 t, .int .i64 o, .int .i64 way, .int .i64 wait, .int .i64 poll] w fun e w' => e = .returned (.bool true) ∧ Below w.heap.size w w' := by
  obtain ⟨t0, t1⟩ := bounds_u64 h0
  replace t1 : t < 18446744073709551616 := by omega
  have HN := Lib.hid (fun w => nr_any w o)
  have HW := Lib.hid (fun w => some_any w way)
  have HV := Lib.hid (fun w => some_any w wait)
  have hP := and15 poll
  have p0 : 0 ≤ poll % 16 := by omega
  have p1 : poll % 16 ≤ 17 := by omega
  obtain ⟨o0, o1⟩ := nrN_bd o
  obtain ⟨w0, w1⟩ := smN_bd way
  obtain ⟨v0, v1⟩ := smN_bd wait
  have hss := smN_smN way
  generalize poll % 16 = P at hP p0 p1
  generalize smN wait = V at HV v0 v1
  generalize nrN o = O at HN o0 o1
  generalize smN way = W at HW w0 w1 hss
  have hs := fun w => sample_any (a := W) (b := wait) (c := W) w t0 t1 o0 o1
  rw [hss, show (W + 2 * O - W) / 2 = O by omega] at hs
  have HS := Lib.hid hs
  clear hs hss
  have i1 : IntKind.i64.wrap (2 * W) = 2 * W := IntWalk.i64_in _ (by omega)
  have i2 : IntKind.i64.wrap (2 * W + V) = 2 * W + V := IntWalk.i64_in _ (by omega)
  have e2 : W + W = 2 * W := by omega
  obtain ⟨T4, h4⟩ : ∃ r, (t + (2 * W + V)) % 18446744073709551616 = r := ⟨_, rfl⟩
  obtain ⟨T5, h5⟩ : ∃ r, (T4 + O) % 18446744073709551616 = r := ⟨_, rfl⟩
  have M4 := Lib.hid (fun w => move_any w h4)
  have M5 := Lib.hid (fun w => move_any w h5)
  have HD := Lib.hid (fun w => diff_any (a := T5) (b := T4) (r := O) w (by omega) (by omega) (by omega))
  have HU := Lib.hid (fun w => update_set w P O p0 p1 (by omega) (by omega))
  clear h4 h5
  go_enter Try.func5, Try.ntmps5
  go_upto_region 3 with (first
    | (go_at_call 16; (with_reducible refine (HN.out _).mono ?_); rintro e w1 ⟨rfl, rfl⟩)
    | (go_at_call 17; (with_reducible refine (HW.out _).mono ?_); rintro e w1 ⟨rfl, rfl⟩)
    | (go_at_call 22; (with_reducible refine (HS.out _).mono ?_); rintro e w2 ⟨rfl, hb2⟩; have HB2 := Lib.hid hb2; clear hb2))
  have HK3 := Lib.hid (Bk.new w2 56 #[.int .i64 O, .int .i64 (2 * W), .int .i64 0, .int .i64 0])
  have HB3 := Lib.hid (HB2.out.alloc HB2.out.size (.cells #[.int .i64 O, .int .i64 (2 * W), .int .i64 0, .int .i64 0] 56))
  generalize w2.alloc (.cells #[.int .i64 O, .int .i64 (2 * W), .int .i64 0, .int .i64 0] 56) = w3 at HK3 HB3 ⊢
  generalize w2.heap.size = gs at HK3 ⊢
  have c0 : w3.cell? ⟨gs, 0, none⟩ = some (.int .i64 O) := HK3.out.cell 0
  clear HB2
  go_upto_region 5 with (first
    | (go_at_call 17; (with_reducible refine (HV.out _).mono ?_); rintro e w1 ⟨rfl, rfl⟩)
    | (go_at_call 23; (with_reducible refine (M4.out _).mono ?_); rintro e w1 ⟨rfl, rfl⟩)
    | (go_at_call 24; (with_reducible refine (HU.out _).mono ?_); rintro e w4 ⟨rfl, hb4⟩; have HB4 := Lib.hid (HB3.out.trans (hb4.mono HB3.out.size)); have HK4 := Lib.hid (HK3.out.below hb4 HK3.out.lt); clear hb4))
  have HC5 := Lib.hid (show Bk ((w4.alloc (.cells #[.int .i64 0, .int .i64 0, .int .i64 0, .int .i64 P, .bool true] 62)).alloc (.cells #[.int .i64 1, .int .i64 O] 64)) w4.heap.size 62 #[.int .i64 0, .int .i64 0, .int .i64 0, .int .i64 P, .bool true] from (Bk.new _ _ _).alloc _)
  have HT5 := Lib.hid (show Bk ((w4.alloc (.cells #[.int .i64 0, .int .i64 0, .int .i64 0, .int .i64 P, .bool true] 62)).alloc (.cells #[.int .i64 1, .int .i64 O] 64)) (w4.heap.size + 1) 64 #[.int .i64 1, .int .i64 O] from Bk.at_new _ _ (by simp))
  have HS5 := Lib.hid ((HK4.out.alloc (.cells #[.int .i64 0, .int .i64 0, .int .i64 0, .int .i64 P, .bool true] 62)).alloc (.cells #[.int .i64 1, .int .i64 O] 64))
  have HB5 := Lib.hid ((HB4.out.alloc HB4.out.size (.cells #[.int .i64 0, .int .i64 0, .int .i64 0, .int .i64 P, .bool true] 62)).alloc (by have := HB4.out.size; simp; omega) (.cells #[.int .i64 1, .int .i64 O] 64))
  generalize (w4.alloc (.cells #[.int .i64 0, .int .i64 0, .int .i64 0, .int .i64 P, .bool true] 62)).alloc (.cells #[.int .i64 1, .int .i64 O] 64) = w5 at HC5 HT5 HS5 HB5 ⊢
  generalize w4.heap.size = gc at HC5 HT5 ⊢
  have z0 : ∀ w', Below w5.heap.size w5 w' → w'.cell? ⟨gs, 0, none⟩ = some (.int .i64 O) := fun w' h => (HS5.out.below h HS5.out.lt).cell 0
  have z1 : ∀ w', Below w5.heap.size w5 w' → w'.cell? ⟨gs, 1, none⟩ = some (.int .i64 (2 * W)) := fun w' h => (HS5.out.below h HS5.out.lt).cell 1
  have y0 : ∀ w', Below w5.heap.size w5 w' → w'.cell? ⟨gc + 1, 0, none⟩ = some (.int .i64 1) := fun w' h => (HT5.out.below h HT5.out.lt).cell 0
  have y1 : ∀ w', Below w5.heap.size w5 w' → w'.cell? ⟨gc + 1, 1, none⟩ = some (.int .i64 O) := fun w' h => (HT5.out.below h HT5.out.lt).cell 1
  have x4 : ∀ w', Below w5.heap.size w5 w' → w'.cell? ⟨gc, 4, none⟩ = some (.bool true) := fun w' h => (HC5.out.below h HC5.out.lt).cell 4
  have hsz := HB5.out.size
  clear c0 HK3 HK4 HB3 HB4
  (refine region_told _ (by kernel_rfl) (by kernel_rfl) (by simp only [putAll, Act.put, List.setIfInBounds_toArray, List.set_cons_zero, List.set_cons_succ, Nat.reduceAdd]; rfl) ?_)
  (refine told_step (fun v _ => v = _) (Stays.eq _) (by intro y w' hw' hd; simp only [depsOf, updG, Region.binds, Nat.reduceAdd, Nat.reduceEqDiff, if_false, if_true, and_true, true_and, forall_const, Array.toList, GTrue] at hd; (try go_split_ands); unfold toldAt; go_simp; refine ⟨Below.refl _ _, ?_⟩; exact alive8_any w') ?_)
  repeat (refine told_step (fun v _ => v = _) (Stays.eq _) (by intro y w' hw' hd; simp only [depsOf, updG, Region.binds, Nat.reduceAdd, Nat.reduceEqDiff, if_false, if_true, and_true, true_and, forall_const, Array.toList, GTrue] at hd; (try go_split_ands); unfold toldAt; go_simp; exact ⟨Below.refl _ _, rfl⟩) ?_)
  (refine told_step (fun v _ => v = .int .u64 T5) (Stays.eq _) (by intro y w' hw' hd; simp only [depsOf, updG, Region.binds, Nat.reduceAdd, Nat.reduceEqDiff, if_false, if_true, and_true, true_and, forall_const, Array.toList, GTrue] at hd; (try go_split_ands); unfold toldAt; go_simp; exact ⟨Below.refl _ _, quietW (M5.out w')⟩) ?_)
  repeat (refine told_step (fun v _ => v = _) (Stays.eq _) (by intro y w' hw' hd; simp only [depsOf, updG, Region.binds, Nat.reduceAdd, Nat.reduceEqDiff, if_false, if_true, and_true, true_and, forall_const, Array.toList, GTrue] at hd; (try go_split_ands); unfold toldAt; go_simp; exact ⟨Below.refl _ _, rfl⟩) ?_)
  (refine told_step (fun v _ => v = .int .i64 O) (Stays.eq _) (by intro y w' hw' hd; simp only [depsOf, updG, Region.binds, Nat.reduceAdd, Nat.reduceEqDiff, if_false, if_true, and_true, true_and, forall_const, Array.toList, GTrue] at hd; (try go_split_ands); unfold toldAt; go_simp; exact ⟨Below.refl _ _, quietW (HD.out w')⟩) ?_)
  repeat (refine told_step (fun v _ => v = _) (Stays.eq _) (by intro y w' hw' hd; simp only [depsOf, updG, Region.binds, Nat.reduceAdd, Nat.reduceEqDiff, if_false, if_true, and_true, true_and, forall_const, Array.toList, GTrue] at hd; (try go_split_ands); unfold toldAt; go_simp; exact ⟨Below.refl _ _, rfl⟩) ?_)
  (refine told_nil ?_; intro y w6 hw6 hd)
  have e38 : y 38 = .bool true := hd 38 (by decide)
  rw [e38]
  clear hd e38 z0 z1 y0 y1 x4
  have HB6 := Lib.hid (HB5.out.trans (hw6.mono hsz))
  clear hw6
  go_wp2_with fail
  go_ret
  exact ⟨rfl, HB6.out⟩
end Go.Proofs.Yteemglgbhdpodaa
