/- Pairs of numbers; a shelf that is nil, or that no call made: the walk. -/
import Derived.Test.YtkmabfdnekphnaaJb
namespace Go.Proofs.Ytkmabfdnekphnaa
set_option linter.unusedSimpArgs false
set_option linter.unusedVariables false
set_option maxRecDepth 100000
open Go.RowKit Go.Deep
attribute [local go_sem] toldUpon_value toldUpon_skip toldUpon_enter

theorem put_nil (w : World) (s : Int) (v : Vl) : Calls Try.prog 11 #[.pointer none, .int .i64 s, vv v] w fun e w' => e = .returned (.int .i64 6) ∧ Below w.heap.size w w' := by
  have hM := fun w => made_nil w
  obtain ⟨ts, fs, vA, vn, vc, ds, vB, vm, vd, ss⟩ := v
  unfold vv
  go_enter Try.func11, Try.ntmps11
  go_wp2_with (go_at_call 26; refine (hM _).mono ?_; rintro e w2 ⟨rfl, rfl⟩)
  go_ret
  exact ⟨rfl, (Below.refl _ _).alloc (Nat.le_refl _) _⟩
theorem put_unmade (w : World) {g : Nat} {room : Int} (h : Bk w g 54 #[.int .i64 room, .map none]) (s : Int) (v : Vl) : Calls Try.prog 11 #[.pointer (some ⟨g, 0, none⟩), .int .i64 s, vv v] w fun e w' => e = .returned (.int .i64 6) ∧ Below w.heap.size w w' := by
  have hM := fun o => made_zero (w.alloc o) (h.alloc o)
  obtain ⟨ts, fs, vA, vn, vc, ds, vB, vm, vd, ss⟩ := v
  unfold vv
  clear h
  go_enter Try.func11, Try.ntmps11
  go_wp2_with (go_at_call 26; refine (hM _).mono ?_; rintro e w2 ⟨rfl, rfl⟩)
  go_ret
  exact ⟨rfl, (Below.refl _ _).alloc (Nat.le_refl _) _⟩
theorem sorts_nil (w : World) : Calls Try.prog 19 #[.pointer none] w fun e w' => e = .returned (.slice none 0 0) ∧ Below w.heap.size w w' := by
  have hM := fun w => made_nil w
  go_enter Try.func19, Try.ntmps19
  go_wp2_with (go_at_call 26; refine (hM _).mono ?_; rintro e w2 ⟨rfl, rfl⟩)
  go_ret
  exact ⟨rfl, Below.refl _ _⟩
theorem sorts_unmade (w : World) {g : Nat} {room : Int} (h : Bk w g 54 #[.int .i64 room, .map none]) : Calls Try.prog 19 #[.pointer (some ⟨g, 0, none⟩)] w fun e w' => e = .returned (.slice none 0 0) ∧ Below w.heap.size w w' := by
  have hM := made_zero w h
  clear h
  go_enter Try.func19, Try.ntmps19
  go_wp2_with (go_at_call 26; refine hM.mono ?_; rintro e w2 ⟨rfl, rfl⟩)
  go_ret
  exact ⟨rfl, Below.refl _ _⟩
set_option maxHeartbeats 4000000 in
theorem walk_ValuesPairs (a b : Nat) (A : Option Addr) (n c : Nat) (xs : List Nat) (s : Int) (w : World) (ha : a < 4294967296) (hb : b < 4294967296) (h : Rd .u8 w A n c xs) (hx : ∀ x ∈ xs, x < 256) : Calls Try.prog 6 #[.int .u32 (a : Int), .int .u32 (b : Int), .slice A n c, .int .i64 s] w fun e w' => e = .returned (.bool true) ∧ Below w.heap.size w w' := by
  have hAl := fun w => valive_any w
  by_cases h1 : (100 : Int) < (n : Int)
  · clear h hx ha hb
    go_enter Try.func6, Try.ntmps6
    go_wp2_with (go_at_call 8; refine (hAl _).mono ?_; rintro e w3 ⟨rfl, hb3⟩)
    go_ret
    exact ⟨rfl, hb3⟩
  · have hPO := pairof_any w h hx
    have hRO := rpairof_any w h hx
    obtain ⟨P, hP⟩ : ∃ x : Nat, (if n = 8 then beN xs / 4294967296 else 0) = x := ⟨_, rfl⟩
    obtain ⟨Q, hQ⟩ : ∃ x : Nat, (if n = 8 then beN xs % 4294967296 else 0) = x := ⟨_, rfl⟩
    obtain ⟨R, hR⟩ : ∃ x : Int, (if n = 8 then 0 else 3) = x := ⟨_, rfl⟩
    rw [hP, hQ, hR] at hPO hRO
    clear hP hQ hR h hx
    have hd : decide ((100 : Int) < (n : Int)) = false := decide_eq_false h1
    clear h1
    have hGN := fun w => get_nil w s
    have hPa := fun w => pair_any w a b ha hb
    have hRP := fun w => rpair_any w a b ha hb
    have hPN := fun w => put_nil w s z0
    have hSN := fun w => sorts_nil w
    rw [vv_z0] at hPN hGN
    generalize hXS : fourN a ++ fourN b = XS at hPa hRP
    clear hXS ha hb
    unfold ROWu8 at hPa hRP
    go_enter Try.func6, Try.ntmps6
    go_upto_region 7 with (first
      | (go_at_call 21; refine hPO.mono ?_; rintro e w1 ⟨rfl, rfl⟩)
      | (go_at_call 22; refine hRO.mono ?_; rintro e w1 ⟨rfl, rfl⟩))
    obtain ⟨w2, hw2⟩ : ∃ z, w.alloc (.cells #[.int .i64 0, .map none] 54) = z := ⟨_, rfl⟩
    have hb2 : Below w.heap.size w w2 := by rw [← hw2]; exact (Below.refl _ _).alloc (Nat.le_refl _) _
    have k2 : Bk w2 w.heap.size 54 #[.int .i64 0, .map none] := by rw [← hw2]; exact Bk.new w _ _
    rw [hw2]
    clear hw2
    have hGU := fun w' (h : Below w2.heap.size w2 w') => get_unmade w' (k2.below h k2.lt) s
    have hPU := fun w' (h : Below w2.heap.size w2 w') => put_unmade w' (k2.below h k2.lt) s z0
    have hSU := fun w' (h : Below w2.heap.size w2 w') => sorts_unmade w' (k2.below h k2.lt)
    rw [vv_z0] at hGU hPU
    have HB2 := Lib.hid hb2
    clear k2 hPO hRO hb2
    go_upto_region 8 with (go_at_call 12; refine (hGN _).mono ?_; rintro e w3 ⟨rfl, hb3⟩)
    obtain ⟨w4, hw4⟩ : ∃ z, w3.alloc (.cells #[.int .u32 0, .int .u32 0, .slice none 0 0, .slice none 0 0] 25) = z := ⟨_, rfl⟩
    have hb4 : Below w3.heap.size w3 w4 := by rw [← hw4]; exact (Below.refl _ _).alloc (Nat.le_refl _) _
    rw [hw4]
    have h24 := hb3.trans (hb4.mono hb3.size)
    have hGU4 := hGU w4 h24
    have H24 := Lib.hid h24
    clear hw4 hb3 hb4 h24 hGU hGN
    go_upto_region 9 with (go_at_call 12; refine hGU4.mono ?_; rintro e w5 ⟨rfl, hb5⟩)
    obtain ⟨w6, hw6⟩ : ∃ z, w5.alloc (.cells #[.int .u32 0, .int .u32 0, .slice none 0 0, .slice none 0 0] 25) = z := ⟨_, rfl⟩
    have hb6 : Below w5.heap.size w5 w6 := by rw [← hw6]; exact (Below.refl _ _).alloc (Nat.le_refl _) _
    rw [hw6]
    have h26 := H24.out.trans ((hb5.trans (hb6.mono hb5.size)).mono H24.out.size)
    have hPU6 := fun w' (h : Below w6.heap.size w6 w') => hPU w' (h26.trans (h.mono h26.size))
    have hSU6 := fun w' (h : Below w6.heap.size w6 w') => hSU w' (h26.trans (h.mono h26.size))
    have HB6 := Lib.hid (HB2.out.trans (h26.mono HB2.out.size))
    clear hw6 hb5 hb6 h26 hGU4 hPU hSU
    (refine region_told _ (by kernel_rfl) (by kernel_rfl) (by simp only [putAll, Act.put, List.setIfInBounds_toArray, List.set_cons_zero, List.set_cons_succ, Nat.reduceAdd]; rfl) ?_)
    (refine told_step (fun v _ => v = _) (Stays.eq _) (by intro y w' hw' hd; simp only [depsOf, updG, Region.binds, Nat.reduceAdd, Nat.reduceEqDiff, if_false, if_true, and_true, true_and, forall_const, Array.toList, GTrue] at hd; (try go_split_ands); unfold toldAt; go_simp; refine ⟨Below.refl _ _, ?_⟩; exact hAl w') ?_)
    iterate 3 (refine told_step (fun v _ => v = _) (Stays.eq _) (by intro y w' hw' hd; simp only [depsOf, updG, Region.binds, Nat.reduceAdd, Nat.reduceEqDiff, if_false, if_true, and_true, true_and, forall_const, Array.toList, GTrue] at hd; (try go_split_ands); unfold toldAt; go_simp; exact ⟨Below.refl _ _, rfl⟩) ?_)
    (refine told_step (GRd .u8 8 XS) (GRd.stays _ _ _) (by intro y w' hw' hd; simp only [depsOf, updG, Region.binds, Nat.reduceAdd, Nat.reduceEqDiff, if_false, if_true, and_true, true_and, forall_const, Array.toList, GTrue] at hd; (try go_split_ands); unfold toldAt; go_simp; refine ⟨Below.refl _ _, ?_⟩; exact (hPa w').mono fun e w'' ⟨A', c', he, ho, hb⟩ => ⟨_, he, hb, A', c', rfl, ho.rd⟩) ?_)
    (refine told_step (fun v _ => v = .string (btx XS)) (Stays.eq _) (by intro y w' hw' hd; simp only [depsOf, updG, Region.binds, Nat.reduceAdd, Nat.reduceEqDiff, if_false, if_true, and_true, true_and, forall_const, Array.toList, GTrue] at hd; (try go_split_ands); (have hg : GRd .u8 8 XS (y 4) w' := by assumption); obtain ⟨A4, c4, e4, r4⟩ := hg; have hcv := conv_btx r4; unfold toldAt; go_simp; exact Below.refl _ _) ?_)
    iterate 2 (refine told_step (fun v _ => v = _) (Stays.eq _) (by intro y w' hw' hd; simp only [depsOf, updG, Region.binds, Nat.reduceAdd, Nat.reduceEqDiff, if_false, if_true, and_true, true_and, forall_const, Array.toList, GTrue] at hd; (try go_split_ands); unfold toldAt; go_simp; exact ⟨Below.refl _ _, rfl⟩) ?_)
    (refine told_step (GRd .u8 8 XS) (GRd.stays _ _ _) (by intro y w' hw' hd; simp only [depsOf, updG, Region.binds, Nat.reduceAdd, Nat.reduceEqDiff, if_false, if_true, and_true, true_and, forall_const, Array.toList, GTrue] at hd; (try go_split_ands); unfold toldAt; go_simp; refine ⟨Below.refl _ _, ?_⟩; exact (hRP w').mono fun e w'' ⟨A', c', he, ho, hb⟩ => ⟨_, he, hb, A', c', rfl, ho.rd⟩) ?_)
    (refine told_step (fun v _ => v = .string (btx XS)) (Stays.eq _) (by intro y w' hw' hd; simp only [depsOf, updG, Region.binds, Nat.reduceAdd, Nat.reduceEqDiff, if_false, if_true, and_true, true_and, forall_const, Array.toList, GTrue] at hd; (try go_split_ands); (have hg : GRd .u8 8 XS (y 8) w' := by assumption); obtain ⟨A4, c4, e4, r4⟩ := hg; have hcv := conv_btx r4; unfold toldAt; go_simp; exact Below.refl _ _) ?_)
    iterate 29 (refine told_step (fun v _ => v = _) (Stays.eq _) (by intro y w' hw' hd; simp only [depsOf, updG, Region.binds, Nat.reduceAdd, Nat.reduceEqDiff, if_false, if_true, and_true, true_and, forall_const, Array.toList, GTrue] at hd; (try go_split_ands); unfold toldAt; go_simp; exact ⟨Below.refl _ _, rfl⟩) ?_)
    (refine told_step (fun v _ => v = _) (Stays.eq _) (by intro y w' hw' hd; simp only [depsOf, updG, Region.binds, Nat.reduceAdd, Nat.reduceEqDiff, if_false, if_true, and_true, true_and, forall_const, Array.toList, GTrue] at hd; (try go_split_ands); unfold toldAt; go_simp; refine ⟨Below.refl _ _, ?_⟩; exact hPN w') ?_)
    iterate 5 (refine told_step (fun v _ => v = _) (Stays.eq _) (by intro y w' hw' hd; simp only [depsOf, updG, Region.binds, Nat.reduceAdd, Nat.reduceEqDiff, if_false, if_true, and_true, true_and, forall_const, Array.toList, GTrue] at hd; (try go_split_ands); unfold toldAt; go_simp; exact ⟨Below.refl _ _, rfl⟩) ?_)
    (refine told_step (fun v _ => v = _) (Stays.eq _) (by intro y w' hw' hd; simp only [depsOf, updG, Region.binds, Nat.reduceAdd, Nat.reduceEqDiff, if_false, if_true, and_true, true_and, forall_const, Array.toList, GTrue] at hd; (try go_split_ands); unfold toldAt; go_simp; refine ⟨Below.refl _ _, ?_⟩; exact hPU6 w' hw') ?_)
    iterate 4 (refine told_step (fun v _ => v = _) (Stays.eq _) (by intro y w' hw' hd; simp only [depsOf, updG, Region.binds, Nat.reduceAdd, Nat.reduceEqDiff, if_false, if_true, and_true, true_and, forall_const, Array.toList, GTrue] at hd; (try go_split_ands); unfold toldAt; go_simp; exact ⟨Below.refl _ _, rfl⟩) ?_)
    (refine told_step (fun v _ => v = _) (Stays.eq _) (by intro y w' hw' hd; simp only [depsOf, updG, Region.binds, Nat.reduceAdd, Nat.reduceEqDiff, if_false, if_true, and_true, true_and, forall_const, Array.toList, GTrue] at hd; (try go_split_ands); unfold toldAt; go_simp; refine ⟨Below.refl _ _, ?_⟩; exact hSN w') ?_)
    (refine told_step (fun v _ => v = _) (Stays.eq _) (by intro y w' hw' hd; simp only [depsOf, updG, Region.binds, Nat.reduceAdd, Nat.reduceEqDiff, if_false, if_true, and_true, true_and, forall_const, Array.toList, GTrue] at hd; (try go_split_ands); unfold toldAt; go_simp; exact ⟨Below.refl _ _, rfl⟩) ?_)
    (refine told_step (fun v _ => v = _) (Stays.eq _) (by intro y w' hw' hd; simp only [depsOf, updG, Region.binds, Nat.reduceAdd, Nat.reduceEqDiff, if_false, if_true, and_true, true_and, forall_const, Array.toList, GTrue] at hd; (try go_split_ands); unfold toldAt; go_simp; refine ⟨Below.refl _ _, ?_⟩; exact hSU6 w' hw') ?_)
    iterate 5 (refine told_step (fun v _ => v = _) (Stays.eq _) (by intro y w' hw' hd; simp only [depsOf, updG, Region.binds, Nat.reduceAdd, Nat.reduceEqDiff, if_false, if_true, and_true, true_and, forall_const, Array.toList, GTrue] at hd; (try go_split_ands); unfold toldAt; go_simp; exact ⟨Below.refl _ _, rfl⟩) ?_)
    (refine told_nil ?_; intro y w7 hw7 hd7)
    have e57 : y 57 = .bool true := hd7 57 (by decide)
    rw [e57]
    have HB7 := Lib.hid (HB6.out.trans (hw7.mono HB6.out.size))
    clear hd7 e57 hw7
    go_wp2_with fail
    go_ret
    exact ⟨rfl, HB7.out⟩
end Go.Proofs.Ytkmabfdnekphnaa
