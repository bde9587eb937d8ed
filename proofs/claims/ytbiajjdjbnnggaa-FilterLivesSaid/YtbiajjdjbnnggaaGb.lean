/- Dispersion of a row: the document's answer. -/
import Derived.Test.YtbiajjdjbnnggaaG9
namespace Go.Proofs.Ytbiajjdjbnnggaa
set_option linter.unusedSimpArgs false
set_option linter.unusedVariables false
set_option maxRecDepth 100000
open Go.RowKit
attribute [local go_sem] toldUpon_value toldUpon_skip toldUpon_enter

set_option maxHeartbeats 4000000 in
theorem rdisp_gen (w : World) (x : Value) (now : Int) (ss : List Smp) (hm : ∀ j, j < ss.length → mayB (rg ss j) = true) (hl8 : ss.length ≤ 8) (hR : Calls Try.prog 23 #[x, .int .i64 now] w (ROW ss w)) :
    Calls Try.prog 25 #[x, .int .i64 now] w fun e w' => e = .returned (.int .i64 (dispN ss now)) ∧ Below w.heap.size w w' := by
  unfold ROW at hR
  obtain ⟨m, hml⟩ : ∃ m, ss.length = m := ⟨_, rfl⟩
  have HM := Lib.hid hml
  rw [hml] at hR hl8
  have HMAY := Lib.hid hm
  clear hml hm
  go_enter Try.func25, Try.ntmps25
  go_wp2_with (go_at_call 23; refine hR.mono ?_; rintro e w1 ⟨A, c, rfl, hrs, hb1⟩)
  clear hR
  have HB1 := Lib.hid hb1
  have hz1 := hb1.size
  clear hb1
  go_loopw [6, 7, 8] (fun u q i wr => ∃ (t : Nat), t ≤ 8 ∧ i = .int .i64 (t : Int) ∧ u = .int .i64 (dispF ss now t) ∧ q = .int .i64 ((2 ^ (t + 1) : Nat) : Int) ∧ Below w1.heap.size w1 wr) (fun _ _ i _ => 8 - (intOf i).toNat)
  case atStart => exact ⟨0, by omega, rfl, rfl, rfl, Below.refl _ _⟩
  case round =>
    obtain ⟨t, ht, rfl, rfl, rfl, hbel⟩ := hrel
    have hsr := hbel.size
    by_cases hlt : t < 8
    · have a1 : (t : Int) < 8 := by omega
      have i0 : IntKind.i64.wrap ((t : Int) + 1) = (t : Int) + 1 := IntWalk.i64_in _ (by omega)
      have HX := Lib.hid (show dispF ss now (t + 1) = dispF ss now t + xN ss now t / 2 ^ (t + 1) from rfl)
      have HD := Lib.hid (dispF_bd HMAY.out now t)
      have HXB := Lib.hid (xN_bd HMAY.out now t)
      have HBEL := Lib.hid hbel
      generalize dispF ss now t = D at HX HD
      by_cases hm : t < m
      · have a2 : (t : Int) < (m : Int) := by omega
        obtain ⟨g, rfl, hg, hsb⟩ : ∃ g, A = some ⟨g, 0, none⟩ ∧ w.heap.size ≤ g ∧ SB w1 g ss := by
          rcases hrs.1.2 with ⟨_, h⟩ | h
          · omega
          · exact h
        have hXe := (show xN ss now t = (rg ss t).p + agedN (rg ss t) now by unfold xN; rw [if_pos (by rw [HM.out]; exact hm)])
        obtain ⟨_, _, ⟨p1, p2⟩, s1, s2⟩ := mayB_iff.1 (HMAY.out t (by rw [HM.out]; exact hm))
        have hA := fun w => raged_any w (rg ss t) now s1 s2
        obtain ⟨g1, g2⟩ := agedN_bd (rg ss t) now s1 s2
        have C0 : ∀ w', Below wr.heap.size wr w' → w'.cell? ⟨g, t * 4, none⟩ = some (.int .i64 (rg ss t).o) := fun w' h => (((hsb.below hbel).below h).at (by rw [HM.out]; exact hm)).1
        have C1 : ∀ w', Below wr.heap.size wr w' → w'.cell? ⟨g, t * 4 + 1, none⟩ = some (.int .i64 (rg ss t).d) := fun w' h => (((hsb.below hbel).below h).at (by rw [HM.out]; exact hm)).2.1
        have C2 : ∀ w', Below wr.heap.size wr w' → w'.cell? ⟨g, t * 4 + 2, none⟩ = some (.int .i64 (rg ss t).p) := fun w' h => (((hsb.below hbel).below h).at (by rw [HM.out]; exact hm)).2.2.1
        have C3 : ∀ w', Below wr.heap.size wr w' → w'.cell? ⟨g, t * 4 + 3, none⟩ = some (.int .i64 (rg ss t).a) := fun w' h => (((hsb.below hbel).below h).at (by rw [HM.out]; exact hm)).2.2.2
        generalize agedN (rg ss t) now = ag at hA g1 g2 hXe
        generalize rg ss t = s at hA g1 g2 hXe p1 p2 s1 s2 C0 C1 C2 C3
        obtain ⟨xo, xd, xp, xa⟩ := s
        replace p1 : 0 ≤ xp := p1
        replace p2 : xp ≤ 1152921504606846976 := p2
        replace hXe : xN ss now t = xp + ag := hXe
        unfold sv at hA
        have i1 : IntKind.i64.wrap (xp + ag) = xp + ag := IntWalk.i64_in _ (by omega)
        have HXE := Lib.hid hXe
        clear hXe s1 s2 hsb hbel hrs
        have j0 : (0 : Int) ≤ (t : Int) := by omega
        go_upto_region 8 with (fail)
        (refine region_told _ (by kernel_rfl) (by kernel_rfl) (by simp only [putAll, Act.put, List.setIfInBounds_toArray, List.set_cons_zero, List.set_cons_succ, Nat.reduceAdd]; rfl) ?_)
        repeat (refine told_step (fun v _ => v = _) (Stays.eq _) (by intro y w' hw' hd; simp only [depsOf, updG, Region.binds, Nat.reduceAdd, Nat.reduceEqDiff, if_false, if_true, and_true, true_and, forall_const, Array.toList, GTrue] at hd; (try go_split_ands); unfold toldAt; go_simp; exact ⟨Below.refl _ _, rfl⟩) ?_)
        (refine told_step (fun v _ => v = _) (Stays.eq _) (by intro y w' hw' hd; simp only [depsOf, updG, Region.binds, Nat.reduceAdd, Nat.reduceEqDiff, if_false, if_true, and_true, true_and, forall_const, Array.toList, GTrue] at hd; (try go_split_ands); unfold toldAt; go_simp; refine ⟨Below.refl _ _, ?_⟩; exact hA w') ?_)
        repeat (refine told_step (fun v _ => v = _) (Stays.eq _) (by intro y w' hw' hd; simp only [depsOf, updG, Region.binds, Nat.reduceAdd, Nat.reduceEqDiff, if_false, if_true, and_true, true_and, forall_const, Array.toList, GTrue] at hd; (try go_split_ands); unfold toldAt; go_simp; exact ⟨Below.refl _ _, rfl⟩) ?_)
        (refine told_nil ?_; intro y w2 hw2 hd)
        have H12 : y 12 = .int .i64 (xp + ag) := hd 12 (by decide)
        rw [H12]
        clear hd H12 C0 C1 C2 C3
        have HW := Lib.hid (HBEL.out.trans (hw2.mono hsr))
        clear hw2
        rw [← HXE.out]
        have X1 := HXB.out.1
        have X2 := HXB.out.2
        have D1 := HD.out.1
        have D2 := HD.out.2
        generalize xN ss now t = X at X1 X2 HX
        rcases (show t = 0 ∨ t = 1 ∨ t = 2 ∨ t = 3 ∨ t = 4 ∨ t = 5 ∨ t = 6 ∨ t = 7 by omega) with rfl | rfl | rfl | rfl | rfl | rfl | rfl | rfl
        · have i1 : IntKind.i64.wrap (Int.tdiv X 2) = X / 2 := by rw [Int.tdiv_eq_ediv_of_nonneg X1]; exact IntWalk.i64_in _ (by omega)
          have i2 : IntKind.i64.wrap (D + X / 2) = D + X / 2 := IntWalk.i64_in _ (by omega)
          have i3 : ((2 ^ (0 + 1) : Nat) : Int) = 2 := rfl
          rw [i3]
          clear i3
          clear X1 X2 D1 D2
          go_wp2_with fail
          go_roundw
          case rel => exact ⟨1, by omega, by go_num, congrArg (Value.int .i64) (by have := HX.out; simpa using this.symm), by first | rfl | go_num, HW.out⟩
          case measure => simp [intOf]
        · have i1 : IntKind.i64.wrap (Int.tdiv X 4) = X / 4 := by rw [Int.tdiv_eq_ediv_of_nonneg X1]; exact IntWalk.i64_in _ (by omega)
          have i2 : IntKind.i64.wrap (D + X / 4) = D + X / 4 := IntWalk.i64_in _ (by omega)
          have i3 : ((2 ^ (1 + 1) : Nat) : Int) = 4 := rfl
          rw [i3]
          clear i3
          clear X1 X2 D1 D2
          go_wp2_with fail
          go_roundw
          case rel => exact ⟨2, by omega, by go_num, congrArg (Value.int .i64) (by have := HX.out; simpa using this.symm), by first | rfl | go_num, HW.out⟩
          case measure => simp [intOf]
        · have i1 : IntKind.i64.wrap (Int.tdiv X 8) = X / 8 := by rw [Int.tdiv_eq_ediv_of_nonneg X1]; exact IntWalk.i64_in _ (by omega)
          have i2 : IntKind.i64.wrap (D + X / 8) = D + X / 8 := IntWalk.i64_in _ (by omega)
          have i3 : ((2 ^ (2 + 1) : Nat) : Int) = 8 := rfl
          rw [i3]
          clear i3
          clear X1 X2 D1 D2
          go_wp2_with fail
          go_roundw
          case rel => exact ⟨3, by omega, by go_num, congrArg (Value.int .i64) (by have := HX.out; simpa using this.symm), by first | rfl | go_num, HW.out⟩
          case measure => simp [intOf]
        · have i1 : IntKind.i64.wrap (Int.tdiv X 16) = X / 16 := by rw [Int.tdiv_eq_ediv_of_nonneg X1]; exact IntWalk.i64_in _ (by omega)
          have i2 : IntKind.i64.wrap (D + X / 16) = D + X / 16 := IntWalk.i64_in _ (by omega)
          have i3 : ((2 ^ (3 + 1) : Nat) : Int) = 16 := rfl
          rw [i3]
          clear i3
          clear X1 X2 D1 D2
          go_wp2_with fail
          go_roundw
          case rel => exact ⟨4, by omega, by go_num, congrArg (Value.int .i64) (by have := HX.out; simpa using this.symm), by first | rfl | go_num, HW.out⟩
          case measure => simp [intOf]
        · have i1 : IntKind.i64.wrap (Int.tdiv X 32) = X / 32 := by rw [Int.tdiv_eq_ediv_of_nonneg X1]; exact IntWalk.i64_in _ (by omega)
          have i2 : IntKind.i64.wrap (D + X / 32) = D + X / 32 := IntWalk.i64_in _ (by omega)
          have i3 : ((2 ^ (4 + 1) : Nat) : Int) = 32 := rfl
          rw [i3]
          clear i3
          clear X1 X2 D1 D2
          go_wp2_with fail
          go_roundw
          case rel => exact ⟨5, by omega, by go_num, congrArg (Value.int .i64) (by have := HX.out; simpa using this.symm), by first | rfl | go_num, HW.out⟩
          case measure => simp [intOf]
        · have i1 : IntKind.i64.wrap (Int.tdiv X 64) = X / 64 := by rw [Int.tdiv_eq_ediv_of_nonneg X1]; exact IntWalk.i64_in _ (by omega)
          have i2 : IntKind.i64.wrap (D + X / 64) = D + X / 64 := IntWalk.i64_in _ (by omega)
          have i3 : ((2 ^ (5 + 1) : Nat) : Int) = 64 := rfl
          rw [i3]
          clear i3
          clear X1 X2 D1 D2
          go_wp2_with fail
          go_roundw
          case rel => exact ⟨6, by omega, by go_num, congrArg (Value.int .i64) (by have := HX.out; simpa using this.symm), by first | rfl | go_num, HW.out⟩
          case measure => simp [intOf]
        · have i1 : IntKind.i64.wrap (Int.tdiv X 128) = X / 128 := by rw [Int.tdiv_eq_ediv_of_nonneg X1]; exact IntWalk.i64_in _ (by omega)
          have i2 : IntKind.i64.wrap (D + X / 128) = D + X / 128 := IntWalk.i64_in _ (by omega)
          have i3 : ((2 ^ (6 + 1) : Nat) : Int) = 128 := rfl
          rw [i3]
          clear i3
          clear X1 X2 D1 D2
          go_wp2_with fail
          go_roundw
          case rel => exact ⟨7, by omega, by go_num, congrArg (Value.int .i64) (by have := HX.out; simpa using this.symm), by first | rfl | go_num, HW.out⟩
          case measure => simp [intOf]
        · have i1 : IntKind.i64.wrap (Int.tdiv X 256) = X / 256 := by rw [Int.tdiv_eq_ediv_of_nonneg X1]; exact IntWalk.i64_in _ (by omega)
          have i2 : IntKind.i64.wrap (D + X / 256) = D + X / 256 := IntWalk.i64_in _ (by omega)
          have i3 : ((2 ^ (7 + 1) : Nat) : Int) = 256 := rfl
          rw [i3]
          clear i3
          clear X1 X2 D1 D2
          go_wp2_with fail
          go_roundw
          case rel => exact ⟨8, by omega, by go_num, congrArg (Value.int .i64) (by have := HX.out; simpa using this.symm), by first | rfl | go_num, HW.out⟩
          case measure => simp [intOf]
      · have a2 : ¬ (t : Int) < (m : Int) := by omega
        have hXe := (show xN ss now t = 68719476736 by unfold xN; rw [if_neg (by rw [HM.out]; exact hm)])
        have D1 := HD.out.1
        have D2 := HD.out.2
        rw [hXe] at HX
        have HW := Lib.hid hbel
        clear hXe hbel hrs
        go_upto_region 9 with (fail)
        rcases (show t = 0 ∨ t = 1 ∨ t = 2 ∨ t = 3 ∨ t = 4 ∨ t = 5 ∨ t = 6 ∨ t = 7 by omega) with rfl | rfl | rfl | rfl | rfl | rfl | rfl | rfl
        · have i2 : IntKind.i64.wrap (D + 34359738368) = D + 34359738368 := IntWalk.i64_in _ (by omega)
          have i3 : ((2 ^ (0 + 1) : Nat) : Int) = 2 := rfl
          rw [i3]
          clear i3
          clear D1 D2
          go_wp2_with fail
          go_roundw
          case rel => exact ⟨1, by omega, by go_num, congrArg (Value.int .i64) (by have := HX.out; simpa using this.symm), by first | rfl | go_num, HW.out⟩
          case measure => simp [intOf]
        · have i2 : IntKind.i64.wrap (D + 17179869184) = D + 17179869184 := IntWalk.i64_in _ (by omega)
          have i3 : ((2 ^ (1 + 1) : Nat) : Int) = 4 := rfl
          rw [i3]
          clear i3
          clear D1 D2
          go_wp2_with fail
          go_roundw
          case rel => exact ⟨2, by omega, by go_num, congrArg (Value.int .i64) (by have := HX.out; simpa using this.symm), by first | rfl | go_num, HW.out⟩
          case measure => simp [intOf]
        · have i2 : IntKind.i64.wrap (D + 8589934592) = D + 8589934592 := IntWalk.i64_in _ (by omega)
          have i3 : ((2 ^ (2 + 1) : Nat) : Int) = 8 := rfl
          rw [i3]
          clear i3
          clear D1 D2
          go_wp2_with fail
          go_roundw
          case rel => exact ⟨3, by omega, by go_num, congrArg (Value.int .i64) (by have := HX.out; simpa using this.symm), by first | rfl | go_num, HW.out⟩
          case measure => simp [intOf]
        · have i2 : IntKind.i64.wrap (D + 4294967296) = D + 4294967296 := IntWalk.i64_in _ (by omega)
          have i3 : ((2 ^ (3 + 1) : Nat) : Int) = 16 := rfl
          rw [i3]
          clear i3
          clear D1 D2
          go_wp2_with fail
          go_roundw
          case rel => exact ⟨4, by omega, by go_num, congrArg (Value.int .i64) (by have := HX.out; simpa using this.symm), by first | rfl | go_num, HW.out⟩
          case measure => simp [intOf]
        · have i2 : IntKind.i64.wrap (D + 2147483648) = D + 2147483648 := IntWalk.i64_in _ (by omega)
          have i3 : ((2 ^ (4 + 1) : Nat) : Int) = 32 := rfl
          rw [i3]
          clear i3
          clear D1 D2
          go_wp2_with fail
          go_roundw
          case rel => exact ⟨5, by omega, by go_num, congrArg (Value.int .i64) (by have := HX.out; simpa using this.symm), by first | rfl | go_num, HW.out⟩
          case measure => simp [intOf]
        · have i2 : IntKind.i64.wrap (D + 1073741824) = D + 1073741824 := IntWalk.i64_in _ (by omega)
          have i3 : ((2 ^ (5 + 1) : Nat) : Int) = 64 := rfl
          rw [i3]
          clear i3
          clear D1 D2
          go_wp2_with fail
          go_roundw
          case rel => exact ⟨6, by omega, by go_num, congrArg (Value.int .i64) (by have := HX.out; simpa using this.symm), by first | rfl | go_num, HW.out⟩
          case measure => simp [intOf]
        · have i2 : IntKind.i64.wrap (D + 536870912) = D + 536870912 := IntWalk.i64_in _ (by omega)
          have i3 : ((2 ^ (6 + 1) : Nat) : Int) = 128 := rfl
          rw [i3]
          clear i3
          clear D1 D2
          go_wp2_with fail
          go_roundw
          case rel => exact ⟨7, by omega, by go_num, congrArg (Value.int .i64) (by have := HX.out; simpa using this.symm), by first | rfl | go_num, HW.out⟩
          case measure => simp [intOf]
        · have i2 : IntKind.i64.wrap (D + 268435456) = D + 268435456 := IntWalk.i64_in _ (by omega)
          have i3 : ((2 ^ (7 + 1) : Nat) : Int) = 256 := rfl
          rw [i3]
          clear i3
          clear D1 D2
          go_wp2_with fail
          go_roundw
          case rel => exact ⟨8, by omega, by go_num, congrArg (Value.int .i64) (by have := HX.out; simpa using this.symm), by first | rfl | go_num, HW.out⟩
          case measure => simp [intOf]
    · obtain rfl : t = 8 := by omega
      have a1 : ¬ (8 : Int) < 8 := by decide
      have HBEL := Lib.hid hbel
      have HF := Lib.hid (show dispN ss now = dispF ss now 8 from rfl)
      generalize dispF ss now 8 = D at HF
      clear hbel
      go_wp2_with fail
      go_ret
      exact ⟨by rw [HF.out]; rfl, HB1.out.trans (HBEL.out.mono hz1)⟩
end Go.Proofs.Ytbiajjdjbnnggaa
