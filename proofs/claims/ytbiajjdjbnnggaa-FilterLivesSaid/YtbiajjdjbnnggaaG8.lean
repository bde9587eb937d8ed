/- The document's distance of a sample, and its whole roots. -/
import Derived.Test.YtbiajjdjbnnggaaG7
namespace Go.Proofs.Ytbiajjdjbnnggaa
set_option linter.unusedSimpArgs false
set_option linter.unusedVariables false
set_option maxRecDepth 100000
open Go.RowKit
attribute [local go_sem] toldUpon_value toldUpon_skip toldUpon_enter

set_option maxHeartbeats 1000000 in
theorem rdist_any (w : World) (s : Smp) (now : Int) : Calls Try.prog 26 #[sv s, .int .i64 now] w fun e w' => e = .returned (.int .i64 (distN s now)) ∧ Below w.heap.size w w' := by
  have hM := fun w => rmay_any w s
  by_cases hm : mayB s = true
  · obtain ⟨⟨o1, o2⟩, ⟨d1, d2⟩, ⟨p1, p2⟩, a1, a2⟩ := mayB_iff.1 hm
    have hA := fun w => raged_any w s now a1 a2
    obtain ⟨g1, g2⟩ := agedN_bd s now a1 a2
    have H := Lib.hid (show distN s now = s.d / 2 + s.p + agedN s now by unfold distN; rw [if_pos hm])
    rw [hm] at hM
    clear hm
    generalize agedN s now = ag at hA g1 g2 H
    obtain ⟨o, d, p, a⟩ := s
    replace d1 : 0 ≤ d := d1
    replace d2 : d ≤ 1152921504606846976 := d2
    replace p1 : 0 ≤ p := p1
    replace p2 : p ≤ 1152921504606846976 := p2
    obtain ⟨dh, hdh⟩ : ∃ q, d / 2 = q := ⟨_, rfl⟩
    replace H := Lib.hid (show distN ⟨o, d, p, a⟩ now = dh + p + ag by rw [H.out, ← hdh])
    clear a1 a2 o1 o2
    unfold sv at hM hA ⊢
    go_enter Try.func26, Try.ntmps26
    go_upto_region 3 with (go_at_call 14; refine (hM _).mono ?_; rintro e w1 ⟨rfl, hb1⟩; obtain ⟨B1, z1, bb1⟩ := box1 hb1)
    have C0 : ∀ w', Below w1.heap.size w1 w' → w'.cell? ⟨w.heap.size, 0, none⟩ = some (.int .i64 o) := fun w' h => (B1.below h z1).cell 0
    have C1 : ∀ w', Below w1.heap.size w1 w' → w'.cell? ⟨w.heap.size, 1, none⟩ = some (.int .i64 d) := fun w' h => (B1.below h z1).cell 1
    have C2 : ∀ w', Below w1.heap.size w1 w' → w'.cell? ⟨w.heap.size, 2, none⟩ = some (.int .i64 p) := fun w' h => (B1.below h z1).cell 2
    have C3 : ∀ w', Below w1.heap.size w1 w' → w'.cell? ⟨w.heap.size, 3, none⟩ = some (.int .i64 a) := fun w' h => (B1.below h z1).cell 3
    have j0 : IntKind.i64.wrap (Int.tdiv d 2) = dh := by rw [Int.tdiv_eq_ediv_of_nonneg d1, hdh]; exact IntWalk.i64_in _ (by omega)
    have j1 : IntKind.i64.wrap (dh + p) = dh + p := IntWalk.i64_in _ (by omega)
    have j2 : IntKind.i64.wrap (dh + p + ag) = dh + p + ag := IntWalk.i64_in _ (by omega)
    clear hM B1 hdh
    have BB := Lib.hid bb1
    have hs := bb1.size
    clear bb1
    (refine region_told _ (by kernel_rfl) (by kernel_rfl) (by simp only [putAll, Act.put, List.setIfInBounds_toArray, List.set_cons_zero, List.set_cons_succ, Nat.reduceAdd]; rfl) ?_)
    repeat (refine told_step (fun v _ => v = _) (Stays.eq _) (by intro y w' hw' hd; simp only [depsOf, updG, Region.binds, Nat.reduceAdd, Nat.reduceEqDiff, if_false, if_true, and_true, true_and, forall_const, Array.toList, GTrue] at hd; (try go_split_ands); unfold toldAt; go_simp; exact ⟨Below.refl _ _, rfl⟩) ?_)
    (refine told_step (fun v _ => v = _) (Stays.eq _) (by intro y w' hw' hd; simp only [depsOf, updG, Region.binds, Nat.reduceAdd, Nat.reduceEqDiff, if_false, if_true, and_true, true_and, forall_const, Array.toList, GTrue] at hd; (try go_split_ands); unfold toldAt; go_simp; refine ⟨Below.refl _ _, ?_⟩; exact hA w') ?_)
    repeat (refine told_step (fun v _ => v = _) (Stays.eq _) (by intro y w' hw' hd; simp only [depsOf, updG, Region.binds, Nat.reduceAdd, Nat.reduceEqDiff, if_false, if_true, and_true, true_and, forall_const, Array.toList, GTrue] at hd; (try go_split_ands); unfold toldAt; go_simp; exact ⟨Below.refl _ _, rfl⟩) ?_)
    (refine told_nil ?_; intro y w2 hw2 hd)
    have H10 : y 10 = .int .i64 (dh + p + ag) := hd 10 (by decide)
    rw [H10]
    clear hd H10 C0 C1 C2 C3
    have HW := Lib.hid (BB.out.trans (hw2.mono hs))
    clear hw2
    go_wp2_with fail
    go_ret
    exact ⟨by rw [H.out]; rfl, HW.out⟩
  · have H := Lib.hid (show distN s now = -1 by unfold distN; rw [if_neg hm])
    rw [show mayB s = false by simpa using hm] at hM
    clear hm
    obtain ⟨o, d, p, a⟩ := s
    unfold sv at hM ⊢
    go_enter Try.func26, Try.ntmps26
    go_wp2_with (go_at_call 14; refine (hM _).mono ?_; rintro e w1 ⟨rfl, hb1⟩; obtain ⟨B1, z1, bb1⟩ := box1 hb1)
    go_ret
    exact ⟨by rw [H.out]; rfl, bb1⟩
theorem root_uniq {n x : Nat} (h : n < 18446744073709551616) (h1 : x * x ≤ n) (h2 : n < (x + 1) * (x + 1)) : x = rootN n := by
  obtain ⟨r1, r2⟩ := rootN_spec h
  have a : ¬ x + 1 ≤ rootN n := fun hh => by have := Nat.mul_le_mul hh hh; omega
  have b : ¬ rootN n + 1 ≤ x := fun hh => by have := Nat.mul_le_mul hh hh; omega
  omega
set_option maxHeartbeats 1000000 in
theorem rroot_any (w : World) {n : Nat} (hn : n < 18446744073709551616) : Calls Try.prog 28 #[.int .u64 (n : Int)] w fun e w' => e = .returned (.int .u64 ((rootN n : Nat) : Int)) ∧ w = w' := by
  go_enter Try.func28, Try.ntmps28
  go_wp2_with fail
  go_loop [3, 4] (fun x b => ∃ (lo hi : Nat), x = .int .u64 (lo : Int) ∧ b = .int .u64 (hi : Int) ∧ lo < hi ∧ hi ≤ 4294967296 ∧ lo * lo ≤ n ∧ n < hi * hi) (fun x b => (intOf b).toNat - (intOf x).toNat)
  case atStart => exact ⟨0, 4294967296, rfl, rfl, by omega, by omega, by omega, by omega⟩
  case round =>
    obtain ⟨lo, hi, rfl, rfl, h1, h2, h3, h4⟩ := hrel
    have i1 : IntKind.u64.wrap ((hi : Int) - (lo : Int)) = ((hi - lo : Nat) : Int) := by rw [IntKind.wrap_u64]; omega
    by_cases hc : 1 < hi - lo
    · have t1 : (1 : Int) < ((hi - lo : Nat) : Int) := by omega
      obtain ⟨m, hm⟩ : ∃ m, (lo + hi) / 2 = m := ⟨_, rfl⟩
      have i2 : IntKind.u64.wrap ((lo : Int) + (hi : Int)) = (lo : Int) + (hi : Int) := by rw [IntKind.wrap_u64]; omega
      have i3 : ((lo : Int) + (hi : Int)) / 2 = (m : Int) := by omega
      obtain ⟨Q, hQ⟩ : ∃ Q, m * m = Q := ⟨_, rfl⟩
      have hml : m < 4294967296 := by omega
      have hq : Q < 18446744073709551616 := by
        rw [← hQ]
        exact Nat.lt_of_le_of_lt (Nat.mul_le_mul (Nat.le_of_lt hml) (Nat.le_refl m)) (by omega)
      have i4 : IntKind.u64.wrap ((m : Int) * (m : Int)) = (Q : Int) := by rw [IntKind.wrap_u64, ← Int.natCast_mul, hQ]; omega
      have HS := Lib.hid (And.intro hm (And.intro hQ (And.intro h3 h4)))
      clear hm hQ h3 h4
      by_cases hle : Q ≤ n
      · have t2 : (Q : Int) ≤ (n : Int) := by omega
        go_wp2_with fail
        go_round
        case rel =>
          obtain ⟨e1, e2, e3, e4⟩ := HS.out
          exact ⟨m, hi, congrArg (Value.int .u64) (by omega), rfl, by omega, h2, by omega, e4⟩
        case measure =>
          obtain ⟨e1, e2, e3, e4⟩ := HS.out
          simp [intOf]; omega
      · have t2 : ¬ (Q : Int) ≤ (n : Int) := by omega
        go_wp2_with fail
        go_round
        case rel =>
          obtain ⟨e1, e2, e3, e4⟩ := HS.out
          exact ⟨lo, m, rfl, congrArg (Value.int .u64) (by omega), by omega, by omega, e3, by omega⟩
        case measure =>
          obtain ⟨e1, e2, e3, e4⟩ := HS.out
          simp [intOf]; omega
    · have t1 : ¬ (1 : Int) < ((hi - lo : Nat) : Int) := by omega
      have hfin : lo = rootN n := root_uniq hn h3 (by rw [show lo + 1 = hi by omega]; exact h4)
      have HF := Lib.hid hfin
      clear hfin h3 h4
      go_wp2_with fail
      go_ret
      exact ⟨by rw [← HF.out]; rfl, rfl⟩
end Go.Proofs.Ytbiajjdjbnnggaa
