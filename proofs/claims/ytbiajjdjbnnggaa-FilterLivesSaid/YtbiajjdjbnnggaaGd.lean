/- Jitter of a row: the document's answer. -/
import Derived.Test.YtbiajjdjbnnggaaGc
namespace Go.Proofs.Ytbiajjdjbnnggaa
set_option linter.unusedSimpArgs false
set_option linter.unusedVariables false
set_option maxRecDepth 100000
open Go.RowKit
attribute [local go_sem] toldUpon_value toldUpon_skip toldUpon_enter

set_option maxHeartbeats 4000000 in
theorem rjit_gen (w : World) (x : Value) (now : Int) (ss : List Smp) (hm : ∀ j, j < ss.length → mayB (rg ss j) = true) (hl8 : ss.length ≤ 8) (hR : Calls Try.prog 23 #[x, .int .i64 now] w (ROW ss w)) :
    Calls Try.prog 24 #[x, .int .i64 now] w fun e w' => e = .returned (.int .i64 ((jitN ss : Nat) : Int)) ∧ Below w.heap.size w w' := by
  unfold ROW at hR
  obtain ⟨m, hml⟩ : ∃ m, ss.length = m := ⟨_, rfl⟩
  have HM := Lib.hid hml
  rw [hml] at hR hl8
  have HMAY := Lib.hid hm
  have HJ := Lib.hid (show jitN ss = if m < 2 then 0 else rootN (jitF ss (m - 1) / (m - 1)) by unfold jitN; rw [hml])
  clear hml hm
  by_cases h2 : m < 2
  · have a1 : (m : Int) < 2 := by omega
    go_enter Try.func24, Try.ntmps24
    go_wp2_with (go_at_call 23; refine hR.mono ?_; rintro e w1 ⟨A, c, rfl, hrs, hb1⟩)
    go_ret
    exact ⟨by rw [HJ.out, if_pos h2]; rfl, hb1⟩
  · have a1 : ¬ (m : Int) < 2 := by omega
    replace HJ := Lib.hid (HJ.out.trans (if_neg h2))
    go_enter Try.func24, Try.ntmps24
    go_upto_region 5 with (go_at_call 23; refine hR.mono ?_; rintro e w1 ⟨A, c, rfl, hrs, hb1⟩)
    obtain ⟨g, rfl, hg, hsb⟩ : ∃ g, A = some ⟨g, 0, none⟩ ∧ w.heap.size ≤ g ∧ SB w1 g ss := by
      rcases hrs.1.2 with ⟨_, h⟩ | h
      · omega
      · exact h
    have hcap := hrs.2
    clear hR hrs
    have HB1 := Lib.hid hb1
    have hz1 := hb1.size
    clear hb1
    have k2 : ((m : Int) - 1) = ((m - 1 : Nat) : Int) := by omega
    go_wp2_with fail
    go_loopw [6, 7] (fun u i wr => ∃ (t : Nat), t ≤ m - 1 ∧ i = .int .i64 ((t + 1 : Nat) : Int) ∧ u = .int .u64 ((jitF ss t : Nat) : Int) ∧ Below w1.heap.size w1 wr) (fun _ i _ => m - (intOf i).toNat)
    case atStart => exact ⟨0, by omega, rfl, rfl, Below.refl _ _⟩
    case round =>
      obtain ⟨t, ht, rfl, rfl, hbel⟩ := hrel
      have hsr := hbel.size
      have HBEL := Lib.hid hbel
      obtain ⟨t1, ht1⟩ : ∃ x, t + 1 = x := ⟨_, rfl⟩
      rw [ht1]
      by_cases hlt : t < m - 1
      · have a2 : (t1 : Int) < (m : Int) := by omega
        have j0 : (0 : Int) ≤ (t1 : Int) := by omega
        have i0 : IntKind.i64.wrap ((t1 : Int) + 1) = (t1 : Int) + 1 := IntWalk.i64_in _ (by omega)
        have C0 : ∀ w', Below wr.heap.size wr w' → w'.cell? ⟨g, t1 * 4, none⟩ = some (.int .i64 (rg ss t1).o) := fun w' h => (((hsb.below hbel).below h).at (by rw [HM.out]; omega)).1
        have D0 : ∀ w', Below wr.heap.size wr w' → w'.cell? ⟨g, 0, none⟩ = some (.int .i64 (rg ss 0).o) := fun w' h => by
          have := (((hsb.below hbel).below h).at (j := 0) (by rw [HM.out]; omega)).1
          rwa [Nat.zero_mul] at this
        clear hsb hbel
        go_upto_region 8 with (fail)
        obtain ⟨⟨x1, x2⟩, _⟩ := mayB_iff.1 (HMAY.out t1 (by rw [HM.out]; omega))
        obtain ⟨⟨y1, y2⟩, _⟩ := mayB_iff.1 (HMAY.out 0 (by rw [HM.out]; omega))
        have HC := Lib.hid (show cN ss t1 = min ((rg ss t1).o - (rg ss 0).o).natAbs 1073741824 from rfl)
        have HJF := Lib.hid (show jitF ss t1 = jitF ss t + cN ss t1 * cN ss t1 by rw [← ht1]; rfl)
        have HJB := Lib.hid (jitF_bd ss t)
        have HCB := Lib.hid (cN_sq ss t1)
        generalize jitF ss t = J at HJF HJB ⊢
        generalize cN ss t1 = cc at HC HJF HCB
        generalize (rg ss t1).o = xo at x1 x2 C0 HC
        generalize (rg ss 0).o = yo at y1 y2 D0 HC
        obtain ⟨q, hq⟩ : ∃ q, xo - yo = q := ⟨_, rfl⟩
        have i1 : IntKind.i64.wrap (xo - yo) = q := by rw [IntWalk.i64_in _ (by omega)]; exact hq
        replace HC := Lib.hid (show cc = min q.natAbs 1073741824 by rw [HC.out, ← hq])
        have m0 : (0 : Int) < (m : Int) := by omega
        have m0n : 0 < m := by omega
        have HQB := Lib.hid (show -2305843009213693952 ≤ q ∧ q ≤ 2305843009213693952 by omega)
        clear x1 x2 y1 y2 hq
        (refine region_told _ (by kernel_rfl) (by kernel_rfl) (by simp only [putAll, Act.put, List.setIfInBounds_toArray, List.set_cons_zero, List.set_cons_succ, Nat.reduceAdd]; rfl) ?_)
        repeat (refine told_step (fun v _ => v = _) (Stays.eq _) (by intro y w' hw' hd; simp only [depsOf, updG, Region.binds, Nat.reduceAdd, Nat.reduceEqDiff, if_false, if_true, and_true, true_and, forall_const, Array.toList, GTrue] at hd; (try go_split_ands); unfold toldAt; go_simp; exact ⟨Below.refl _ _, rfl⟩) ?_)
        (refine told_nil ?_; intro y w2 hw2 hd)
        have H10 : y 10 = .int .i64 q := hd 10 (by decide)
        rw [H10]
        have HW := Lib.hid (HBEL.out.trans (hw2.mono hsr))
        obtain ⟨Q, hQ⟩ : ∃ Q, cc * cc = Q := ⟨_, rfl⟩
        have HQQ := Lib.hid hQ
        rw [hQ] at HJF HCB
        have q2 := HCB.out
        have jb := HJB.out
        have i3 : IntKind.u64.wrap (cc : Int) = (cc : Int) := by have := HC.out; rw [IntKind.wrap_u64]; omega
        have i2 : IntKind.u64.wrap ((cc : Int) * (cc : Int)) = (Q : Int) := by rw [IntKind.wrap_u64, ← Int.natCast_mul, hQ]; omega
        have i4 : IntKind.u64.wrap ((J : Int) + (Q : Int)) = ((J + Q : Nat) : Int) := by rw [IntKind.wrap_u64]; omega
        have qb := HQB.out
        obtain ⟨qb1, qb2⟩ := qb
        clear hd H10 C0 D0 hw2 q2 jb hQ
        have hcc := HC.out
        by_cases s1 : q < 0
        · have n1 : IntKind.i64.wrap (-q) = -q := IntWalk.i64_in _ (by omega)
          by_cases s2 : (1073741824 : Int) < -q
          · obtain rfl : cc = 1073741824 := by omega
            have i5 : IntKind.u64.wrap ((J : Int) + 1152921504606846976) = (J : Int) + 1152921504606846976 := by have := HJB.out; rw [IntKind.wrap_u64]; omega
            clear hcc HC qb1 qb2 i2 i3 i4
            go_wp2_with fail
            go_roundw
            case rel => exact ⟨t + 1, by omega, congrArg (Value.int .i64) (by omega), congrArg (Value.int .u64) (by have := HQQ.out; rw [ht1, HJF.out]; omega), HW.out⟩
            case measure => simp [intOf]; omega
          · have e1 : -q = (cc : Int) := by omega
            rw [e1] at n1 s2
            clear hcc HC qb1 qb2
            go_wp2_with fail
            go_roundw
            case rel => exact ⟨t + 1, by omega, congrArg (Value.int .i64) (by omega), congrArg (Value.int .u64) (by rw [ht1, HJF.out]; omega), HW.out⟩
            case measure => simp [intOf]; omega
        · by_cases s2 : (1073741824 : Int) < q
          · obtain rfl : cc = 1073741824 := by omega
            have i5 : IntKind.u64.wrap ((J : Int) + 1152921504606846976) = (J : Int) + 1152921504606846976 := by have := HJB.out; rw [IntKind.wrap_u64]; omega
            clear hcc HC qb1 qb2 i2 i3 i4
            go_wp2_with fail
            go_roundw
            case rel => exact ⟨t + 1, by omega, congrArg (Value.int .i64) (by omega), congrArg (Value.int .u64) (by have := HQQ.out; rw [ht1, HJF.out]; omega), HW.out⟩
            case measure => simp [intOf]; omega
          · obtain rfl : q = (cc : Int) := by omega
            clear hcc HC qb1 qb2
            go_wp2_with fail
            go_roundw
            case rel => exact ⟨t + 1, by omega, congrArg (Value.int .i64) (by omega), congrArg (Value.int .u64) (by rw [ht1, HJF.out]; omega), HW.out⟩
            case measure => simp [intOf]; omega
      · obtain rfl : t = m - 1 := by omega
        obtain rfl : m = t1 := by omega
        have a2 : ¬ (m : Int) < (m : Int) := by omega
        have jb := jitF_bd ss (m - 1)
        obtain ⟨d, hd⟩ : ∃ d, m - 1 = d := ⟨_, rfl⟩
        rw [hd] at HJ jb k2 ⊢
        generalize jitF ss d = J at HJ jb ⊢
        have hJs : J < 18446744073709551616 := by omega
        obtain ⟨q, hq⟩ : ∃ q, J / d = q := ⟨_, rfl⟩
        have hqs : q < 18446744073709551616 := by have := Nat.div_le_self J d; omega
        have hRt := fun w => rroot_any w hqs
        have HRB := Lib.hid (rootN_spec hqs)
        rw [hq] at HJ
        have i1 : IntKind.u64.wrap (d : Int) = (d : Int) := by rw [IntKind.wrap_u64]; omega
        have i2 : (J : Int) / (d : Int) = (q : Int) := by rw [← hq]; exact (Int.natCast_ediv _ _).symm
        have d0 : ¬ (d : Int) = 0 := by omega
        have d0n : ¬ d = 0 := by omega
        have HBEL2 := Lib.hid hbel
        have i5 : IntKind.i64.wrap ((rootN q : Nat) : Int) = ((rootN q : Nat) : Int) := by
          have := rootN_lt hqs
          exact IntWalk.i64_in _ (by omega)
        generalize rootN q = r at hRt HJ i5
        clear hbel hq hd hsb HRB
        go_wp2_with (go_at_call 28; refine (hRt _).mono ?_; rintro e w5 ⟨rfl, rfl⟩)
        go_ret
        exact ⟨by rw [HJ.out]; rfl, HB1.out.trans (HBEL2.out.mono hz1)⟩
end Go.Proofs.Ytbiajjdjbnnggaa
