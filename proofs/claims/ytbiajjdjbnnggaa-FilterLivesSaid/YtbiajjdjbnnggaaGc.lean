/- Jitter of a row. -/
import Derived.Test.YtbiajjdjbnnggaaG9
namespace Go.Proofs.Ytbiajjdjbnnggaa
set_option linter.unusedSimpArgs false
set_option linter.unusedVariables false
set_option maxRecDepth 100000
open Go.RowKit
attribute [local go_sem] toldUpon_value toldUpon_skip toldUpon_enter

/-- by how much a sample is off from the first one, clipped -/
def cN (ss : List Smp) (i : Nat) : Nat := min ((rg ss i).o - (rg ss 0).o).natAbs 1073741824
def jitF (ss : List Smp) : Nat → Nat
  | 0 => 0
  | k + 1 => jitF ss k + cN ss (k + 1) * cN ss (k + 1)
def jitN (ss : List Smp) : Nat := if ss.length < 2 then 0 else rootN (jitF ss (ss.length - 1) / (ss.length - 1))
theorem cN_sq (ss : List Smp) (i : Nat) : cN ss i * cN ss i ≤ 1152921504606846976 := by
  have h : cN ss i ≤ 1073741824 := Nat.min_le_right _ _
  exact Nat.le_trans (Nat.mul_le_mul h h) (by decide)
theorem jitF_bd (ss : List Smp) : ∀ k, jitF ss k ≤ k * 1152921504606846976
  | 0 => by simp [jitF]
  | k + 1 => by
    have h1 := jitF_bd ss k
    have h2 := cN_sq ss (k + 1)
    show jitF ss k + _ ≤ _
    omega
theorem clip_sq (q : Int) : max (min q 1073741824) (-1073741824) * max (min q 1073741824) (-1073741824) = ((min q.natAbs 1073741824 * min q.natAbs 1073741824 : Nat) : Int) := by
  rcases Int.le_total 0 q with h | h
  · rw [show max (min q 1073741824) (-1073741824) = ((min q.natAbs 1073741824 : Nat) : Int) by omega, Int.natCast_mul]
  · rw [show max (min q 1073741824) (-1073741824) = -((min q.natAbs 1073741824 : Nat) : Int) by omega, Int.neg_mul_neg, Int.natCast_mul]
theorem rootN_lt {n : Nat} (h : n < 18446744073709551616) : rootN n < 4294967296 := by
  obtain ⟨r1, _⟩ := rootN_spec h
  rcases Nat.lt_or_ge (rootN n) 4294967296 with h1 | h1
  · exact h1
  · have := Nat.mul_le_mul h1 h1; omega
set_option maxHeartbeats 4000000 in
theorem jit_gen (w : World) (x : Value) (now : Int) (ss : List Smp) (hm : ∀ j, j < ss.length → mayB (rg ss j) = true) (hl8 : ss.length ≤ 8) (hR : Calls Try.prog 9 #[x, .int .i64 now] w (ROW ss w)) :
    Calls Try.prog 17 #[x, .int .i64 now] w fun e w' => e = .returned (.int .i64 ((jitN ss : Nat) : Int)) ∧ Below w.heap.size w w' := by
  unfold ROW at hR
  obtain ⟨m, hml⟩ : ∃ m, ss.length = m := ⟨_, rfl⟩
  have HM := Lib.hid hml
  rw [hml] at hR hl8
  have HMAY := Lib.hid hm
  have HJ := Lib.hid (show jitN ss = if m < 2 then 0 else rootN (jitF ss (m - 1) / (m - 1)) by unfold jitN; rw [hml])
  clear hml hm
  by_cases h2 : m < 2
  · have a1 : (m : Int) < 2 := by omega
    go_enter Try.func17, Try.ntmps17
    go_wp2_with (go_at_call 9; refine hR.mono ?_; rintro e w1 ⟨A, c, rfl, hrs, hb1⟩)
    go_ret
    exact ⟨by rw [HJ.out, if_pos h2]; rfl, hb1⟩
  · have a1 : ¬ (m : Int) < 2 := by omega
    replace HJ := Lib.hid (HJ.out.trans (if_neg h2))
    go_enter Try.func17, Try.ntmps17
    go_upto_region 5 with (go_at_call 9; refine hR.mono ?_; rintro e w1 ⟨A, c, rfl, hrs, hb1⟩)
    obtain ⟨g, rfl, hg, hsb⟩ : ∃ g, A = some ⟨g, 0, none⟩ ∧ w.heap.size ≤ g ∧ SB w1 g ss := by
      rcases hrs.1.2 with ⟨_, h⟩ | h
      · omega
      · exact h
    have hcap := hrs.2
    clear hR hrs
    have HB1 := Lib.hid hb1
    have hz1 := hb1.size
    clear hb1
    have k1 : (1 : Int) ≤ (m : Int) := by omega
    have k2 : ((m : Int) - 1) = ((m - 1 : Nat) : Int) := by omega
    have k3 : ¬ c = 1 := by omega
    go_wp2_with fail
    go_loopw [6, 19] (fun u i wr => ∃ (t : Nat), t ≤ m - 1 ∧ i = .int .i64 (t : Int) ∧ u = .int .u64 ((jitF ss t : Nat) : Int) ∧ Below w1.heap.size w1 wr) (fun _ i _ => m - (intOf i).toNat)
    case atStart => exact ⟨0, by omega, rfl, rfl, Below.refl _ _⟩
    case round =>
      obtain ⟨t, ht, rfl, rfl, hbel⟩ := hrel
      have hsr := hbel.size
      have HBEL := Lib.hid hbel
      by_cases hlt : t < m - 1
      · have a2 : (t : Int) < ((m - 1 : Nat) : Int) := by omega
        have j0 : (0 : Int) ≤ (t : Int) := by omega
        have i0 : IntKind.i64.wrap ((t : Int) + 1) = (t : Int) + 1 := IntWalk.i64_in _ (by omega)
        obtain ⟨c0, c1, c2, c3⟩ := (hsb.below hbel).at (j := t + 1) (by rw [HM.out]; omega)
        obtain ⟨d0, _, _, _⟩ := (hsb.below hbel).at (j := 0) (by rw [HM.out]; omega)
        rw [Nat.zero_mul] at d0
        rw [show (t + 1) * 4 = 4 + t * 4 by omega] at c0 c1 c2 c3
        clear hsb hbel
        go_upto_region 8 with (fail)
        obtain ⟨⟨x1, x2⟩, _⟩ := mayB_iff.1 (HMAY.out (t + 1) (by rw [HM.out]; omega))
        obtain ⟨⟨y1, y2⟩, _⟩ := mayB_iff.1 (HMAY.out 0 (by rw [HM.out]; omega))
        have HC := Lib.hid (show cN ss (t + 1) = min ((rg ss (t + 1)).o - (rg ss 0).o).natAbs 1073741824 from rfl)
        have HJF := Lib.hid (show jitF ss (t + 1) = jitF ss t + cN ss (t + 1) * cN ss (t + 1) from rfl)
        have HJB := Lib.hid (jitF_bd ss t)
        have HCB := Lib.hid (cN_sq ss (t + 1))
        generalize jitF ss t = J at HJF HJB ⊢
        generalize cN ss (t + 1) = cc at HC HJF HCB
        generalize rg ss (t + 1) = s at x1 x2 c0 c1 c2 c3 HC ⊢
        obtain ⟨xo, xd, xp, xa⟩ := s
        replace x1 : -1152921504606846976 ≤ xo := x1
        replace x2 : xo ≤ 1152921504606846976 := x2
        generalize (rg ss 0).o = yo at y1 y2 d0 HC
        obtain ⟨q, hq⟩ : ∃ q, xo - yo = q := ⟨_, rfl⟩
        have i1 : IntKind.i64.wrap (xo - yo) = q := by rw [IntWalk.i64_in _ (by omega)]; exact hq
        replace HC := Lib.hid (show cc = min q.natAbs 1073741824 by rw [HC.out, ← hq])
        obtain ⟨wz, hwz⟩ : ∃ x, wr.alloc (.cells #[.int .i64 xo, .int .i64 xd, .int .i64 xp, .int .i64 xa] 27) = x := ⟨_, rfl⟩
        have hk : Bk wz wr.heap.size 27 #[.int .i64 xo, .int .i64 xd, .int .i64 xp, .int .i64 xa] := by rw [← hwz]; exact Bk.new wr _ _
        have hn : Below wr.heap.size wr wz := by rw [← hwz]; exact (Below.refl _ _).alloc (Nat.le_refl _) _
        have hgl : g < wr.heap.size := World.block_lt_of_cell? wr _ d0
        replace d0 := (hn.cell (p := ⟨g, 0, none⟩) hgl).trans d0
        have E0 : ∀ w', Below wz.heap.size wz w' → w'.cell? ⟨wr.heap.size, 0, none⟩ = some (.int .i64 xo) := fun w' h => (hk.below h hk.lt).cell 0
        have F0 : ∀ w', Below wz.heap.size wz w' → w'.cell? ⟨g, 0, none⟩ = some (.int .i64 yo) := fun w' h => (h.cell (p := ⟨g, 0, none⟩) (Nat.lt_of_lt_of_le hgl hn.size)).trans d0
        have HZ := Lib.hid (HBEL.out.trans (hn.mono hsr))
        have hzz := HZ.out.size
        have m0 : (0 : Int) < (m : Int) := by omega
        have m0n : 0 < m := by omega
        simp only [hwz]
        clear c0 c1 c2 c3 d0 hk hn hwz
        have HQ := Lib.hid (clip_sq q)
        have HQ2 := Lib.hid (show -1073741824 ≤ max (min q 1073741824) (-1073741824) ∧ max (min q 1073741824) (-1073741824) ≤ 1073741824 by omega)
        clear x1 x2 y1 y2 hq
        (refine region_told _ (by kernel_rfl) (by kernel_rfl) (by simp only [putAll, Act.put, List.setIfInBounds_toArray, List.set_cons_zero, List.set_cons_succ, Nat.reduceAdd]; rfl) ?_)
        repeat (refine told_step (fun v _ => v = _) (Stays.eq _) (by intro y w' hw' hd; simp only [depsOf, updG, Region.binds, Nat.reduceAdd, Nat.reduceEqDiff, if_false, if_true, and_true, true_and, forall_const, Array.toList, GTrue] at hd; (try go_split_ands); unfold toldAt; go_simp; exact ⟨Below.refl _ _, rfl⟩) ?_)
        (refine told_nil ?_; intro y w2 hw2 hd)
        have h9 : y 9 = .int .i64 (if (if 1073741824 < q then 1073741824 else q) < -1073741824 then -1073741824 else if 1073741824 < q then 1073741824 else q) := hd 9 (by decide)
        have H9 : y 9 = .int .i64 (max (min q 1073741824) (-1073741824)) := by
          refine h9.trans (congrArg (Value.int .i64) ?_)
          by_cases h1 : 1073741824 < q
          · simp only [if_pos h1]; omega
          · simp only [if_neg h1]; split <;> omega
        rw [H9]
        have HW := Lib.hid (HZ.out.trans (hw2.mono hzz))
        have HQ3 := HQ.out
        rw [← HC.out] at HQ3
        obtain ⟨Q, hQ⟩ : ∃ Q, cc * cc = Q := ⟨_, rfl⟩
        rw [hQ] at HQ3 HJF HCB
        have q2 := HCB.out
        have jb := HJB.out
        generalize max (min q 1073741824) (-1073741824) = Z at HQ3 HQ2 ⊢
        have i2 : IntKind.i64.wrap (Z * Z) = (Q : Int) := by rw [HQ3]; exact IntWalk.i64_in _ (by omega)
        have i3 : IntKind.u64.wrap (Q : Int) = (Q : Int) := by rw [IntKind.wrap_u64]; omega
        have i4 : IntKind.u64.wrap ((J : Int) + (Q : Int)) = ((J + Q : Nat) : Int) := by rw [IntKind.wrap_u64]; omega
        clear hd h9 H9 E0 F0 hw2 HQ3 q2 jb hQ
        go_wp2_with fail
        go_roundw
        case rel => exact ⟨t + 1, by omega, by go_num, congrArg (Value.int .u64) (by rw [HJF.out]; omega), HW.out⟩
        case measure => simp [intOf]; omega
      · obtain rfl : t = m - 1 := by omega
        have a2 : ¬ ((m - 1 : Nat) : Int) < ((m - 1 : Nat) : Int) := by omega
        have jb := jitF_bd ss (m - 1)
        obtain ⟨d, hd⟩ : ∃ d, m - 1 = d := ⟨_, rfl⟩
        rw [hd] at HJ jb a2 k2 ⊢
        generalize jitF ss d = J at HJ jb ⊢
        have hJs : J < 18446744073709551616 := by omega
        obtain ⟨q, hq⟩ : ∃ q, J / d = q := ⟨_, rfl⟩
        have hqs : q < 18446744073709551616 := by have := Nat.div_le_self J d; omega
        have hRt := fun w => root_any w hqs
        have HRB := Lib.hid (rootN_spec hqs)
        rw [hq] at HJ
        have i1 : IntKind.u64.wrap (d : Int) = (d : Int) := by rw [IntKind.wrap_u64]; omega
        have i2 : (J : Int) / (d : Int) = (q : Int) := by rw [← hq]; exact (Int.natCast_ediv _ _).symm
        have d0 : ¬ (d : Int) = 0 := by omega
        have d0n : ¬ d = 0 := by omega
        have HBEL2 := Lib.hid hbel
        have i5 : IntKind.i64.wrap ((rootN q : Nat) : Int) = ((rootN q : Nat) : Int) := by
          have := rootN_lt hqs
          exact IntWalk.i64_in _ (by omega)
        generalize rootN q = r at hRt HJ i5
        clear hbel hq hd hsb HRB
        go_wp2_with (go_at_call 27; refine (hRt _).mono ?_; rintro e w5 ⟨rfl, rfl⟩)
        go_ret
        exact ⟨by rw [HJ.out]; rfl, HB1.out.trans (HBEL2.out.mono hz1)⟩
end Go.Proofs.Ytbiajjdjbnnggaa
