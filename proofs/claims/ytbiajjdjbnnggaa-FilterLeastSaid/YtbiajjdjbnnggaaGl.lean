/- FilterLeast: the walk. -/
import Derived.Test.YtbiajjdjbnnggaaGt
import Derived.Test.YtbiajjdjbnnggaaGs
import Derived.Test.YtbiajjdjbnnggaaGe
namespace Go.Proofs.Ytbiajjdjbnnggaa
set_option linter.unusedSimpArgs false
set_option linter.unusedVariables false
set_option maxRecDepth 100000
open Go.RowKit Go.ChangeShapes Go.WideShapes Go.Deep
attribute [local go_sem] toldUpon_value toldUpon_skip toldUpon_enter eql_smp eqg_smp

set_option maxHeartbeats 4000000 in
theorem walk_FilterLeast (A : Option Addr) (n c : Nat) (ss : List Smp) (now : Int) (w : World) (h : RdS w A n c ss) : Calls Try.prog 3 #[.slice A n c, .int .i64 now] w fun e w' => e = .returned (.bool true) ∧ Below w.heap.size w w' := by
  have hl := h.1
  have hmx := h.2.2.1
  have hAl := fun w => falive_any w
  have hF := filled_any w h
  have hI := INV.fill (ss.take 100)
  have hle := fillN_le (ss.take 100)
  unfold FIL at hF
  rw [List.length_take] at hle
  generalize fillN (ss.take 100) = S at hF hI hle
  obtain ⟨R, N⟩ := S
  replace hle : N ≤ min 100 ss.length := hle
  have hRow := fun w g (h : FB w g R N) => row_any w now h (by omega)
  have hBest := fun w g (h : FB w g R N) => best_any w now h (by omega)
  have hLen := fun w g (h : FB w g R N) => len_any w h (by omega)
  have hrl := rowN_len R N now
  have HSO := Lib.hid (show ∀ t, 0 < t → t < min N 8 → distN (rg (rowN R N now) (t - 1)) now ≤ distN (rg (rowN R N now) t) now from fun t => row_so R N now)
  have HME := Lib.hid (show ∀ t, t < min N 8 → ∃ j, j < n ∧ rg ss j = rg (rowN R N now) t from fun t ht => by
    have := row_mem hI now _ (rg_mem (by rw [rowN_len]; exact ht))
    obtain ⟨k, hk, e⟩ := mem_rg (List.mem_of_mem_take this.1)
    exact ⟨k, by omega, e⟩)
  have HBN := Lib.hid (show bestN R N now = if N = 0 then s0 else rg (rowN R N now) 0 from rfl)
  obtain ⟨m, hm⟩ : ∃ m, min N 8 = m := ⟨_, rfl⟩
  have hNm : N = 0 ↔ m = 0 := by omega
  rw [hm] at hrl HME hLen HSO
  have hm8 : m ≤ 8 := by omega
  generalize rowN R N now = rs at hRow hrl HSO HME HBN
  unfold ROW at hRow
  rw [hrl] at hRow
  have HNM := Lib.hid hNm
  clear hI hle hm hNm
  go_enter Try.func3, Try.ntmps3
  go_upto_region 3 with (first
    | (go_at_call 8; refine hF.mono ?_; rintro e w1 ⟨g, rfl, hg, hfb, hb1⟩)
    | (go_at_call 9; refine (hRow _ _ hfb).mono ?_; rintro e w2 ⟨A2, c2, rfl, hrs, hb2⟩))
  clear hRow hF
  have hz1 := hb1.size
  have HB2 := Lib.hid (hb1.trans (hb2.mono hz1))
  have HR := Lib.hid (h.below HB2.out)
  have hfb2 := hfb.below hb2
  clear hfb hb1 hb2 h
  go_wp2_with fail
  go_loopw [7] (fun i wr => ∃ (t : Nat), t ≤ m ∧ i = .int .i64 (t : Int) ∧ Below w2.heap.size w2 wr) (fun i _ => m - (intOf i).toNat)
  case atStart => exact ⟨0, Nat.zero_le _, rfl, Below.refl _ _⟩
  case round =>
    obtain ⟨t, ht, rfl, hbel⟩ := hrel
    by_cases hlt : t < m
    · have a1 : (t : Int) < (m : Int) := by omega
      have a0 : (0 : Int) ≤ (t : Int) := by omega
      have i1 : IntKind.i64.wrap ((t : Int) + 1) = (t : Int) + 1 := IntWalk.i64_in _ (by omega)
      obtain ⟨j0, hj0, hje⟩ := HME.out t hlt
      obtain ⟨g2, rfl, hg2, hsb⟩ : ∃ g, A2 = some ⟨g, 0, none⟩ ∧ w1.heap.size ≤ g ∧ SB w2 g rs := by
        rcases hrs.1.2 with ⟨_, h⟩ | h
        · omega
        · exact h
      have HSB := Lib.hid hsb
      have HBEL := Lib.hid hbel
      have hsz := hbel.size
      clear hrs hsb hbel
      go_upto_region 8 with (fail)
      go_loopw [8, 9] (fun b i wi => ∃ (k : Nat) (q : Bool), k ≤ n ∧ i = .int .i64 (k : Int) ∧ b = .bool q ∧ (j0 < k → q = true) ∧ Below w2.heap.size w2 wi) (fun _ i _ => n - (intOf i).toNat)
      case atStart => exact ⟨0, false, Nat.zero_le _, rfl, rfl, fun h => absurd h (by omega), HBEL.out⟩
      case round =>
        obtain ⟨k, q, hk, rfl, rfl, hq, hbi⟩ := hrel
        have hszi := hbi.size
        have HBI := Lib.hid hbi
        have HQ := Lib.hid hq
        clear hq
        by_cases hkn : k < n
        · have b1 : (k : Int) < (n : Int) := by omega
          have b0 : (0 : Int) ≤ (k : Int) := by omega
          have i2 : IntKind.i64.wrap ((k : Int) + 1) = (k : Int) + 1 := IntWalk.i64_in _ (by omega)
          cases q
          · obtain ⟨ad, rfl, hab, C0, C1, C2, C3⟩ := (HR.out.below hbi).cells4 hkn
            have DD := fun w' (h : Below wr.heap.size wr w') => ((HSB.out.below hbi).below h).at (j := t) (by omega)
            have D0 : ∀ w', Below wr.heap.size wr w' → w'.cell? ⟨g2, t * 4, none⟩ = some (.int .i64 (rg rs t).o) := fun w' h => (DD w' h).1
            have D1 : ∀ w', Below wr.heap.size wr w' → w'.cell? ⟨g2, t * 4 + 1, none⟩ = some (.int .i64 (rg rs t).d) := fun w' h => (DD w' h).2.1
            have D2 : ∀ w', Below wr.heap.size wr w' → w'.cell? ⟨g2, t * 4 + 2, none⟩ = some (.int .i64 (rg rs t).p) := fun w' h => (DD w' h).2.2.1
            have D3 : ∀ w', Below wr.heap.size wr w' → w'.cell? ⟨g2, t * 4 + 3, none⟩ = some (.int .i64 (rg rs t).a) := fun w' h => (DD w' h).2.2.2
            clear DD hbi
            go_upto_region 10 with (fail)
            (refine region_told_tail 12 _ (by kernel_rfl) (by kernel_rfl) (by simp only [List.take_succ_cons, List.take_zero, putAll, Act.put, List.setIfInBounds_toArray, List.set_cons_zero, List.set_cons_succ, Nat.reduceAdd]; rfl) ?_; simp only [List.take_succ_cons, List.take_zero, List.drop_succ_cons, List.drop_zero])
            iterate 10 (refine told_step (fun v _ => v = _) (Stays.eq _) (by intro y w' hw' hd; simp only [depsOf, updG, Region.binds, Nat.reduceAdd, Nat.reduceEqDiff, if_false, if_true, and_true, true_and, forall_const, Array.toList, GTrue] at hd; (try go_split_ands); unfold toldAt; go_simp; exact ⟨Below.refl _ _, rfl⟩) ?_)
            (refine told_step (fun v _ => v = .bool ((rg ss k).o == (rg rs t).o && ((rg ss k).d == (rg rs t).d && ((rg ss k).p == (rg rs t).p && (rg ss k).a == (rg rs t).a)))) (Stays.eq _) (by intro y w' hw' hd; simp only [depsOf, updG, Region.binds, Nat.reduceAdd, Nat.reduceEqDiff, if_false, if_true, and_true, true_and, forall_const, Array.toList, GTrue] at hd; (try go_split_ands); unfold toldAt; go_simp; (repeat' split) <;> (go_simp; exact Below.refl _ _)) ?_)
            repeat (refine told_step (fun v _ => v = _) (Stays.eq _) (by intro y w' hw' hd; simp only [depsOf, updG, Region.binds, Nat.reduceAdd, Nat.reduceEqDiff, if_false, if_true, and_true, true_and, forall_const, Array.toList, GTrue] at hd; (try go_split_ands); unfold toldAt; go_simp; exact ⟨Below.refl _ _, rfl⟩) ?_)
            (refine told_nil ?_; intro y w3 hw3 hd)
            obtain ⟨b, hb, hbt⟩ : ∃ b, y 11 = .bool b ∧ (k = j0 → b = true) := ⟨_, hd 11 (by decide), fun e => by rw [e, hje]; simp⟩
            rw [hb]
            clear hd hb C0 C1 C2 C3 D0 D1 D2 D3
            have HW := Lib.hid (HBI.out.trans (hw3.mono hszi))
            clear hw3
            go_wp2_with fail
            go_roundw
            case rel => exact ⟨k + 1, b, by omega, by go_num, rfl, fun hjk => by
              rcases Nat.lt_or_ge j0 k with h1 | h1
              · exact absurd (HQ.out h1) (by decide)
              · exact hbt (by omega), HW.out⟩
            case measure => simp [intOf]; omega
          · clear hbi
            go_upto_region 10 with (fail)
            (refine region_told_tail 12 _ (by kernel_rfl) (by kernel_rfl) (by simp only [List.take_succ_cons, List.take_zero, putAll, Act.put, List.setIfInBounds_toArray, List.set_cons_zero, List.set_cons_succ, Nat.reduceAdd]; rfl) ?_; simp only [List.take_succ_cons, List.take_zero, List.drop_succ_cons, List.drop_zero])
            iterate 2 (refine told_step (fun v _ => v = _) (Stays.eq _) (by intro y w' hw' hd; simp only [depsOf, updG, Region.binds, Nat.reduceAdd, Nat.reduceEqDiff, if_false, if_true, and_true, true_and, forall_const, Array.toList, GTrue] at hd; (try go_split_ands); unfold toldAt; go_simp; exact ⟨Below.refl _ _, rfl⟩) ?_)
            iterate 9 (refine told_step (fun v _ => v = undef) (Stays.eq _) (by intro y w' hw' hd; simp only [depsOf, updG, Region.binds, Nat.reduceAdd, Nat.reduceEqDiff, if_false, if_true, and_true, true_and, forall_const, Array.toList, GTrue] at hd; (try go_split_ands); unfold toldAt; go_simp) ?_)
            repeat (refine told_step (fun v _ => v = _) (Stays.eq _) (by intro y w' hw' hd; simp only [depsOf, updG, Region.binds, Nat.reduceAdd, Nat.reduceEqDiff, if_false, if_true, and_true, true_and, forall_const, Array.toList, GTrue] at hd; (try go_split_ands); unfold toldAt; go_simp; exact ⟨Below.refl _ _, rfl⟩) ?_)
            (refine told_nil ?_; intro y w3 hw3 hd)
            have H11 : y 11 = .bool true := hd 11 (by decide)
            rw [H11]
            clear hd H11
            have HW := Lib.hid (HBI.out.trans (hw3.mono hszi))
            clear hw3
            go_wp2_with fail
            go_roundw
            case rel => exact ⟨k + 1, true, by omega, by go_num, rfl, fun _ => rfl, HW.out⟩
            case measure => simp [intOf]; omega
        · obtain rfl : k = n := by omega
          obtain rfl : q = true := HQ.out hj0
          have b1 : ¬ (k : Int) < (k : Int) := by omega
          clear hbi
          go_upto_region 11 with (fail)
          rcases Nat.eq_zero_or_pos t with h0 | h0
          · have a5 : ¬ (0 : Int) < (t : Int) := by omega
            (refine region_told _ (by kernel_rfl) (by kernel_rfl) (by simp only [putAll, Act.put, List.setIfInBounds_toArray, List.set_cons_zero, List.set_cons_succ, Nat.reduceAdd]; rfl) ?_)
            iterate 6 (refine told_step (fun v _ => v = _) (Stays.eq _) (by intro y w' hw' hd; simp only [depsOf, updG, Region.binds, Nat.reduceAdd, Nat.reduceEqDiff, if_false, if_true, and_true, true_and, forall_const, Array.toList, GTrue] at hd; (try go_split_ands); unfold toldAt; go_simp; exact ⟨Below.refl _ _, rfl⟩) ?_)
            iterate 14 (refine told_step (fun v _ => v = undef) (Stays.eq _) (by intro y w' hw' hd; simp only [depsOf, updG, Region.binds, Nat.reduceAdd, Nat.reduceEqDiff, if_false, if_true, and_true, true_and, forall_const, Array.toList, GTrue] at hd; (try go_split_ands); unfold toldAt; go_simp) ?_)
            repeat (refine told_step (fun v _ => v = _) (Stays.eq _) (by intro y w' hw' hd; simp only [depsOf, updG, Region.binds, Nat.reduceAdd, Nat.reduceEqDiff, if_false, if_true, and_true, true_and, forall_const, Array.toList, GTrue] at hd; (try go_split_ands); unfold toldAt; go_simp; exact ⟨Below.refl _ _, rfl⟩) ?_)
            (refine told_nil ?_; intro y w3 hw3 hd)
            have H21 : y 21 = .bool false := hd 21 (by decide)
            rw [H21]
            clear hd H21
            have HW := Lib.hid (HBI.out.trans (hw3.mono hszi))
            clear hw3
            go_wp2_with fail
            go_roundw
            case rel => exact ⟨t + 1, by omega, by go_num, HW.out⟩
            case measure => simp [intOf]; omega
          · have a5 : (0 : Int) < (t : Int) := by omega
            obtain ⟨p, hp⟩ : ∃ p, t - 1 = p := ⟨_, rfl⟩
            have i3 : IntKind.i64.wrap ((t : Int) - 1) = (p : Int) := by rw [IntWalk.i64_in _ (by omega)]; omega
            have p0 : (0 : Int) ≤ (p : Int) := by omega
            have p1 : (p : Int) < (m : Int) := by omega
            have p1n : p < m := by omega
            have hso := HSO.out t h0 hlt
            rw [hp] at hso
            have DD := fun j (hj : j < m) w' (h : Below wr.heap.size wr w') => ((HSB.out.below HBI.out).below h).at (j := j) (by omega)
            have C0 : ∀ w', Below wr.heap.size wr w' → w'.cell? ⟨g2, t * 4, none⟩ = some (.int .i64 (rg rs t).o) := fun w' h => (DD t hlt w' h).1
            have C1 : ∀ w', Below wr.heap.size wr w' → w'.cell? ⟨g2, t * 4 + 1, none⟩ = some (.int .i64 (rg rs t).d) := fun w' h => (DD t hlt w' h).2.1
            have C2 : ∀ w', Below wr.heap.size wr w' → w'.cell? ⟨g2, t * 4 + 2, none⟩ = some (.int .i64 (rg rs t).p) := fun w' h => (DD t hlt w' h).2.2.1
            have C3 : ∀ w', Below wr.heap.size wr w' → w'.cell? ⟨g2, t * 4 + 3, none⟩ = some (.int .i64 (rg rs t).a) := fun w' h => (DD t hlt w' h).2.2.2
            have D0 : ∀ w', Below wr.heap.size wr w' → w'.cell? ⟨g2, p * 4, none⟩ = some (.int .i64 (rg rs p).o) := fun w' h => (DD p p1n w' h).1
            have D1 : ∀ w', Below wr.heap.size wr w' → w'.cell? ⟨g2, p * 4 + 1, none⟩ = some (.int .i64 (rg rs p).d) := fun w' h => (DD p p1n w' h).2.1
            have D2 : ∀ w', Below wr.heap.size wr w' → w'.cell? ⟨g2, p * 4 + 2, none⟩ = some (.int .i64 (rg rs p).p) := fun w' h => (DD p p1n w' h).2.2.1
            have D3 : ∀ w', Below wr.heap.size wr w' → w'.cell? ⟨g2, p * 4 + 3, none⟩ = some (.int .i64 (rg rs p).a) := fun w' h => (DD p p1n w' h).2.2.2
            have hD1 := fun w => dist_any w (rg rs t) now
            have hD2 := fun w => dist_any w (rg rs p) now
            generalize distN (rg rs t) now = d1 at hD1 hso
            generalize distN (rg rs p) now = d2 at hD2 hso
            generalize rg rs p = u at hD2 D0 D1 D2 D3
            rw [← hje] at hD1 C0 C1 C2 C3
            generalize rg ss j0 = v at hD1 C0 C1 C2 C3
            obtain ⟨uo, ud, up, ua⟩ := u
            obtain ⟨vo, vd, vp, va⟩ := v
            have t1 : ¬ d1 < d2 := by omega
            unfold sv at hD1 hD2
            clear hp hso DD
            (refine region_told _ (by kernel_rfl) (by kernel_rfl) (by simp only [putAll, Act.put, List.setIfInBounds_toArray, List.set_cons_zero, List.set_cons_succ, Nat.reduceAdd]; rfl) ?_)
            iterate 11 (refine told_step (fun v _ => v = _) (Stays.eq _) (by intro y w' hw' hd; simp only [depsOf, updG, Region.binds, Nat.reduceAdd, Nat.reduceEqDiff, if_false, if_true, and_true, true_and, forall_const, Array.toList, GTrue] at hd; (try go_split_ands); unfold toldAt; go_simp; exact ⟨Below.refl _ _, rfl⟩) ?_)
            (refine told_step (fun v _ => v = _) (Stays.eq _) (by intro y w' hw' hd; simp only [depsOf, updG, Region.binds, Nat.reduceAdd, Nat.reduceEqDiff, if_false, if_true, and_true, true_and, forall_const, Array.toList, GTrue] at hd; (try go_split_ands); unfold toldAt; go_simp; refine ⟨Below.refl _ _, ?_⟩; exact hD1 w') ?_)
            iterate 6 (refine told_step (fun v _ => v = _) (Stays.eq _) (by intro y w' hw' hd; simp only [depsOf, updG, Region.binds, Nat.reduceAdd, Nat.reduceEqDiff, if_false, if_true, and_true, true_and, forall_const, Array.toList, GTrue] at hd; (try go_split_ands); unfold toldAt; go_simp; exact ⟨Below.refl _ _, rfl⟩) ?_)
            (refine told_step (fun v _ => v = _) (Stays.eq _) (by intro y w' hw' hd; simp only [depsOf, updG, Region.binds, Nat.reduceAdd, Nat.reduceEqDiff, if_false, if_true, and_true, true_and, forall_const, Array.toList, GTrue] at hd; (try go_split_ands); unfold toldAt; go_simp; refine ⟨Below.refl _ _, ?_⟩; exact hD2 w') ?_)
            repeat (refine told_step (fun v _ => v = _) (Stays.eq _) (by intro y w' hw' hd; simp only [depsOf, updG, Region.binds, Nat.reduceAdd, Nat.reduceEqDiff, if_false, if_true, and_true, true_and, forall_const, Array.toList, GTrue] at hd; (try go_split_ands); unfold toldAt; go_simp; exact ⟨Below.refl _ _, rfl⟩) ?_)
            (refine told_nil ?_; intro y w3 hw3 hd)
            have H21 : y 21 = .bool false := hd 21 (by decide)
            rw [H21]
            clear hd H21 C0 C1 C2 C3 D0 D1 D2 D3
            have HW := Lib.hid (HBI.out.trans (hw3.mono hszi))
            clear hw3
            go_wp2_with fail
            go_roundw
            case rel => exact ⟨t + 1, by omega, by go_num, HW.out⟩
            case measure => simp [intOf]; omega
    · obtain rfl : t = m := by omega
      have a1 : ¬ (t : Int) < (t : Int) := by omega
      have hfb3 := hfb2.below hbel
      have hz2 := HB2.out.size
      have HB3 := Lib.hid (HB2.out.trans (hbel.mono hz2))
      have hBe := hBest wr _ hfb3
      have hLn : ∀ w', Below wr.heap.size wr w' → Calls Try.prog 13 #[.pointer (some ⟨g, 0, none⟩)] w' fun e w'' => e = .returned (.int .i64 (t : Int)) ∧ Below w'.heap.size w' w'' := fun w' hw => (hLen w' _ (hfb3.below hw)).mono (by rintro e w'' ⟨rfl, rfl⟩; exact ⟨rfl, Below.refl _ _⟩)
      have HLN := Lib.hid hLn
      have HSB := Lib.hid (show 0 < t → ∃ g2, A2 = some ⟨g2, 0, none⟩ ∧ SB wr g2 rs from fun h0 => by
        rcases hrs.1.2 with ⟨_, h⟩ | ⟨g2, h1, _, h3⟩
        · omega
        · exact ⟨g2, h1, h3.below hbel⟩)
      clear hBest hLen hLn hfb2 hfb3 hbel hrs
      have hNm := HNM.out
      rw [HBN.out] at hBe
      unfold BES at hBe
      by_cases hN : N = 0
      · rw [if_pos hN, if_pos hN] at hBe
        have t0 : t = 0 := hNm.1 hN
        have a5 : ¬ (0 : Int) < (t : Int) := by omega
        clear hNm hN
        unfold sv s0 at hBe
        simp only at hBe
        go_upto_region 14 with (go_at_call 11; refine hBe.mono ?_; rintro e w5 ⟨rfl, hb5⟩)
        obtain ⟨wz, hwz⟩ : ∃ x, w5.alloc (.cells #[.int .i64 0, .int .i64 0, .int .i64 0, .int .i64 0] 27) = x := ⟨_, rfl⟩
        have hn : Below w5.heap.size w5 wz := by rw [← hwz]; exact (Below.refl _ _).alloc (Nat.le_refl _) _
        have hz5 := hb5.size
        have hb6 := hb5.trans (hn.mono hz5)
        have hz6 := hb6.size
        have HB6 := Lib.hid hb6
        have HZ := Lib.hid (HB3.out.trans (hb6.mono HB3.out.size))
        rw [hwz]
        clear hwz hn hb5 hb6 hBe
        (refine region_told _ (by kernel_rfl) (by kernel_rfl) (by simp only [putAll, Act.put, List.setIfInBounds_toArray, List.set_cons_zero, List.set_cons_succ, Nat.reduceAdd]; rfl) ?_)
        (refine told_step (fun v _ => v = _) (Stays.eq _) (by intro y w' hw' hd; simp only [depsOf, updG, Region.binds, Nat.reduceAdd, Nat.reduceEqDiff, if_false, if_true, and_true, true_and, forall_const, Array.toList, GTrue] at hd; (try go_split_ands); unfold toldAt; go_simp; refine ⟨Below.refl _ _, ?_⟩; exact hAl w') ?_)
        iterate 12 (refine told_step (fun v _ => v = _) (Stays.eq _) (by intro y w' hw' hd; simp only [depsOf, updG, Region.binds, Nat.reduceAdd, Nat.reduceEqDiff, if_false, if_true, and_true, true_and, forall_const, Array.toList, GTrue] at hd; (try go_split_ands); unfold toldAt; go_simp; exact ⟨Below.refl _ _, rfl⟩) ?_)
        iterate 5 (refine told_step (fun v _ => v = undef) (Stays.eq _) (by intro y w' hw' hd; simp only [depsOf, updG, Region.binds, Nat.reduceAdd, Nat.reduceEqDiff, if_false, if_true, and_true, true_and, forall_const, Array.toList, GTrue] at hd; (try go_split_ands); unfold toldAt; go_simp) ?_)
        repeat (refine told_step (fun v _ => v = _) (Stays.eq _) (by intro y w' hw' hd; simp only [depsOf, updG, Region.binds, Nat.reduceAdd, Nat.reduceEqDiff, if_false, if_true, and_true, true_and, forall_const, Array.toList, GTrue] at hd; (try go_split_ands); unfold toldAt; go_simp; exact ⟨Below.refl _ _, rfl⟩) ?_)
        (refine told_step (fun v _ => v = _) (Stays.eq _) (by intro y w' hw' hd; simp only [depsOf, updG, Region.binds, Nat.reduceAdd, Nat.reduceEqDiff, if_false, if_true, and_true, true_and, forall_const, Array.toList, GTrue] at hd; (try go_split_ands); unfold toldAt; go_simp; refine ⟨Below.refl _ _, ?_⟩; exact HLN.out w' (HB6.out.trans (hw'.mono hz6))) ?_)
        repeat (refine told_step (fun v _ => v = _) (Stays.eq _) (by intro y w' hw' hd; simp only [depsOf, updG, Region.binds, Nat.reduceAdd, Nat.reduceEqDiff, if_false, if_true, and_true, true_and, forall_const, Array.toList, GTrue] at hd; (try go_split_ands); unfold toldAt; go_simp; exact ⟨Below.refl _ _, rfl⟩) ?_)
        (refine told_nil ?_; intro y w3 hw3 hd)
        have H27 : y 27 = .bool true := hd 27 (by decide)
        rw [H27]
        clear hd H27
        have HW := Lib.hid (HZ.out.trans (hw3.mono HZ.out.size))
        clear hw3
        go_wp2_with fail
        go_ret
        exact ⟨rfl, HW.out⟩
      · rw [if_neg hN, if_neg hN] at hBe
        have t0 : 0 < t := by omega
        have a5 : (0 : Int) < (t : Int) := by omega
        clear hNm hN
        obtain ⟨g2, rfl, hsb⟩ := HSB.out t0
        obtain ⟨d0, d1, d2, d3⟩ := hsb.at (j := 0) (by omega)
        rw [Nat.zero_mul] at d0 d1 d2 d3
        have hg2 := hsb.lt
        clear hsb
        generalize rg rs 0 = u at hBe d0 d1 d2 d3
        obtain ⟨uo, ud, up, ua⟩ := u
        unfold sv at hBe
        go_upto_region 14 with (go_at_call 11; refine hBe.mono ?_; rintro e w5 ⟨rfl, hb5⟩)
        obtain ⟨wz, hwz⟩ : ∃ x, w5.alloc (.cells #[.int .i64 uo, .int .i64 ud, .int .i64 up, .int .i64 ua] 27) = x := ⟨_, rfl⟩
        have hk : Bk wz w5.heap.size 27 #[.int .i64 uo, .int .i64 ud, .int .i64 up, .int .i64 ua] := by rw [← hwz]; exact Bk.new w5 _ _
        have hn : Below w5.heap.size w5 wz := by rw [← hwz]; exact (Below.refl _ _).alloc (Nat.le_refl _) _
        have hz5 := hb5.size
        have hb6 := hb5.trans (hn.mono hz5)
        have hz6 := hb6.size
        have HB6 := Lib.hid hb6
        have HZ := Lib.hid (HB3.out.trans (hb6.mono HB3.out.size))
        have gz : g2 < wz.heap.size := Nat.lt_of_lt_of_le hg2 hz6
        have D0 : ∀ w', Below wz.heap.size wz w' → w'.cell? ⟨g2, 0, none⟩ = some (.int .i64 uo) := fun w' h => (h.cell (p := ⟨g2, 0, none⟩) gz).trans ((hb6.cell (p := ⟨g2, 0, none⟩) hg2).trans d0)
        have D1 : ∀ w', Below wz.heap.size wz w' → w'.cell? ⟨g2, 1, none⟩ = some (.int .i64 ud) := fun w' h => (h.cell (p := ⟨g2, 1, none⟩) gz).trans ((hb6.cell (p := ⟨g2, 1, none⟩) hg2).trans d1)
        have D2 : ∀ w', Below wz.heap.size wz w' → w'.cell? ⟨g2, 2, none⟩ = some (.int .i64 up) := fun w' h => (h.cell (p := ⟨g2, 2, none⟩) gz).trans ((hb6.cell (p := ⟨g2, 2, none⟩) hg2).trans d2)
        have D3 : ∀ w', Below wz.heap.size wz w' → w'.cell? ⟨g2, 3, none⟩ = some (.int .i64 ua) := fun w' h => (h.cell (p := ⟨g2, 3, none⟩) gz).trans ((hb6.cell (p := ⟨g2, 3, none⟩) hg2).trans d3)
        have E0 : ∀ w', Below wz.heap.size wz w' → w'.cell? ⟨w5.heap.size, 0, none⟩ = some (.int .i64 uo) := fun w' h => (hk.below h hk.lt).cell 0
        have E1 : ∀ w', Below wz.heap.size wz w' → w'.cell? ⟨w5.heap.size, 1, none⟩ = some (.int .i64 ud) := fun w' h => (hk.below h hk.lt).cell 1
        have E2 : ∀ w', Below wz.heap.size wz w' → w'.cell? ⟨w5.heap.size, 2, none⟩ = some (.int .i64 up) := fun w' h => (hk.below h hk.lt).cell 2
        have E3 : ∀ w', Below wz.heap.size wz w' → w'.cell? ⟨w5.heap.size, 3, none⟩ = some (.int .i64 ua) := fun w' h => (hk.below h hk.lt).cell 3
        rw [hwz]
        clear hwz hn hb5 hb6 hBe hk d0 d1 d2 d3
        (refine region_told _ (by kernel_rfl) (by kernel_rfl) (by simp only [putAll, Act.put, List.setIfInBounds_toArray, List.set_cons_zero, List.set_cons_succ, Nat.reduceAdd]; rfl) ?_)
        (refine told_step (fun v _ => v = _) (Stays.eq _) (by intro y w' hw' hd; simp only [depsOf, updG, Region.binds, Nat.reduceAdd, Nat.reduceEqDiff, if_false, if_true, and_true, true_and, forall_const, Array.toList, GTrue] at hd; (try go_split_ands); unfold toldAt; go_simp; refine ⟨Below.refl _ _, ?_⟩; exact hAl w') ?_)
        repeat (refine told_step (fun v _ => v = _) (Stays.eq _) (by intro y w' hw' hd; simp only [depsOf, updG, Region.binds, Nat.reduceAdd, Nat.reduceEqDiff, if_false, if_true, and_true, true_and, forall_const, Array.toList, GTrue] at hd; (try go_split_ands); unfold toldAt; go_simp; exact ⟨Below.refl _ _, rfl⟩) ?_)
        (refine told_step (fun v _ => v = _) (Stays.eq _) (by intro y w' hw' hd; simp only [depsOf, updG, Region.binds, Nat.reduceAdd, Nat.reduceEqDiff, if_false, if_true, and_true, true_and, forall_const, Array.toList, GTrue] at hd; (try go_split_ands); unfold toldAt; go_simp; refine ⟨Below.refl _ _, ?_⟩; exact HLN.out w' (HB6.out.trans (hw'.mono hz6))) ?_)
        repeat (refine told_step (fun v _ => v = _) (Stays.eq _) (by intro y w' hw' hd; simp only [depsOf, updG, Region.binds, Nat.reduceAdd, Nat.reduceEqDiff, if_false, if_true, and_true, true_and, forall_const, Array.toList, GTrue] at hd; (try go_split_ands); unfold toldAt; go_simp; exact ⟨Below.refl _ _, rfl⟩) ?_)
        (refine told_nil ?_; intro y w3 hw3 hd)
        have H27 : y 27 = .bool true := hd 27 (by decide)
        rw [H27]
        clear hd H27 D0 D1 D2 D3 E0 E1 E2 E3
        have HW := Lib.hid (HZ.out.trans (hw3.mono HZ.out.size))
        clear hw3
        go_wp2_with fail
        go_ret
        exact ⟨rfl, HW.out⟩
end Go.Proofs.Ytbiajjdjbnnggaa
