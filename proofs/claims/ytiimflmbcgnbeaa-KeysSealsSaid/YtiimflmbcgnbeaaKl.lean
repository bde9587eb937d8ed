/- Sums of fronts are told, and whether one is a front's: the walk. -/
import Derived.Test.YtiimflmbcgnbeaaKj
import Derived.Test.YtiimflmbcgnbeaaTd
namespace Go.Proofs.Ytiimflmbcgnbeaa
set_option linter.unusedSimpArgs false
set_option linter.unusedVariables false
open Go.RowKit Go.Proofs.YtiimflmbcgnbeaaW.PrintWords

theorem mac_rd' {w : World} {g : Nat} {k f : List Nat} (h : Bk w g 26 (va .u8 (shaN (k ++ f)))) : Rd .u8 w (some ⟨g, 0, none⟩) 16 16 ((shaN (k ++ f)).take 16) := by
  have h1 := (Own.of_bk (k := .u8) (base := 0) (n := 32) h (Nat.zero_le _) (shaN_length _) (by omega)).rd.take (m := 16) (by omega)
  obtain ⟨q1, _, q3, q4⟩ := h1
  exact ⟨q1, Nat.le_refl _, q3, q4⟩
attribute [local go_sem] toldUpon_value toldUpon_skip toldUpon_enter
set_option maxRecDepth 100000 in
set_option maxHeartbeats 4000000 in
theorem walk_KeysSeals (a b c d : Int) (A0 : Option Addr) (n0 c0 : Nat) (f : List Nat) (A1 : Option Addr) (n1 c1 : Nat) (s : List Nat) (W : World) (wa : (Lit.int .u32 a).wf = true) (wb : (Lit.int .u32 b).wf = true) (wc : (Lit.int .u32 c).wf = true) (wd : (Lit.int .u32 d).wf = true)
    (rd0 : Rd .u8 W A0 n0 c0 f) (f8 : B8 f) (al0 : ∀ ad, A0 = some ad → ad.block < W.heap.size) (y0 : n0 * 1 ≤ 140737488351232) (rd1 : Rd .u8 W A1 n1 c1 s) (s8 : B8 s) (al1 : ∀ ad, A1 = some ad → ad.block < W.heap.size) (y1 : n1 * 1 ≤ 140737488351232) :
    Calls Try.prog 14 #[.int .u32 a, .int .u32 b, .int .u32 c, .int .u32 d, .slice A0 n0 c0, .slice A1 n1 c1] W fun e w' => e = .returned (.bool true) ∧ Below W.heap.size W w' := by
  obtain ⟨a, rfl, la⟩ := u32_nat wa
  obtain ⟨b, rfl, lb⟩ := u32_nat wb
  obtain ⟨c, rfl, lc⟩ := u32_nat wc
  obtain ⟨d, rfl, ld⟩ := u32_nat wd
  go_enter Try.func14, Try.ntmps14
  by_cases h1 : (300 : Int) < (n0 : Int)
  · skip
    go_wp2_with (go_at_call 33; refine (kalive_any _).mono ?_; rintro e w1 ⟨rfl, hb1⟩)
    go_ret
    exact ⟨rfl, hb1⟩
  by_cases h2 : (300 : Int) < (n1 : Int)
  · skip
    go_wp2_with (go_at_call 33; refine (kalive_any _).mono ?_; rintro e w1 ⟨rfl, hb1⟩)
    go_ret
    exact ⟨rfl, hb1⟩
  have hn0 : n0 ≤ 300 := by omega
  have hn1 : n1 ≤ 300 := by omega
  have t1 := decide_eq_false h1
  have t2 := decide_eq_false h2
  have hR := rsession_any W la lb lc ld
  go_upto_region 4 with (first
    | (go_at_call 39; refine (rmac_any _ r1 (sessN_b8 a b c d) (rd0.below b1) f8 (by omega)).mono ?_; rintro e w2 ⟨A3, c3, rfl, r2, b2⟩)
    | (go_at_call 40; refine hR.mono ?_; rintro e w1 ⟨A2, c2, rfl, r1, _, b1⟩))
  have r2' : Rd .u8 w2 A3 16 c3 (macN a b c d f) := r2
  have b12 := b1.trans (b2.mono b1.size)
  obtain ⟨M1, hM1⟩ : ∃ M, macN a b c d f = M := ⟨_, rfl⟩
  obtain ⟨M2, hM2⟩ : ∃ M, (shaN (s ++ f)).take 16 = M := ⟨_, rfl⟩
  rw [hM1] at r2'
  obtain ⟨v, hv⟩ : ∃ v, ((bstr M1).toList == (bstr s).toList) = v := ⟨_, rfl⟩
  have hv' : ((bstr s).toList == (bstr M1).toList) = v := by rw [← hv]; exact Bool.beq_comm
  have hM : ∀ w', Below w2.heap.size w2 w' → Calls Try.prog 41 #[.slice A1 n1 c1, .slice A0 n0 c0] w' fun e w'' => ∃ g, e = .returned (.slice (some ⟨g, 0, none⟩) 16 16) ∧ Rd .u8 w'' (some ⟨g, 0, none⟩) 16 16 M2 ∧ Below w'.heap.size w' w'' := fun w' h => (mac_any w' ((rd1.below b12).below h) s8 (fun ad e => Nat.lt_of_lt_of_le (al1 ad e) (Nat.le_trans b12.size h.size)) ((rd0.below b12).below h) f8 (fun ad e => Nat.lt_of_lt_of_le (al0 ad e) (Nat.le_trans b12.size h.size)) (by omega)).mono (by
    rintro e w'' ⟨g, rfl, hk, _, hb⟩
    exact ⟨g, rfl, hM2 ▸ mac_rd' hk, hb⟩)
  have hN := fun w' (h : Below w2.heap.size w2 w') => rmac_any w' ((rd1.below b12).below h) s8 ((rd0.below b12).below h) f8 (by omega)
  have hSe := fun w' (h : Below w2.heap.size w2 w') => sealed_any w' la lb lc ld ((rd0.below b12).below h) f8 (fun ad e => Nat.lt_of_lt_of_le (al0 ad e) (Nat.le_trans b12.size h.size)) (by omega) ((rd1.below b12).below h)
  rw [hM1, hv] at hSe
  rw [hM2] at hN
  have q1 := rd1.below b12
  have hsz := b12.size
  clear h1 h2 hR r1 r2 b1 b2 rd0 rd1 al0 al1 y0 y1 la lb lc ld hn0 hn1 hv t1 t2 hM1 hM2
  have za := fun w' (h : Below w2.heap.size w2 w') => conv_rd (q1.below h)
  have zb := fun w' (h : Below w2.heap.size w2 w') => conv_rd (r2'.below h)
  (refine region_told _ (by kernel_rfl) (by kernel_rfl) (by simp only [putAll, Act.put, List.setIfInBounds_toArray, List.set_cons_zero, List.set_cons_succ, Nat.reduceAdd]; rfl) ?_)
  (refine told_step (fun v _ => v = _) (Stays.eq _) (by intro y w' hw' hd; simp only [depsOf, updG, Region.binds, Nat.reduceAdd, Nat.reduceEqDiff, if_false, if_true, and_true, true_and, forall_const, Array.toList, GTrue] at hd; (try go_split_ands); unfold toldAt; go_simp; refine ⟨Below.refl _ _, ?_⟩; exact kalive_any w') ?_)
  repeat (refine told_step (fun v _ => v = _) (Stays.eq _) (by intro y w' hw' hd; simp only [depsOf, updG, Region.binds, Nat.reduceAdd, Nat.reduceEqDiff, if_false, if_true, and_true, true_and, forall_const, Array.toList, GTrue] at hd; (try go_split_ands); unfold toldAt; go_simp; exact ⟨Below.refl _ _, rfl⟩) ?_)
  (refine told_step (GRd .u8 16 M2) ( GRd.stays _ _ _) (by intro y w' hw' hd; simp only [depsOf, updG, Region.binds, Nat.reduceAdd, Nat.reduceEqDiff, if_false, if_true, and_true, true_and, forall_const, Array.toList, GTrue] at hd; (try go_split_ands); unfold toldAt; go_simp; refine ⟨Below.refl _ _, ?_⟩;  exact (hM _ hw').mono (by rintro e w4 ⟨g4, rfl, r4, b4⟩; exact ⟨_, rfl, b4, _, _, rfl, r4⟩)) ?_)
  (refine told_step (fun v _ => v = _) (Stays.eq _) (by intro y w' hw' hd; simp only [depsOf, updG, Region.binds, Nat.reduceAdd, Nat.reduceEqDiff, if_false, if_true, and_true, true_and, forall_const, Array.toList, GTrue] at hd; obtain ⟨⟨A4, c4, e4, r4⟩, d4⟩ := hd; have z4 := conv_rd r4; unfold toldAt; go_simp; exact ⟨Below.refl _ _, rfl⟩) ?_)
  repeat (refine told_step (fun v _ => v = _) (Stays.eq _) (by intro y w' hw' hd; simp only [depsOf, updG, Region.binds, Nat.reduceAdd, Nat.reduceEqDiff, if_false, if_true, and_true, true_and, forall_const, Array.toList, GTrue] at hd; (try go_split_ands); unfold toldAt; go_simp; exact ⟨Below.refl _ _, rfl⟩) ?_)
  (refine told_step (GRd .u8 16 M2) ( GRd.stays _ _ _) (by intro y w' hw' hd; simp only [depsOf, updG, Region.binds, Nat.reduceAdd, Nat.reduceEqDiff, if_false, if_true, and_true, true_and, forall_const, Array.toList, GTrue] at hd; (try go_split_ands); unfold toldAt; go_simp; refine ⟨Below.refl _ _, ?_⟩;  exact (hN _ hw').mono (by rintro e w5 ⟨A5, c5, rfl, r5, b5⟩; exact ⟨_, rfl, b5, _, _, rfl, r5⟩)) ?_)
  (refine told_step (fun v _ => v = _) (Stays.eq _) (by intro y w' hw' hd; simp only [depsOf, updG, Region.binds, Nat.reduceAdd, Nat.reduceEqDiff, if_false, if_true, and_true, true_and, forall_const, Array.toList, GTrue] at hd; obtain ⟨⟨A4, c4, e4, r4⟩, d4⟩ := hd; have z4 := conv_rd r4; unfold toldAt; go_simp; exact ⟨Below.refl _ _, rfl⟩) ?_)
  repeat (refine told_step (fun v _ => v = _) (Stays.eq _) (by intro y w' hw' hd; simp only [depsOf, updG, Region.binds, Nat.reduceAdd, Nat.reduceEqDiff, if_false, if_true, and_true, true_and, forall_const, Array.toList, GTrue] at hd; (try go_split_ands); unfold toldAt; go_simp; exact ⟨Below.refl _ _, rfl⟩) ?_)
  (refine told_step (fun v _ => v = _) (Stays.eq _) (by intro y w' hw' hd; simp only [depsOf, updG, Region.binds, Nat.reduceAdd, Nat.reduceEqDiff, if_false, if_true, and_true, true_and, forall_const, Array.toList, GTrue] at hd; (try go_split_ands); unfold toldAt; go_simp; refine ⟨Below.refl _ _, ?_⟩; exact hSe _ hw') ?_)
  repeat (refine told_step (fun v _ => v = _) (Stays.eq _) (by intro y w' hw' hd; simp only [depsOf, updG, Region.binds, Nat.reduceAdd, Nat.reduceEqDiff, if_false, if_true, and_true, true_and, forall_const, Array.toList, GTrue] at hd; (try go_split_ands); unfold toldAt; go_simp; exact ⟨Below.refl _ _, rfl⟩) ?_)
  (refine told_nil ?_; intro y w' hw' hd; replace hd := hd 27 (by decide); simp only [updG, Nat.reduceAdd, Nat.reduceEqDiff, if_false, if_true] at hd)
  have H27 : y 27 = .bool true := hd
  go_wp2_with fail
  go_ret
  exact ⟨congrArg Ending.returned H27, b12.trans (hw'.mono hsz)⟩
end Go.Proofs.Ytiimflmbcgnbeaa
