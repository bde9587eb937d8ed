/- The walk of the statement that with all signs turned all comes out turned. -/
import Derived.Test.YtjcoeianmihojaaL3
import Derived.RegionTactic
import Derived.ChangeAlike
namespace Go.Proofs.Ytjcoeianmihojaa
set_option linter.unusedSimpArgs false
set_option linter.unusedVariables false
open Go.RowKit

set_option maxHeartbeats 2000000 in
theorem DiscTurned_all (f l a p : Int) (s : Bool) (o t n : Int) (f' l' o' F L A P W S E F2 L2 A2 P2 W2 S2 X N G X2 N2 : Int) (B B2 Y Y2 : Bool) (Q1 Q2 Q3 R1 R2 R3 : Int) (w : World)
    (ef : wrap64 (-f) = f') (el : wrap64 (-l) = l') (eo : wrap64 (-o) = o')
    (h1 : ∀ w : World, Calls Try.prog 12 #[.agg #[.int .i64 f, .int .i64 l, .int .i64 a, .int .i64 p, .bool s], .int .i64 o, .int .i64 t] w fun e w' => e = .returned (updT F L A P B W S E) ∧ Below w.heap.size w w')
    (h2 : ∀ w : World, Calls Try.prog 12 #[.agg #[.int .i64 f', .int .i64 l', .int .i64 a, .int .i64 p, .bool s], .int .i64 o', .int .i64 t] w fun e w' => e = .returned (updT F2 L2 A2 P2 B2 W2 S2 E) ∧ Below w.heap.size w w')
    (h3 : ∀ w : World, Calls Try.prog 9 #[.agg #[.int .i64 f, .int .i64 l, .int .i64 a, .int .i64 p, .bool s], .int .i64 n] w fun e w' => e = .returned (.tuple #[.agg #[.int .i64 Q1, .int .i64 X, .int .i64 Q2, .int .i64 Q3, .bool Y], .int .i64 N, .int .i64 G]) ∧ Below w.heap.size w w')
    (h4 : ∀ w : World, Calls Try.prog 9 #[.agg #[.int .i64 f', .int .i64 l', .int .i64 a, .int .i64 p, .bool s], .int .i64 n] w fun e w' => e = .returned (.tuple #[.agg #[.int .i64 R1, .int .i64 X2, .int .i64 R2, .int .i64 R3, .bool Y2], .int .i64 N2, .int .i64 G]) ∧ Below w.heap.size w w')
    (eF : wrap64 (-F2) = F) (eL : wrap64 (-L2) = L) (eA : A2 = A) (eW : W2 = W) (eS : wrap64 (-S2) = S) (eX : wrap64 (-X2) = X) (eN : wrap64 (-N2) = N) :
    Calls Try.prog 7 #[.agg #[.int .i64 f, .int .i64 l, .int .i64 a, .int .i64 p, .bool s], .int .i64 o, .int .i64 t, .int .i64 n] w fun e w' => e = .returned (.bool true) ∧ Below w.heap.size w w' := by
  subst eA eW
  have H1 := Lib.hid h1
  have H2 := Lib.hid h2
  have H3 := Lib.hid h3
  have H4 := Lib.hid h4
  clear h1 h2 h3 h4
  go_enter Try.func7, Try.ntmps7
  go_wp2_with fail
  go_region
  go_wp2_with fail
  refine (H1.out _).mono ?_
  rintro e w1 ⟨rfl, hb1⟩
  obtain ⟨A1, A2, s1, s2, bb1⟩ := box2 (undrew1 hb1)
  have a2 := A2.cell
  simp only [updT]
  go_wp2_with fail
  refine (H2.out _).mono ?_
  rintro e w2 ⟨rfl, hb2⟩
  obtain ⟨C1, C2, s3, s4, bb2⟩ := box2 hb2
  have A1 := A1.below bb2 s1
  have A2 := A2.below bb2 s2
  have c1 := C1.cell
  have c2 := C2.cell
  have a1 := A1.cell
  have l1 : w.heap.size < w2.heap.size := by omega
  simp only [updT]
  go_wp2_with fail
  refine (H3.out _).mono ?_
  rintro e w3 ⟨rfl, hb3⟩
  obtain ⟨D1, D2, s5, s6, bb3⟩ := box2 hb3
  have A2 := A2.below bb3 (by omega)
  have a2' := A2.cell
  have l2 : w.heap.size + 1 < w3.heap.size := by omega
  go_wp2_with fail
  refine (H4.out _).mono ?_
  rintro e w4 ⟨rfl, hb4⟩
  obtain ⟨E1, s7, bb4⟩ := box1 hb4
  go_wp2_with fail
  refine (alive_any _).mono ?_
  rintro e w5 ⟨rfl, hb5⟩
  obtain ⟨F1, s8, bb5⟩ := box1 hb5
  have g1 := (E1.below bb5 s7).cell
  have g2 := F1.cell
  go_wp2_with fail
  go_ret
  exact ⟨rfl, (((bb1.trans (bb2.mono (by omega))).trans (bb3.mono (by omega))).trans (bb4.mono (by omega))).trans (bb5.mono (by omega))⟩

theorem near_wneg {x b : Int} (h : I64 x) (hb : b < 9223372036854775807) (hb0 : 0 ≤ b) : nearB (wrap64 (-x)) b = nearB x b := by
  have := h.lo; have := h.hi
  rw [Bool.eq_iff_iff, nearB_iff, nearB_iff]; unfold wrap64; omega
theorem may_wneg {f l a p : Int} (hf : I64 f) (hl : I64 l) : mayB (wrap64 (-f)) (wrap64 (-l)) a p = mayB f l a p := by
  have e1 := near_wneg hf (b := 2147483) (by decide) (by decide)
  have e2 := near_wneg hl (b := 1152921504606846976) (by decide) (by decide)
  unfold mayB
  rw [e1, e2]
theorem wneg_in {x : Int} (h0 : -9223372036854775808 < x) (h1 : x ≤ 9223372036854775807) : wrap64 (-x) = -x := IntWalk.wrap64_in _ (by omega)

theorem turned_upd (f l a p : Int) (s : Bool) (o t : Int) (hf : I64 f) (hl : I64 l) (ho : I64 o) :
    ∃ F L A P W S E F2 L2 P2 S2 B B2,
      (∀ w : World, Calls Try.prog 12 #[.agg #[.int .i64 f, .int .i64 l, .int .i64 a, .int .i64 p, .bool s], .int .i64 o, .int .i64 t] w fun e w' => e = .returned (updT F L A P B W S E) ∧ Below w.heap.size w w') ∧
      (∀ w : World, Calls Try.prog 12 #[.agg #[.int .i64 (wrap64 (-f)), .int .i64 (wrap64 (-l)), .int .i64 a, .int .i64 p, .bool s], .int .i64 (wrap64 (-o)), .int .i64 t] w fun e w' => e = .returned (updT F2 L2 A P2 B2 W S2 E) ∧ Below w.heap.size w w') ∧
      wrap64 (-F2) = F ∧ wrap64 (-L2) = L ∧ wrap64 (-S2) = S := by
  have em := may_wneg (a := a) (p := p) hf hl
  have e0 := near_wneg ho (b := 1152921504606846976) (by decide) (by decide)
  have e1 := near_wneg ho (b := 4294967296000) (by decide) (by decide)
  have e2 := near_wneg ho (b := 549755814) (by decide) (by decide)
  have z : wrap64 (-0) = 0 := IntWalk.wrap64_in _ (by omega)
  cases hm : mayB f l a p
  · exact ⟨0, 0, 0, 0, 0, 0, 1, 0, 0, 0, 0, false, false, fun w => Update_arg _ _ _ _ _ _ _ w (.inl hm), fun w => Update_arg _ _ _ _ _ _ _ w (.inl (em.trans hm)), z, z, z⟩
  cases hn : nearB o 1152921504606846976
  · exact ⟨0, 0, 0, 0, 0, 0, 1, 0, 0, 0, 0, false, false, fun w => Update_arg _ _ _ _ _ _ _ w (.inr (.inl hn)), fun w => Update_arg _ _ _ _ _ _ _ w (.inr (.inl (e0.trans hn))), z, z, z⟩
  cases ht : nearB t 1152921504606846976
  · exact ⟨0, 0, 0, 0, 0, 0, 1, 0, 0, 0, 0, false, false, fun w => Update_arg _ _ _ _ _ _ _ w (.inr (.inr ht)), fun w => Update_arg _ _ _ _ _ _ _ w (.inr (.inr ht)), z, z, z⟩
  obtain ⟨⟨f0, f1⟩, ⟨l0, l1⟩, _⟩ := mayB_iff.1 hm
  obtain ⟨o0, o1⟩ := nearB_iff.1 hn
  have wf := wneg_in (x := f) (by omega) (by omega)
  have wo := wneg_in (x := o) (by omega) (by omega)
  have wf' : wrap64 (-wrap64 (-f)) = f := by rw [wf, Int.neg_neg]; exact IntWalk.wrap64_in _ (by omega)
  have wo' : wrap64 (-wrap64 (-o)) = o := by rw [wo, Int.neg_neg]; exact IntWalk.wrap64_in _ (by omega)
  cases s
  · exact ⟨f, 0, t, p, 1, o, 0, _, 0, p, _, true, true, fun w => Update_first _ _ _ _ _ _ w hm hn ht, fun w => Update_first _ _ _ _ _ _ w (em.trans hm) (e0.trans hn) ht, wf', z, wo'⟩
  cases h1 : nearB o 4294967296000
  · exact ⟨0, 0, 0, 0, 0, 0, 160, 0, 0, 0, 0, false, false, fun w => Update_panic _ _ _ _ _ _ w hm hn ht h1, fun w => Update_panic _ _ _ _ _ _ w (em.trans hm) (e0.trans hn) ht (e1.trans h1), z, z, z⟩
  by_cases h2 : t < a
  · exact ⟨0, 0, 0, 0, 0, 0, 1, 0, 0, 0, 0, false, false, fun w => Update_early _ _ _ _ _ _ w hm hn ht h1 h2, fun w => Update_early _ _ _ _ _ _ w (em.trans hm) (e0.trans hn) ht (e1.trans h1) h2, z, z, z⟩
  cases h3 : nearB o 549755814
  · exact ⟨f, 0, t, p, 2, o, 0, _, 0, p, _, true, true, fun w => Update_step _ _ _ _ _ _ w hm hn ht h1 (by omega) h3, fun w => Update_step _ _ _ _ _ _ w (em.trans hm) (e0.trans hn) ht (e1.trans h1) (by omega) (e2.trans h3), wf', z, wo'⟩
  · refine ⟨freqU f a p o t, o, t, p, 3, 0, 0, _, _, p, 0, true, true, fun w => Update_slew _ _ _ _ _ _ w hm hn ht h1 (by omega) h3, fun w => Update_slew _ _ _ _ _ _ w (em.trans hm) (e0.trans hn) ht (e1.trans h1) (by omega) (e2.trans h3), ?_, wo', z⟩
    have fb := freq_bd f a p o t
    rw [wf, wo, freq_neg, Int.neg_neg]; exact IntWalk.wrap64_in _ (by omega)

theorem turned_slew (f l a p : Int) (s : Bool) (n : Int) (hf : I64 f) (hl : I64 l) :
    ∃ Q1 X Q2 Q3 Y N G R1 X2 R2 R3 Y2 N2,
      (∀ w : World, Calls Try.prog 9 #[.agg #[.int .i64 f, .int .i64 l, .int .i64 a, .int .i64 p, .bool s], .int .i64 n] w fun e w' => e = .returned (.tuple #[.agg #[.int .i64 Q1, .int .i64 X, .int .i64 Q2, .int .i64 Q3, .bool Y], .int .i64 N, .int .i64 G]) ∧ Below w.heap.size w w') ∧
      (∀ w : World, Calls Try.prog 9 #[.agg #[.int .i64 (wrap64 (-f)), .int .i64 (wrap64 (-l)), .int .i64 a, .int .i64 p, .bool s], .int .i64 n] w fun e w' => e = .returned (.tuple #[.agg #[.int .i64 R1, .int .i64 X2, .int .i64 R2, .int .i64 R3, .bool Y2], .int .i64 N2, .int .i64 G]) ∧ Below w.heap.size w w') ∧
      wrap64 (-X2) = X ∧ wrap64 (-N2) = N := by
  have em := may_wneg (a := a) (p := p) hf hl
  have z : wrap64 (-0) = 0 := IntWalk.wrap64_in _ (by omega)
  by_cases h : mayB f l a p = false ∨ n < 0 ∨ 4096 < n
  · exact ⟨0, 0, 0, 0, false, 0, 1, 0, 0, 0, 0, false, 0, fun w => Slew_no _ _ _ _ _ _ w h, fun w => Slew_no _ _ _ _ _ _ w (by rw [em]; exact h), z, z⟩
  · obtain ⟨m, rfl⟩ : ∃ m : Nat, n = m := ⟨n.toNat, by omega⟩
    have hm : mayB f l a p = true := by cases hx : mayB f l a p <;> simp_all
    obtain ⟨⟨f0, f1⟩, ⟨l0, l1⟩, _⟩ := mayB_iff.1 hm
    refine ⟨_, _, _, _, _, _, _, _, _, _, _, _, _, fun w => Slew_yes _ _ _ _ m _ w hm (by omega), fun w => Slew_yes _ _ _ _ m _ w (em.trans hm) (by omega), ?_, ?_⟩
    · have := leftN_bd m l0 l1
      rw [wneg_in (x := l) (by omega) (by omega), leftN_neg, Int.neg_neg]; exact IntWalk.wrap64_in _ (by omega)
    · have := sum_bd (k := m) (by omega) f0 f1 l0 l1
      rw [wneg_in (x := l) (by omega) (by omega), wneg_in (x := f) (by omega) (by omega), sum_neg, Int.neg_neg]; exact IntWalk.wrap64_in _ (by omega)

theorem walk_DiscTurned (f l a p : Int) (s : Bool) (o t n : Int) (w : World) (hf : (Lit.int .i64 f).wf = true) (hl : (Lit.int .i64 l).wf = true) (_ha : (Lit.int .i64 a).wf = true) (_hp : (Lit.int .i64 p).wf = true) (ho : (Lit.int .i64 o).wf = true) (_ht : (Lit.int .i64 t).wf = true) (_hn : (Lit.int .i64 n).wf = true) :
    Calls Try.prog 7 #[.agg #[.int .i64 f, .int .i64 l, .int .i64 a, .int .i64 p, .bool s], .int .i64 o, .int .i64 t, .int .i64 n] w fun e w' => e = .returned (.bool true) ∧ Below w.heap.size w w' := by
  obtain ⟨F, L, A, P, W, S, E, F2, L2, P2, S2, B, B2, u1, u2, x1, x2, x3⟩ := turned_upd f l a p s o t (i64_of hf) (i64_of hl) (i64_of ho)
  obtain ⟨Q1, X, Q2, Q3, Y, N, G, R1, X2, R2, R3, Y2, N2, v1, v2, y1, y2⟩ := turned_slew f l a p s n (i64_of hf) (i64_of hl)
  exact DiscTurned_all f l a p s o t n _ _ _ F L A P W S E F2 L2 A P2 W S2 X N G X2 N2 B B2 Y Y2 Q1 Q2 Q3 R1 R2 R3 w rfl rfl rfl u1 u2 v1 v2 x1 x2 rfl rfl x3 y1 y2
end Go.Proofs.Ytjcoeianmihojaa
