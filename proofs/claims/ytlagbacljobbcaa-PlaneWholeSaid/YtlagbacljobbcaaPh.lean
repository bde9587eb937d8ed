/- Points with whole parts: their mean, and whether their spread is nought. -/
import Derived.Test.YtlagbacljobbcaaPg
namespace Go.Proofs.Ytlagbacljobbcaa
set_option linter.unusedSimpArgs false
set_option linter.unusedVariables false
open Go.RowKit
set_option linter.unusedSectionVars false

/-- the sum of the first t numbers, brought near -/
def sx (xs : List Int) : Nat → Int
  | 0 => 0
  | t + 1 => sx xs t + nr (gi xs t)
theorem sx_small (xs : List Int) : ∀ t, (sx xs t).natAbs ≤ t * 1099511627776
  | 0 => by simp [sx]
  | t + 1 => by
    have h1 := sx_small xs t
    have h2 := nr_small (gi xs t)
    unfold sx; omega
theorem sx_sm {xs : List Int} {t : Nat} (h : t ≤ 100) : Sm (sx xs t) := by
  have h1 := sx_small xs t
  exact Sm.of (by omega)
/-- the bits of the parts -/
def fx (xs : List Int) : List Nat := xs.map fun x => fi (nr x)
theorem fx_len (xs : List Int) : (fx xs).length = xs.length := by simp [fx]
theorem fx_at {xs : List Int} {t : Nat} (h : t < xs.length) : (fx xs)[t]'(by rw [fx_len]; exact h) = fi (nr (gi xs t)) := by
  simp only [fx, List.getElem_map, gi]
  rw [List.getD_eq_getElem?_getD, List.getElem?_eq_getElem h]; rfl
theorem pz_fst {xs ys : List Int} (h : xs.length = ys.length) : (pz xs ys).map Prod.fst = fx xs := by
  unfold pz fx
  rw [List.map_map, show (Prod.fst ∘ fun p : Int × Int => (fi (nr p.1), fi (nr p.2))) = (fun x => fi (nr x)) ∘ Prod.fst from rfl, ← List.map_map, List.map_fst_zip (by omega)]
theorem pz_snd {xs ys : List Int} (h : xs.length = ys.length) : (pz xs ys).map Prod.snd = fx ys := by
  unfold pz fx
  rw [List.map_map, show (Prod.snd ∘ fun p : Int × Int => (fi (nr p.1), fi (nr p.2))) = (fun x => fi (nr x)) ∘ Prod.snd from rfl, ← List.map_map, List.map_snd_zip (by omega)]
theorem iv0 : IV (mk 0) 0 := by
  have e : mk 0 = mk (fi 0) := by decide +kernel
  rw [e]; exact fi_iv (by decide)
theorem fsum_iv (xs : List Int) (hl : xs.length ≤ 100) : ∀ t, t ≤ xs.length → IV (fsum ((fx xs).take t)) (sx xs t)
  | 0, _ => iv0
  | t + 1, h => by
    have h1 := fsum_iv xs hl t (by omega)
    unfold fsum at h1 ⊢
    rw [fsumF_take _ (by rw [fx_len]; omega), fx_at (by omega)]
    exact h1.add (fi_iv (nr_small _)) (sx_sm (xs := xs) (t := t + 1) (by omega))
theorem fcnt_iv {n : Nat} (h : n ≤ 100) : IV (fcnt n) n := IV.mk_fi (Sm.of (by omega))
theorem fsum_all (xs : List Int) (hl : xs.length ≤ 100) : IV (fsum (fx xs)) (sx xs xs.length) := by
  have := fsum_iv xs hl xs.length (Nat.le_refl _)
  rwa [List.take_of_length_le (by rw [fx_len]; omega)] at this
theorem fmean_mn (xs : List Int) (h1 : 1 ≤ xs.length) (hl : xs.length ≤ 100) : MN (fmean (fx xs)) := by
  unfold fmean
  rw [fx_len, if_pos (fit_ok (by omega) (by omega))]
  exact mean_mn (fsum_all xs hl) (fcnt_iv hl) (by omega) (by omega) (sx_sm hl)
theorem fmean_iv (xs : List Int) (h1 : 1 ≤ xs.length) (hl : xs.length ≤ 100) {Q : Int} (h : sx xs xs.length = Q * xs.length) : IV (fmean (fx xs)) Q := by
  unfold fmean
  rw [fx_len, if_pos (fit_ok (by omega) (by omega))]
  exact mean_exact (fsum_all xs hl) (fcnt_iv hl) (by omega) (by omega) (sx_sm hl) h
/-- are the first t numbers all as the first one? -/
def alikeB (xs ys : List Int) : Nat → Bool
  | 0 => true
  | t + 1 => alikeB xs ys t && nr (gi xs t) == nr (gi xs 0) && nr (gi ys t) == nr (gi ys 0)
theorem alike_of {xs ys : List Int} : ∀ {t}, alikeB xs ys t = true → ∀ i, i < t → nr (gi xs i) = nr (gi xs 0) ∧ nr (gi ys i) = nr (gi ys 0)
  | 0, _, i, hi => by omega
  | t + 1, h, i, hi => by
    simp only [alikeB, Bool.and_eq_true, beq_iff_eq] at h
    rcases Nat.lt_or_ge i t with h1 | h1
    · exact alike_of h.1.1 i h1
    · have : i = t := by omega
      subst this; exact ⟨h.1.2, h.2⟩
theorem unlike_of {xs ys : List Int} : ∀ {t}, alikeB xs ys t = false → ∃ i, i < t ∧ (nr (gi xs i) ≠ nr (gi xs 0) ∨ nr (gi ys i) ≠ nr (gi ys 0))
  | 0, h => by cases h
  | t + 1, h => by
    cases h1 : alikeB xs ys t with
    | false => obtain ⟨i, hi, h2⟩ := unlike_of h1; exact ⟨i, by omega, h2⟩
    | true =>
      unfold alikeB at h
      rw [h1] at h
      simp only [Bool.true_and, Bool.and_eq_false_iff, beq_eq_false_iff_ne] at h
      exact ⟨t, by omega, h⟩
theorem sx_alike {xs : List Int} {n : Nat} {p : Int} (h : ∀ i, i < n → nr (gi xs i) = p) : sx xs n = p * n := by
  induction n with
  | zero => simp [sx]
  | succ n ih =>
    unfold sx
    rw [ih (fun i hi => h i (by omega)), h n (by omega)]
    push_cast
    rw [Int.mul_add, Int.mul_one]
theorem on0 : ON (mk 0) := ⟨0, by decide, by decide, .inr ⟨0, -1074, by decide, by omega, by decide⟩⟩
section
variable {xs ys : List Int} (h : xs.length = ys.length) (h1 : 1 ≤ xs.length) (hl : xs.length ≤ 100)
include h h1 hl
theorem sqd_at {k : Nat} (hk : k < xs.length) : sqd (fmean (fx xs)) (fmean (fx ys)) ((pz xs ys)[k]'(by rw [pz_len h]; exact hk)) =
    fsq (fop .sub (mk (fi (nr (gi xs k)))) (fmean (fx xs))) (fop .sub (mk (fi (nr (gi ys k)))) (fmean (fx ys))) := by
  rw [pz_at h hk]; rfl
theorem sq_on {k : Nat} (hk : k < xs.length) : ON (sqd (fmean (fx xs)) (fmean (fx ys)) ((pz xs ys)[k]'(by rw [pz_len h]; exact hk))) := by
  rw [sqd_at h h1 hl hk]
  exact (diff_mean (fi_iv (nr_small _)) (fmean_mn xs h1 hl)).1.sq.add (diff_mean (fi_iv (nr_small _)) (fmean_mn ys (by omega) (by omega))).1.sq
theorem sqs_on : ∀ t, t ≤ xs.length → ON (fsqs (fmean (fx xs)) (fmean (fx ys)) ((pz xs ys).take t))
  | 0, _ => on0
  | t + 1, ht => by
    rw [fsqs_take _ _ (by rw [pz_len h]; omega)]
    exact (sqs_on t (by omega)).add (sq_on h h1 hl (by omega))
theorem sqs_far {i : Nat} (hi : i < xs.length) (hne : ¬ IV (fmean (fx xs)) (nr (gi xs i)) ∨ ¬ IV (fmean (fx ys)) (nr (gi ys i))) : ∀ t, i < t → t ≤ xs.length → OB (fsqs (fmean (fx xs)) (fmean (fx ys)) ((pz xs ys).take t)) (-122)
  | 0, hit, _ => by omega
  | t + 1, hit, ht => by
    rw [fsqs_take _ _ (by rw [pz_len h]; omega)]
    by_cases hti : t = i
    · subst hti
      refine OB.add_r (sqs_on h h1 hl t (by omega)) ?_
      rw [sqd_at h h1 hl hi]
      have d1 := diff_mean (fi_iv (nr_small (gi xs t))) (fmean_mn xs h1 hl)
      have d2 := diff_mean (fi_iv (nr_small (gi ys t))) (fmean_mn ys (by omega) (by omega))
      rcases hne with hn | hn
      · rcases d1.2 with e | e
        · exact absurd e hn
        · exact (e.sq (by decide)).add_l d2.1.sq
      · rcases d2.2 with e | e
        · exact absurd e hn
        · exact OB.add_r d1.1.sq (e.sq (by decide))
    · exact (sqs_far hi hne t (by omega) (by omega)).add_l (sq_on h h1 hl (by omega))
theorem spread_eq : fspread (pz xs ys) = fop .quo (fsqs (fmean (fx xs)) (fmean (fx ys)) (pz xs ys)) (fcnt xs.length) := by
  unfold fspread
  rw [pz_len h, if_pos (fit_ok (by omega) (by omega)), pz_fst h, pz_snd h]
theorem spread_on : ON (fspread (pz xs ys)) := by
  rw [spread_eq h h1 hl]
  have := sqs_on h h1 hl xs.length (Nat.le_refl _)
  rw [List.take_of_length_le (by rw [pz_len h]; omega)] at this
  exact this.share (fcnt_iv hl) (by omega)
theorem spread_alike : feq (fspread (pz xs ys)) (mk 0) = alikeB xs ys xs.length := by
  cases ha : alikeB xs ys xs.length with
  | true =>
    have hx := fun i (hi : i < xs.length) => (alike_of ha i hi).1
    have hy := fun i (hi : i < xs.length) => (alike_of ha i hi).2
    have m1 : IV (fmean (fx xs)) (nr (gi xs 0)) := fmean_iv xs h1 hl (sx_alike hx)
    have m2 : IV (fmean (fx ys)) (nr (gi ys 0)) := fmean_iv ys (by omega) (by omega) (by rw [← h]; exact sx_alike hy)
    have key : ∀ t, t ≤ xs.length → IV (fsqs (fmean (fx xs)) (fmean (fx ys)) ((pz xs ys).take t)) 0 := by
      intro t
      induction t with
      | zero => intro _; exact iv0
      | succ t ih =>
        intro ht
        rw [fsqs_take _ _ (by rw [pz_len h]; omega), sqd_at h h1 hl (by omega), hx t (by omega), hy t (by omega)]
        have z1 : IV (fop .sub (mk (fi (nr (gi xs 0)))) (fmean (fx xs))) 0 := by
          have := (fi_iv (nr_small (gi xs 0))).sub m1 (by rw [Int.sub_self]; exact Sm.of (by decide))
          rwa [Int.sub_self] at this
        have z2 : IV (fop .sub (mk (fi (nr (gi ys 0)))) (fmean (fx ys))) 0 := by
          have := (fi_iv (nr_small (gi ys 0))).sub m2 (by rw [Int.sub_self]; exact Sm.of (by decide))
          rwa [Int.sub_self] at this
        have s0 : Sm (0 + 0) := Sm.of (by decide)
        have z3 : IV (fsq (fop .sub (mk (fi (nr (gi xs 0)))) (fmean (fx xs))) (fop .sub (mk (fi (nr (gi ys 0)))) (fmean (fx ys)))) 0 := (z1.mul0 z1).add (z2.mul0 z2) s0
        exact (ih (by omega)).add z3 s0
    have hk := key xs.length (Nat.le_refl _)
    rw [List.take_of_length_le (by rw [pz_len h]; omega)] at hk
    rw [spread_eq h h1 hl]
    exact (mean_exact (Q := 0) hk (fcnt_iv hl) (by omega) (by omega) (Sm.of (by decide)) (by simp)).eq iv0
  | false =>
    obtain ⟨i, hi, hne⟩ := unlike_of ha
    have far : ∃ j, j < xs.length ∧ (¬ IV (fmean (fx xs)) (nr (gi xs j)) ∨ ¬ IV (fmean (fx ys)) (nr (gi ys j))) := by
      rcases hne with hn | hn
      · by_cases h2 : IV (fmean (fx xs)) (nr (gi xs i))
        · exact ⟨0, by omega, .inl fun h3 => hn (iv_inj h2 h3)⟩
        · exact ⟨i, hi, .inl h2⟩
      · by_cases h2 : IV (fmean (fx ys)) (nr (gi ys i))
        · exact ⟨0, by omega, .inr fun h3 => hn (iv_inj h2 h3)⟩
        · exact ⟨i, hi, .inr h2⟩
    obtain ⟨j, hj, hnj⟩ := far
    have hk := sqs_far h h1 hl hj hnj xs.length hj (Nat.le_refl _)
    rw [List.take_of_length_le (by rw [pz_len h]; omega)] at hk
    rw [spread_eq h h1 hl]
    exact (hk.share (fcnt_iv hl) (by omega) (by omega) (by decide)).pos
end
end Go.Proofs.Ytlagbacljobbcaa
