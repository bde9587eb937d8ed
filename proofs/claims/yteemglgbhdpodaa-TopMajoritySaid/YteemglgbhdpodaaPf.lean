/- Floats that are not below nought: sums of squares, and whether they are nought. -/
import Derived.Test.YteemglgbhdpodaaP1
namespace Go.Proofs.Yteemglgbhdpodaa
set_option linter.unusedSimpArgs false
set_option linter.unusedVariables false
set_option maxRecDepth 100000
open Ieee

/-- a datum of either sign that is no nought, its worth's magnitude at least 2 to the k -/
def Big (d : Datum) (k : Int) : Prop := (∃ s, d = .infinity s) ∨ ∃ s m e, d = .number s m e ∧ -1074 ≤ e ∧ m ≠ 0 ∧ m < 2 ^ 53 ∧ k ≤ e + m.log2
/-- a datum that is no NaN and not below nought, of sign + -/
def NN (d : Datum) : Prop := d = .infinity false ∨ ∃ m e, d = .number false m e ∧ -1074 ≤ e ∧ m < 2 ^ 53
/-- both -/
def Pos (d : Datum) (k : Int) : Prop := NN d ∧ Big d k
theorem read_dig {b : Nat} {s : Bool} {m : Nat} {e : Int} (h : double.read b = .number s m e) : -1074 ≤ e ∧ m < 2 ^ 53 ∧ (m < 2 ^ 52 → e = -1074) := by
  rw [read_rung] at h
  repeat' split at h
  · cases h; refine ⟨by omega, by omega, fun _ => rfl⟩
  · cases h; refine ⟨by omega, by omega, fun h => by omega⟩
  · cases h
  · cases h
/-- a word by its place and its digits, where a carry may stand ahead; or infinity -/
theorem read_word_carry (neg : Bool) (L k : Nat) (hk : k ≤ 2 ^ 53) (hn : L = 0 ∨ 2 ^ 52 ≤ k) :
    double.read (double.word neg (min (L * 2 ^ 52 + k) (2047 * 2 ^ 52))) = .infinity neg ∨
    ∃ k' L' : Nat, double.read (double.word neg (min (L * 2 ^ 52 + k) (2047 * 2 ^ 52))) = .number neg k' (-1074 + (L' : Int)) ∧ L ≤ L' ∧ k' < 2 ^ 53 ∧ k' * 2 ^ L' = k * 2 ^ L := by
  by_cases hinf : 2047 * 2 ^ 52 ≤ L * 2 ^ 52 + k
  · left
    rw [Nat.min_eq_right hinf]
    obtain ⟨h1, _, h3⟩ := word_rung neg (r := 2047 * 2 ^ 52) (by omega)
    rw [read_rung, h1, h3]
    rw [if_neg (by omega), if_neg (by omega), if_pos rfl]
  · right
    rw [Nat.min_eq_left (by omega)]
    by_cases hc : k < 2 ^ 53
    · exact ⟨k, L, (read_word neg L k hc hn (by omega)).1, Nat.le_refl _, hc, rfl⟩
    · have e : k = 2 ^ 53 := by omega
      subst e
      have e2 : L * 2 ^ 52 + 2 ^ 53 = (L + 1) * 2 ^ 52 + 2 ^ 52 := by omega
      rw [e2]
      refine ⟨2 ^ 52, L + 1, ?_, by omega, by omega, ?_⟩
      · have := (read_word neg (L + 1) (2 ^ 52) (by omega) (.inr (Nat.le_refl _)) (by omega)).1
        exact this
      · rw [Nat.pow_succ 2 L]; omega
theorem cut_bounds (neg : Bool) (n d : Nat) (hd : d ≤ n.log2) (h0 : n ≠ 0) : n / 2 ^ d ≤ Toward.even.cut neg n d ∧ Toward.even.cut neg n d ≤ n / 2 ^ d + 1 := by
  unfold Toward.cut
  have e : min d (n.log2 + 2) = d := by omega
  simp only [e, Nat.one_shiftLeft]
  generalize (decide (2 ^ d < 2 * (n % 2 ^ d)) || 2 ^ d == 2 * (n % 2 ^ d) && n / 2 ^ d % 2 == 1) = v
  cases v <;> simp
/-- what is written of a number that is no nought is no nought -/
theorem nearest_big (neg : Bool) (m : Nat) (e k : Int) (he : -1074 ≤ e) (h0 : m ≠ 0) (hk : k ≤ e + m.log2) :
    double.read (double.nearest neg m e) = .infinity neg ∨ ∃ k' e', double.read (double.nearest neg m e) = .number neg k' e' ∧ -1074 ≤ e' ∧ k' ≠ 0 ∧ k' < 2 ^ 53 ∧ k ≤ e' + k'.log2 ∧ e + m.log2 - 52 ≤ e' := by
  obtain ⟨E, hE⟩ : ∃ E : Nat, e = -1074 + (E : Int) := ⟨(e + 1074).toNat, by omega⟩
  unfold Format.nearest
  rw [if_neg h0]
  dsimp only
  have hm1 : 2 ^ m.log2 ≤ m := Nat.log2_self_le h0
  have hm2 : m < 2 ^ (m.log2 + 1) := Nat.lt_log2_self
  generalize hlg : m.log2 = g at *
  obtain ⟨L, hL⟩ : ∃ L, E + g - 52 = L := ⟨_, rfl⟩
  have hlast : max (e + (g : Int) - ((double.fractionBits : Nat) : Int)) double.leastPlace = -1074 + (L : Int) := by
    have e1 : double.leastPlace = -1074 := by decide
    have e2 : double.fractionBits = 52 := rfl
    rw [e1, e2]; omega
  rw [hlast]
  have s1 : (e - (-1074 + (L : Int))).toNat = E - L := by omega
  have s2 : (-1074 + (L : Int) - e).toNat = L - E := by omega
  have s3 : (-1074 + (L : Int) - double.leastPlace).toNat = L := by
    have e1 : double.leastPlace = -1074 := by decide
    rw [e1]; omega
  rw [s1, s2, s3]
  have hbin : double.binade = 2 ^ 52 := rfl
  have hinf : double.infRung = 2047 * 2 ^ 52 := by decide
  rw [hbin, hinf]
  -- the digits kept
  obtain ⟨q, hq, hq1, hq2, hq3, hq4⟩ : ∃ q, Toward.even.cut neg (m <<< (E - L)) (L - E) = q ∧ q ≤ 2 ^ 53 ∧ (L = 0 ∨ 2 ^ 52 ≤ q) ∧ q ≠ 0 ∧ 2 ^ (g + E) ≤ q * 2 ^ L := by
    rcases Nat.le_total L E with hle | hle
    · have e1 : Toward.even.cut neg (m <<< (E - L)) (L - E) = m * 2 ^ (E - L) := by rw [show L - E = 0 by omega, cut_none, shl_eq]
      have p1 : m * 2 ^ (E - L) < 2 ^ (g + 1 + (E - L)) := by rw [Nat.pow_add]; exact Nat.mul_lt_mul_of_pos_right hm2 (Nat.two_pow_pos _)
      have p2 : 2 ^ (g + (E - L)) ≤ m * 2 ^ (E - L) := by rw [Nat.pow_add]; exact Nat.mul_le_mul_right _ hm1
      have p3 : 2 ^ (g + 1 + (E - L)) ≤ 2 ^ 53 := Nat.pow_le_pow_right (by decide) (by omega)
      refine ⟨_, e1, by omega, ?_, ?_, ?_⟩
      · rcases Nat.eq_zero_or_pos L with h | h
        · exact .inl h
        · right
          have : 2 ^ 52 ≤ 2 ^ (g + (E - L)) := Nat.pow_le_pow_right (by decide) (by omega)
          omega
      · have := Nat.two_pow_pos (g + (E - L)); omega
      · rw [Nat.mul_assoc, ← Nat.pow_add, show E - L + L = E by omega, Nat.pow_add]
        exact Nat.mul_le_mul_right _ hm1
    · rw [show E - L = 0 by omega, shl_eq, Nat.pow_zero, Nat.mul_one]
      rcases Nat.eq_or_lt_of_le hle with he' | he'
      · have e1 : Toward.even.cut neg m (L - E) = m := by rw [show L - E = 0 by omega, cut_none]
        have p3 : 2 ^ (g + 1) ≤ 2 ^ 53 := Nat.pow_le_pow_right (by decide) (by omega)
        refine ⟨m, e1, by omega, ?_, h0, ?_⟩
        · rcases Nat.eq_zero_or_pos L with h | h
          · exact .inl h
          · right
            have : 2 ^ 52 ≤ 2 ^ g := Nat.pow_le_pow_right (by decide) (by omega)
            omega
        · rw [Nat.pow_add, ← he']; exact Nat.mul_le_mul_right _ hm1
      · have hgd : g = 52 + (L - E) := by omega
        obtain ⟨c1, c2⟩ := cut_bounds neg m (L - E) (by omega) h0
        have p1 : 2 ^ 52 ≤ m / 2 ^ (L - E) := by
          rw [Nat.le_div_iff_mul_le (Nat.two_pow_pos _), ← Nat.pow_add, ← hgd]; exact hm1
        have p2 : m / 2 ^ (L - E) < 2 ^ 53 := by
          rw [Nat.div_lt_iff_lt_mul (Nat.two_pow_pos _), ← Nat.pow_add, show 53 + (L - E) = g + 1 by omega]; exact hm2
        refine ⟨_, rfl, by omega, .inr (by omega), by omega, ?_⟩
        have e3 : 2 ^ (g + E) = 2 ^ 52 * 2 ^ L := by rw [← Nat.pow_add]; congr 1; omega
        rw [e3]
        exact Nat.mul_le_mul_right _ (by omega)
  rw [hq]
  rcases read_word_carry neg L q hq1 hq2 with h | ⟨k', L', h1, h2, h3, h4⟩
  · exact .inl h
  · right
    have hk0 : k' ≠ 0 := by
      intro h; subst h
      rw [Nat.zero_mul] at h4
      have := Nat.mul_pos (show 0 < q by omega) (Nat.two_pow_pos L)
      omega
    refine ⟨k', -1074 + (L' : Int), h1, by omega, hk0, h3, ?_, by omega⟩
    have h5 : 2 ^ (g + E) ≤ k' * 2 ^ L' := by rw [h4]; exact hq4
    have h6 : k' * 2 ^ L' < 2 ^ (k'.log2 + 1 + L') := by rw [Nat.pow_add]; exact Nat.mul_lt_mul_of_pos_right Nat.lt_log2_self (Nat.two_pow_pos _)
    have h7 : g + E < k'.log2 + 1 + L' := (Nat.pow_lt_pow_iff_right (by decide : 1 < 2)).1 (Nat.lt_of_le_of_lt h5 h6)
    omega
/-- what is written of a number of sign + is none below nought -/
theorem nearest_nn (m : Nat) (e : Int) : NN (double.read (double.nearest false m e)) := by
  have key : ∀ r, r ≤ 2047 * 2 ^ 52 → NN (double.read (double.word false r)) := by
    intro r hr
    obtain ⟨h1, _, h3⟩ := word_rung false (r := r) (by omega)
    cases hd : double.read (double.word false r) with
    | number s m e =>
      have hs : s = false := by
        rw [read_rung, h3] at hd
        repeat' split at hd
        all_goals first | (cases hd; rfl) | cases hd
      obtain ⟨a1, a2, _⟩ := read_dig hd
      subst hs
      exact .inr ⟨m, e, rfl, a1, a2⟩
    | infinity s =>
      have hs : s = false := by
        rw [read_rung, h3] at hd
        repeat' split at hd
        all_goals first | (cases hd; rfl) | cases hd
      subst hs
      exact .inl rfl
    | nan s f =>
      exfalso
      have hn : nanB (double.word false r) = true := by unfold nanB; rw [hd]; rfl
      rw [nan_rung, h1] at hn
      have := of_decide_eq_true hn
      omega
  unfold Format.nearest
  dsimp only
  split
  · exact key 0 (by decide)
  · exact key _ (Nat.min_le_right _ _)
theorem write_nn {d : Datum} (h : d = .infinity false ∨ ∃ m e, d = .number false m e) : NN (double.read (double.write d)) := by
  rcases h with rfl | ⟨m, e, rfl⟩
  · left; decide
  · exact nearest_nn m e
theorem NN.sum {x y : Datum} (hx : NN x) (hy : NN y) : ∃ d, x.sum y = some d ∧ NN (double.read (double.write d)) := by
  rcases hx with rfl | ⟨m, e, rfl, _, _⟩ <;> rcases hy with rfl | ⟨n, j, rfl, _, _⟩
  · exact ⟨_, rfl, write_nn (.inl rfl)⟩
  · exact ⟨_, rfl, write_nn (.inl rfl)⟩
  · exact ⟨_, rfl, write_nn (.inl rfl)⟩
  · generalize hT : signed false m (e - min e j).toNat + signed false n (j - min e j).toNat = T
    have h0 : 0 ≤ T := by
      rw [← hT, signed_eq, signed_eq]
      exact Int.add_nonneg (Int.mul_nonneg (by simp) (Int.le_of_lt (Int.pow_pos (by decide)))) (Int.mul_nonneg (by simp) (Int.le_of_lt (Int.pow_pos (by decide))))
    have hs : (if T = 0 then false && false else decide (T < 0)) = false := by
      split
      · rfl
      · simpa using h0
    refine ⟨.number false T.natAbs (min e j), ?_, write_nn (.inr ⟨_, _, rfl⟩)⟩
    show some (Datum.number (if signed false m (e - min e j).toNat + signed false n (j - min e j).toNat = 0 then false && false else decide (signed false m (e - min e j).toNat + signed false n (j - min e j).toNat < 0)) (signed false m (e - min e j).toNat + signed false n (j - min e j).toNat).natAbs (min e j)) = _
    rw [hT, hs]
theorem write_big {s : Bool} {m : Nat} {e k : Int} (he : -1074 ≤ e) (h0 : m ≠ 0) (hk : k ≤ e + m.log2) : Big (double.read (double.write (.number s m e))) k := by
  rcases nearest_big s m e k he h0 hk with h | ⟨k', e', h1, h2, h3, h4, h5, _⟩
  · exact .inl ⟨s, h⟩
  · exact .inr ⟨s, k', e', h1, h2, h3, h4, h5⟩
theorem write_inf (s : Bool) : double.read (double.write (.infinity s)) = .infinity s := by cases s <;> decide
/-- a finite sum that is great enough -/
theorem fn_big {t : Datum} {v : Int} {q : Nat} (h : Fn t v) (hv : 2 ^ q ≤ v.natAbs) : Big (double.read (double.write t)) ((q : Int) - 1074) := by
  obtain ⟨s, m, e, rfl, he, hs⟩ := h
  rw [signed_eq] at hs
  obtain ⟨E, hE⟩ : ∃ E : Nat, e = -1074 + (E : Int) := ⟨(e + 1074).toNat, by omega⟩
  have e1 : (e + 1074).toNat = E := by omega
  rw [e1] at hs
  have hm : m * 2 ^ E = v.natAbs := by
    rw [← hs, Int.natAbs_mul, Int.natAbs_pow]
    cases s <;> simp
  have h0 : m ≠ 0 := by
    intro h; subst h
    rw [Nat.zero_mul] at hm
    have := Nat.two_pow_pos q
    omega
  have h6 : m * 2 ^ E < 2 ^ (m.log2 + 1 + E) := by rw [Nat.pow_add]; exact Nat.mul_lt_mul_of_pos_right Nat.lt_log2_self (Nat.two_pow_pos _)
  have h7 : q < m.log2 + 1 + E := (Nat.pow_lt_pow_iff_right (by decide : 1 < 2)).1 (Nat.lt_of_le_of_lt (hm ▸ hv) h6)
  exact write_big he h0 (by omega)
theorem Big.lower {d : Datum} {k l : Int} (h : Big d k) (hl : l ≤ k) : Big d l := by
  rcases h with h | ⟨s, m, e, h1, h2, h3, h4, h5⟩
  · exact .inl h
  · exact .inr ⟨s, m, e, h1, h2, h3, h4, by omega⟩
theorem NN.sum_big {x y : Datum} {k : Int} (hx : NN x) (hy : NN y) (hb : Big x k ∨ Big y k) : ∃ d, x.sum y = some d ∧ NN (double.read (double.write d)) ∧ Big (double.read (double.write d)) k := by
  obtain ⟨d, hd, hn⟩ := hx.sum hy
  refine ⟨d, hd, hn, ?_⟩
  rcases hx with rfl | ⟨m, e, rfl, he, _⟩
  · rcases hy with rfl | ⟨n, j, rfl, hj, _⟩
    · cases hd; exact .inl ⟨false, write_inf false⟩
    · cases hd; exact .inl ⟨false, write_inf false⟩
  · rcases hy with rfl | ⟨n, j, rfl, hj, _⟩
    · cases hd; exact .inl ⟨false, write_inf false⟩
    · have f1 : Fn (.number false m e) (signed false m (e + 1074).toNat) := ⟨_, _, _, rfl, he, rfl⟩
      have f2 : Fn (.number false n j) (signed false n (j + 1074).toNat) := ⟨_, _, _, rfl, hj, rfl⟩
      obtain ⟨t, ht, hf⟩ := sum_fin f1 f2
      rw [hd] at ht
      cases ht
      have p1 : ∀ (m : Nat) (e : Int), -1074 ≤ e → m ≠ 0 → k ≤ e + m.log2 → (2 ^ ((k + 1074).toNat) : Int) ≤ signed false m (e + 1074).toNat ∨ k < -1074 := by
        intro m e he h0 hk
        rcases Int.lt_or_le k (-1074) with h | h
        · exact .inr h
        · left
          rw [signed_eq]
          have h1 : 2 ^ m.log2 ≤ m := Nat.log2_self_le h0
          have h2 : 2 ^ (k + 1074).toNat ≤ 2 ^ (m.log2 + (e + 1074).toNat) := Nat.pow_le_pow_right (by decide) (by omega)
          have h3 : 2 ^ (m.log2 + (e + 1074).toNat) ≤ m * 2 ^ (e + 1074).toNat := by rw [Nat.pow_add]; exact Nat.mul_le_mul_right _ h1
          have h4 := Int.ofNat_le.2 (Nat.le_trans h2 h3)
          simpa using h4
      have q1 : ∀ (m : Nat) (e : Int), (0 : Int) ≤ signed false m (e + 1074).toNat := by
        intro m e
        rw [signed_eq]
        exact Int.mul_nonneg (by simp) (Int.le_of_lt (Int.pow_pos (by decide)))
      have q2 : ∀ (m : Nat) (e : Int), m ≠ 0 → (1 : Int) ≤ signed false m (e + 1074).toNat := by
        intro m e h0
        rw [signed_eq]
        have : 1 ≤ m * 2 ^ (e + 1074).toNat := Nat.mul_pos (by omega) (Nat.two_pow_pos _)
        have h4 := Int.ofNat_le.2 this
        simpa using h4
      have z1 := q1 m e
      have z2 := q1 n j
      have fin : (2 ^ ((k + 1074).toNat) : Int) ≤ signed false m (e + 1074).toNat + signed false n (j + 1074).toNat ∨ (k < -1074 ∧ (1 : Int) ≤ signed false m (e + 1074).toNat + signed false n (j + 1074).toNat) := by
        rcases hb with hb | hb
        · rcases hb with ⟨s, h⟩ | ⟨s, m', e', h1, h2, h3, _, h5⟩
          · cases h
          · cases h1
            have w1 := q2 m e h3
            rcases p1 m e h2 h3 h5 with h | h
            · left; omega
            · right; omega
        · rcases hb with ⟨s, h⟩ | ⟨s, m', e', h1, h2, h3, _, h5⟩
          · cases h
          · cases h1
            have w1 := q2 n j h3
            rcases p1 n j h2 h3 h5 with h | h
            · left; omega
            · right; omega
      rcases fin with h | ⟨h, h'⟩
      · have hz : (2 : Int) ^ (k + 1074).toNat = ((2 ^ (k + 1074).toNat : Nat) : Int) := by simp
        rw [hz] at h
        exact (fn_big (q := (k + 1074).toNat) hf (by omega)).lower (by omega)
      · exact (fn_big (q := 0) hf (by rw [Nat.pow_zero]; omega)).lower (by omega)
/-- a square -/
theorem sq_nn {d : Datum} (h : d.isNaN = false) : ∃ t, d.product d = some t ∧ NN (double.read (double.write t)) := by
  cases d with
  | number s m e => exact ⟨_, rfl, write_nn (.inr ⟨m * m, e + e, by rw [Bool.xor_self]⟩)⟩
  | infinity s => exact ⟨_, rfl, write_nn (.inl (by rw [Bool.xor_self]))⟩
  | nan s f => cases h
theorem log2_sq {m : Nat} (h : m ≠ 0) : m.log2 + m.log2 ≤ (m * m).log2 := by
  have h1 := Nat.log2_self_le h
  rw [Nat.le_log2 (Nat.mul_ne_zero h h), Nat.pow_add]
  exact Nat.mul_le_mul h1 h1
theorem sq_big {d : Datum} {k : Int} (h : Big d k) (hk : -400 ≤ k) : ∃ t, d.product d = some t ∧ NN (double.read (double.write t)) ∧ Big (double.read (double.write t)) (k + k) := by
  have hn : d.isNaN = false := by rcases h with ⟨s, rfl⟩ | ⟨s, m, e, rfl, _⟩ <;> rfl
  obtain ⟨t, ht, hq⟩ := sq_nn hn
  refine ⟨t, ht, hq, ?_⟩
  rcases h with ⟨s, rfl⟩ | ⟨s, m, e, rfl, h2, h3, h4, h5⟩
  · cases ht; exact .inl ⟨_, write_inf _⟩
  · cases ht
    have hl := log2_sq h3
    have hl2 : m.log2 < 53 := (Nat.log2_lt h3).2 h4
    exact write_big (by omega) (Nat.mul_ne_zero h3 h3) (by omega)
end Go.Proofs.Yteemglgbhdpodaa
