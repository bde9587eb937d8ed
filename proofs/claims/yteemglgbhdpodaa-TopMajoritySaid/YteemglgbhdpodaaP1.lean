/- Floats that stand for whole numbers: sums and differences of not too great ones are exact, and they stand to each other as the numbers do. -/
import Derived.Test.YteemglgbhdpodaaP0
namespace Go.Proofs.Yteemglgbhdpodaa
set_option linter.unusedSimpArgs false
set_option linter.unusedVariables false
set_option maxRecDepth 100000
open Ieee

theorem signed_eq (s : Bool) (m k : Nat) : signed s m k = (if s then -(m : Int) else m) * 2 ^ k := by
  unfold signed
  rw [Nat.shiftLeft_eq]
  cases s
  · simp
  · simp [Int.neg_mul]
/-- a finite datum, and its worth in units of the least place -/
def Fn (d : Datum) (v : Int) : Prop := ∃ s m e, d = .number s m e ∧ -1074 ≤ e ∧ signed s m (e + 1074).toNat = v
theorem read_places {b : Nat} {s : Bool} {m : Nat} {e : Int} (h : double.read b = .number s m e) : -1074 ≤ e := by
  rw [read_rung] at h
  repeat' split at h
  · cases h; omega
  · cases h; omega
  · cases h
  · cases h
theorem Fn.opp {d : Datum} {v : Int} (h : Fn d v) : Fn d.opposite (-v) := by
  obtain ⟨s, m, e, rfl, he, hv⟩ := h
  refine ⟨!s, m, e, rfl, he, ?_⟩
  rw [signed_eq] at hv ⊢
  rw [← hv]
  cases s <;> simp [Int.neg_mul]
theorem scale_split {e b : Int} (h1 : b ≤ e) (h2 : -1074 ≤ b) : (2 : Int) ^ (e + 1074).toNat = 2 ^ (e - b).toNat * 2 ^ (b + 1074).toNat := by
  rw [← Int.pow_add]; congr 1; omega
theorem cmp_scale (a b : Int) (k : Nat) : compare (a * 2 ^ k) (b * 2 ^ k) = compare a b := by
  have hp : (0 : Int) < 2 ^ k := Int.pow_pos (by decide)
  rcases Int.lt_trichotomy a b with h | h | h
  · rw [Int.compare_eq_lt.2 h, Int.compare_eq_lt.2 (Int.mul_lt_mul_of_pos_right h hp)]
  · subst h; simp
  · rw [Int.compare_eq_gt.2 h, Int.compare_eq_gt.2 (Int.mul_lt_mul_of_pos_right h hp)]
theorem order_fin {d d' : Datum} {v v' : Int} (h : Fn d v) (h' : Fn d' v') : d.order d' = some (compare v v') := by
  obtain ⟨s, m, e, rfl, he, rfl⟩ := h
  obtain ⟨t, n, j, rfl, hj, rfl⟩ := h'
  simp only [Datum.order, Option.some.injEq]
  rw [signed_eq, signed_eq, signed_eq, signed_eq, scale_split (e := e) (b := min e j) (by omega) (by omega), scale_split (e := j) (b := min e j) (by omega) (by omega), ← Int.mul_assoc, ← Int.mul_assoc, cmp_scale]
theorem sum_fin {d d' : Datum} {v v' : Int} (h : Fn d v) (h' : Fn d' v') : ∃ t, d.sum d' = some t ∧ Fn t (v + v') := by
  obtain ⟨s, m, e, rfl, he, rfl⟩ := h
  obtain ⟨t, n, j, rfl, hj, rfl⟩ := h'
  refine ⟨_, rfl, _, _, _, rfl, by omega, ?_⟩
  generalize hT : signed s m (e - min e j).toNat + signed t n (j - min e j).toNat = T
  have hv : signed s m (e + 1074).toNat + signed t n (j + 1074).toNat = T * 2 ^ (min e j + 1074).toNat := by
    rw [← hT, signed_eq, signed_eq, signed_eq, signed_eq, scale_split (e := e) (b := min e j) (by omega) (by omega), scale_split (e := j) (b := min e j) (by omega) (by omega), ← Int.mul_assoc, ← Int.mul_assoc, Int.add_mul]
  rw [hv, signed_eq]
  congr 1
  by_cases h0 : T = 0
  · subst h0; simp
  · rw [if_neg h0]
    by_cases h1 : T < 0
    · simp only [h1, decide_true, if_true]; omega
    · simp only [h1, decide_false, Bool.false_eq_true, if_false]; omega
/-- a word by its place and its digits -/
theorem read_word (neg : Bool) (L k : Nat) (hk : k < 2 ^ 53) (hn : L = 0 ∨ 2 ^ 52 ≤ k) (hL : L ≤ 2045) : double.read (double.word neg (L * 2 ^ 52 + k)) = .number neg k (-1074 + (L : Int)) ∧ double.word neg (L * 2 ^ 52 + k) < 2 ^ 64 := by
  obtain ⟨h1, h2, h3⟩ := word_rung neg (r := L * 2 ^ 52 + k) (by omega)
  refine ⟨?_, h2⟩
  rw [read_rung, h1, h3]
  rcases hn with rfl | hn
  · by_cases hs : k < 2 ^ 52
    · rw [if_pos (by omega)]; simp
    · rw [if_neg (by omega), if_pos (by omega)]
      have e1 : 2 ^ 52 + (0 * 2 ^ 52 + k) % 2 ^ 52 = k := by omega
      have e2 : (0 * 2 ^ 52 + k) / 2 ^ 52 - 1 = 0 := by omega
      rw [e1, e2]
  · rw [if_neg (by omega), if_pos (by omega)]
    have e1 : 2 ^ 52 + (L * 2 ^ 52 + k) % 2 ^ 52 = k := by omega
    have e2 : (L * 2 ^ 52 + k) / 2 ^ 52 - 1 = L := by omega
    rw [e1, e2]
theorem cut_none (neg : Bool) (n : Nat) : Toward.even.cut neg n 0 = n := by
  have h1 : n % 1 = 0 := Nat.mod_one n
  simp [Toward.cut, h1]
theorem cut_exact (neg : Bool) (n d : Nat) (hd : d ≤ n.log2) (h : 2 ^ d ∣ n) : Toward.even.cut neg n d = n / 2 ^ d := by
  unfold Toward.cut
  have e : min d (n.log2 + 2) = d := by omega
  have hz : n % 2 ^ d = 0 := Nat.mod_eq_zero_of_dvd h
  have hp : 2 ^ d ≠ 0 := by have := Nat.two_pow_pos d; omega
  simp only [e, Nat.one_shiftLeft, hz]
  simp [hp]
theorem shl_eq (m k : Nat) : m <<< k = m * 2 ^ k := Nat.shiftLeft_eq m k
/-- what the format has is written as it is -/
theorem nearest_exact (neg : Bool) (m : Nat) (e : Int) (he : -1074 ≤ e) (k q : Nat) (hk : k < 2 ^ 53) (hq : q ≤ 2000) (hv : m * 2 ^ (e + 1074).toNat = k * 2 ^ q) :
    ∃ k' L : Nat, double.read (double.nearest neg m e) = .number neg k' (-1074 + (L : Int)) ∧ double.nearest neg m e < 2 ^ 64 ∧ k' * 2 ^ L = m * 2 ^ (e + 1074).toNat := by
  refine (fun (h : ∃ k' L : Nat, double.read (double.nearest neg m e) = .number neg k' (-1074 + (L : Int)) ∧ k' * 2 ^ L = m * 2 ^ (e + 1074).toNat) => by
    obtain ⟨k', L, h1, h2⟩ := h; exact ⟨k', L, h1, (nearest_num neg m e).2, h2⟩) ?_
  obtain ⟨E, hE⟩ : ∃ E : Nat, e = -1074 + (E : Int) := ⟨(e + 1074).toNat, by omega⟩
  have hE' : (e + 1074).toNat = E := by omega
  rw [hE'] at hv ⊢
  unfold Format.nearest
  by_cases h0 : m = 0
  · subst h0
    rw [if_pos rfl]
    have := (read_word neg 0 0 (by decide) (.inl rfl) (by decide)).1
    exact ⟨0, 0, by simpa using this, by simp⟩
  rw [if_neg h0]
  dsimp only
  have hm1 : 2 ^ m.log2 ≤ m := Nat.log2_self_le h0
  have hm2 : m < 2 ^ (m.log2 + 1) := Nat.lt_log2_self
  generalize hlg : m.log2 = g at *
  -- the place kept
  obtain ⟨L, hL⟩ : ∃ L, E + g - 52 = L := ⟨_, rfl⟩
  have hlast : max (e + (g : Int) - ((double.fractionBits : Nat) : Int)) double.leastPlace = -1074 + (L : Int) := by
    have e1 : double.leastPlace = -1074 := by decide
    have e2 : double.fractionBits = 52 := rfl
    rw [e1, e2]; omega
  rw [hlast]
  have s1 : (e - (-1074 + (L : Int))).toNat = E - L := by omega
  have s2 : (-1074 + (L : Int) - e).toNat = L - E := by omega
  have s3 : (-1074 + (L : Int) - double.leastPlace).toNat = L := by
    have e1 : double.leastPlace = -1074 := by decide
    rw [e1]; omega
  rw [s1, s2, s3]
  have hbin : double.binade = 2 ^ 52 := rfl
  have hinf : double.infRung = 2047 * 2 ^ 52 := by decide
  rw [hbin, hinf]
  -- the bound on the places
  have hLq : L ≤ q := by
    have h1 : 2 ^ (g + E) ≤ k * 2 ^ q := by rw [← hv, Nat.pow_add]; exact Nat.mul_le_mul_right _ hm1
    have h2 : k * 2 ^ q < 2 ^ (53 + q) := by rw [Nat.pow_add]; exact Nat.mul_lt_mul_of_pos_right hk (Nat.two_pow_pos q)
    have h3 : g + E < 53 + q := (Nat.pow_lt_pow_iff_right (by decide : 1 < 2)).1 (Nat.lt_of_le_of_lt h1 h2)
    omega
  -- the digits kept
  have hkept : ∃ k', Toward.even.cut neg (m <<< (E - L)) (L - E) = k' ∧ k' * 2 ^ L = m * 2 ^ E := by
    rcases Nat.le_total L E with hle | hle
    · refine ⟨m * 2 ^ (E - L), ?_, ?_⟩
      · rw [show L - E = 0 by omega, cut_none, shl_eq]
      · rw [Nat.mul_assoc, ← Nat.pow_add]; congr 2; omega
    · rw [show E - L = 0 by omega, shl_eq, Nat.pow_zero, Nat.mul_one]
      have hmk : m = k * 2 ^ (q - E) := by
        apply Nat.eq_of_mul_eq_mul_right (Nat.two_pow_pos E)
        rw [hv, Nat.mul_assoc, ← Nat.pow_add]; congr 2; omega
      have hdv : 2 ^ (L - E) ∣ m := by
        rw [hmk]
        exact Nat.dvd_trans (Nat.pow_dvd_pow 2 (by omega)) (Nat.dvd_mul_left _ _)
      refine ⟨m / 2 ^ (L - E), cut_exact neg m _ (by omega) hdv, ?_⟩
      obtain ⟨c, hc⟩ := hdv
      rw [hc, Nat.mul_div_cancel_left _ (Nat.two_pow_pos _), Nat.mul_comm (2 ^ (L - E)) c, Nat.mul_assoc, ← Nat.pow_add]
      congr 2; omega
  obtain ⟨k', hk', hkv⟩ := hkept
  rw [hk']
  have hb1 : k' < 2 ^ 53 := by
    have h1 : k' * 2 ^ L < 2 ^ 53 * 2 ^ L := by
      rw [hkv, ← Nat.pow_add]
      calc m * 2 ^ E < 2 ^ (g + 1) * 2 ^ E := Nat.mul_lt_mul_of_pos_right hm2 (Nat.two_pow_pos E)
        _ = 2 ^ (g + 1 + E) := by rw [← Nat.pow_add]
        _ ≤ 2 ^ (53 + L) := Nat.pow_le_pow_right (by decide) (by omega)
    exact Nat.lt_of_mul_lt_mul_right h1
  have hb2 : L = 0 ∨ 2 ^ 52 ≤ k' := by
    rcases Nat.eq_zero_or_pos L with h | h
    · exact .inl h
    · right
      have h1 : 2 ^ 52 * 2 ^ L ≤ k' * 2 ^ L := by
        rw [hkv, ← Nat.pow_add]
        calc 2 ^ (52 + L) ≤ 2 ^ (g + E) := Nat.pow_le_pow_right (by decide) (by omega)
          _ = 2 ^ g * 2 ^ E := by rw [Nat.pow_add]
          _ ≤ m * 2 ^ E := Nat.mul_le_mul_right _ hm1
      exact Nat.le_of_mul_le_mul_right h1 (Nat.two_pow_pos L)
  rw [Nat.min_eq_left (by omega)]
  exact ⟨k', L, (read_word neg L k' hb1 hb2 (by omega)).1, hkv⟩
theorem write_exact {d : Datum} {v : Int} (h : Fn d v) (k q : Nat) (hk : k < 2 ^ 53) (hq : q ≤ 2000) (hv : v.natAbs = k * 2 ^ q) : Fn (double.read (double.write d)) v ∧ double.write d < 2 ^ 64 := by
  obtain ⟨s, m, e, rfl, he, hs⟩ := h
  rw [signed_eq] at hs
  have hm : m * 2 ^ (e + 1074).toNat = k * 2 ^ q := by
    rw [← hv, ← hs, Int.natAbs_mul, Int.natAbs_pow]
    cases s <;> simp
  obtain ⟨k', L, h1, h2, h3⟩ := nearest_exact s m e he k q hk hq hm
  refine ⟨⟨s, k', -1074 + (L : Int), h1, by omega, ?_⟩, h2⟩
  have e1 : (-1074 + (L : Int) + 1074).toNat = L := by omega
  rw [e1, signed_eq, ← hs]
  have h3' : (k' : Int) * 2 ^ L = (m : Int) * 2 ^ (e + 1074).toNat := by
    have := congrArg (Nat.cast (R := Int)) h3
    simpa using this
  cases s
  · simpa using h3'
  · simp only [if_true, Int.neg_mul]; rw [h3']
/-- the places below the point -/
def lp : Nat := 1074
/-- a plain answer that stands for a whole number -/
def IV (o : Option Nat) (n : Int) : Prop := ∃ b, o = some b ∧ b < 2 ^ 64 ∧ Fn (double.read b) (n * 2 ^ lp)
def Sm (n : Int) : Prop := n.natAbs < 2 ^ 53
theorem write_int {d : Datum} {n : Int} (h : Fn d (n * 2 ^ lp)) (hn : Sm n) : Fn (double.read (double.write d)) (n * 2 ^ lp) ∧ double.write d < 2 ^ 64 :=
  write_exact h n.natAbs lp hn (by decide) (by rw [Int.natAbs_mul, Int.natAbs_pow, show (2 : Int).natAbs = 2 from rfl])
theorem IV.ofInt {n : Int} (h : Sm n) : IV (some (FloatKind.f64.nearest n)) n := by
  have h1 : Fn (.number (decide (n < 0)) n.natAbs 0) (n * 2 ^ lp) := by
    refine ⟨_, _, _, rfl, by decide, ?_⟩
    rw [signed_eq]
    show _ * 2 ^ lp = _
    congr 1
    by_cases h0 : n < 0
    · simp only [h0, decide_true, if_true]; omega
    · simp only [h0, decide_false, Bool.false_eq_true, if_false]; omega
  obtain ⟨h2, h3⟩ := write_int h1 h
  exact ⟨_, rfl, h3, h2⟩
theorem IV.order {o p : Option Nat} {n m : Int} (h : IV o n) (h' : IV p m) : ford o p = some (compare n m) := by
  obtain ⟨b, rfl, _, hb⟩ := h
  obtain ⟨c, rfl, _, hc⟩ := h'
  show double.order b c = _
  unfold Format.order
  rw [order_fin hb hc, cmp_scale]
theorem IV.add {o p : Option Nat} {n m : Int} (h : IV o n) (h' : IV p m) (hs : Sm (n + m)) : IV (fop .add o p) (n + m) := by
  obtain ⟨b, rfl, _, hb⟩ := h
  obtain ⟨c, rfl, _, hc⟩ := h'
  obtain ⟨t, ht, hf⟩ := sum_fin hb hc
  rw [← Int.add_mul] at hf
  obtain ⟨h2, h3⟩ := write_int hf hs
  refine ⟨double.write t, ?_, h3, h2⟩
  show double.add b c = _
  unfold Format.add
  rw [ht]; rfl
theorem IV.sub {o p : Option Nat} {n m : Int} (h : IV o n) (h' : IV p m) (hs : Sm (n - m)) : IV (fop .sub o p) (n - m) := by
  obtain ⟨b, rfl, _, hb⟩ := h
  obtain ⟨c, rfl, _, hc⟩ := h'
  obtain ⟨t, ht, hf⟩ := sum_fin hb hc.opp
  rw [← Int.neg_mul, ← Int.add_mul, ← Int.sub_eq_add_neg] at hf
  obtain ⟨h2, h3⟩ := write_int hf hs
  refine ⟨double.write t, ?_, h3, h2⟩
  show double.sub b c = _
  unfold Format.sub
  rw [ht]; rfl
theorem read_neg {b : Nat} (h : b < 2 ^ 64) : double.read (b ^^^ 2 ^ 63) = (double.read b).opposite := by
  rw [read_rung, read_rung, (neg_rung h).1]
  have e : ((b ^^^ 2 ^ 63) / 2 ^ 63 % 2 == 1) = !(b / 2 ^ 63 % 2 == 1) := by
    rw [xor_top h]
    split
    · have h1 : (b + 2 ^ 63) / 2 ^ 63 = 1 := by omega
      have h2 : b / 2 ^ 63 = 0 := by omega
      rw [h1, h2]; rfl
    · have h1 : (b - 2 ^ 63) / 2 ^ 63 = 0 := by omega
      have h2 : b / 2 ^ 63 = 1 := by omega
      rw [h1, h2]; rfl
  rw [e]
  repeat' split
  all_goals rfl
theorem IV.neg {o : Option Nat} {n : Int} (h : IV o n) : IV (fneg o) (-n) := by
  obtain ⟨b, rfl, hb, hf⟩ := h
  refine ⟨_, rfl, (neg_rung hb).2, ?_⟩
  rw [read_neg hb, Int.neg_mul]
  exact hf.opp
theorem IV.abs {o : Option Nat} {n : Int} (h : IV o n) : IV (fabs o) n.natAbs := by
  obtain ⟨b, rfl, hb, hf⟩ := h
  refine ⟨b % 2 ^ 63, rfl, by omega, ?_⟩
  by_cases hs : b < 2 ^ 63
  · rw [Nat.mod_eq_of_lt hs]
    have : 0 ≤ n := by
      obtain ⟨s, m, e, hr, _, hv⟩ := hf
      have hs' : s = false := by
        rw [read_rung] at hr
        have e : (b / 2 ^ 63 % 2 == 1) = false := by rw [Nat.div_eq_of_lt hs]; rfl
        rw [e] at hr
        repeat' split at hr
        all_goals first | (cases hr; rfl) | cases hr
      subst hs'
      rw [signed_eq] at hv
      have hp : (0 : Int) < 2 ^ lp := Int.pow_pos (by decide)
      have h1 : 0 ≤ n * 2 ^ lp := by rw [← hv]; exact Int.mul_nonneg (by simp) (Int.le_of_lt (Int.pow_pos (by decide)))
      exact Int.nonneg_of_mul_nonneg_left h1 hp
    rw [Int.natAbs_of_nonneg this]; exact hf
  · have e : b % 2 ^ 63 = b ^^^ 2 ^ 63 := by rw [xor_top hb, if_neg hs]; omega
    rw [e]
    have : n ≤ 0 := by
      obtain ⟨s, m, e, hr, _, hv⟩ := hf
      have hs' : s = true := by
        rw [read_rung] at hr
        have e : (b / 2 ^ 63 % 2 == 1) = true := by
          have : b / 2 ^ 63 = 1 := by omega
          rw [this]; rfl
        rw [e] at hr
        repeat' split at hr
        all_goals first | (cases hr; rfl) | cases hr
      subst hs'
      rw [signed_eq] at hv
      have hp : (0 : Int) < 2 ^ lp := Int.pow_pos (by decide)
      have h1 : 0 ≤ (-n) * 2 ^ lp := by
        rw [Int.neg_mul, ← hv]
        simp only [if_true, Int.neg_mul, Int.neg_neg]
        exact Int.mul_nonneg (by simp) (Int.le_of_lt (Int.pow_pos (by decide)))
      have := Int.nonneg_of_mul_nonneg_left h1 hp
      omega
    have e2 : ((n.natAbs : Nat) : Int) = -n := by omega
    rw [e2, read_neg hb, Int.neg_mul]
    exact hf.opp
end Go.Proofs.Yteemglgbhdpodaa
