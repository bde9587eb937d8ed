/- Means of whole numbers, and how far numbers lie from them. -/
import Derived.Test.YtlagbacljobbcaaPf
import Derived.Test.YtlagbacljobbcaaPe
namespace Go.Proofs.Ytlagbacljobbcaa
set_option linter.unusedSimpArgs false
set_option linter.unusedVariables false
open Ieee

theorem fn_digits {b : Nat} {s : Bool} {m : Nat} {e n : Int} (h : double.read b = .number s m e) (hv : signed s m (e + 1074).toNat = n * 2 ^ lp) : m * 2 ^ (e + 1074).toNat = n.natAbs * 2 ^ lp := by
  rw [signed_eq] at hv
  have := congrArg Int.natAbs hv
  rw [Int.natAbs_mul, Int.natAbs_mul, Int.natAbs_pow, Int.natAbs_pow] at this
  cases s
  · simpa using this
  · simpa using this
theorem two_lp : 0 < 2 ^ lp := Nat.two_pow_pos lp
/-- where the digits of a whole number stand -/
theorem digits_at {m E g a : Nat} (h : m * 2 ^ E = a * 2 ^ lp) (ha : 2 ^ g ≤ a) (ha' : a < 2 ^ (g + 1)) : m ≠ 0 ∧ E + m.log2 = g + lp := by
  have h0 : m ≠ 0 := by
    intro h1; subst h1
    rw [Nat.zero_mul] at h
    have := Nat.mul_pos (Nat.lt_of_lt_of_le (Nat.two_pow_pos g) ha) two_lp
    omega
  refine ⟨h0, ?_⟩
  have h1 : 2 ^ (m.log2 + E) ≤ m * 2 ^ E := by rw [Nat.pow_add]; exact Nat.mul_le_mul_right _ (Nat.log2_self_le h0)
  have h2 : m * 2 ^ E < 2 ^ (m.log2 + 1 + E) := by rw [Nat.pow_add]; exact Nat.mul_lt_mul_of_pos_right Nat.lt_log2_self (Nat.two_pow_pos _)
  have h3 : 2 ^ (g + lp) ≤ a * 2 ^ lp := by rw [Nat.pow_add]; exact Nat.mul_le_mul_right _ ha
  have h4 : a * 2 ^ lp < 2 ^ (g + 1 + lp) := by rw [Nat.pow_add]; exact Nat.mul_lt_mul_of_pos_right ha' two_lp
  rw [h] at h1 h2
  have h5 := (Nat.pow_lt_pow_iff_right (by decide : 1 < 2)).1 (Nat.lt_of_le_of_lt h1 h4)
  have h6 := (Nat.pow_lt_pow_iff_right (by decide : 1 < 2)).1 (Nat.lt_of_le_of_lt h3 h2)
  omega
theorem log_of {a : Nat} (h : a ≠ 0) : 2 ^ a.log2 ≤ a ∧ a < 2 ^ (a.log2 + 1) := ⟨Nat.log2_self_le h, Nat.lt_log2_self⟩
/-- the digits of a quotient -/
theorem quo_digits {m n : Nat} (hm : m ≠ 0) (hm2 : m < 2 ^ 53) (hn : n ≠ 0) : 2 ^ 53 ≤ m <<< (54 + n.log2 - m.log2) / n := by
  have h1 : m.log2 < 53 := (Nat.log2_lt hm).2 hm2
  rw [shl_eq, Nat.le_div_iff_mul_le (by omega)]
  have h2 := Nat.log2_self_le hm
  have h3 : n < 2 ^ (n.log2 + 1) := Nat.lt_log2_self
  have h4 : 2 ^ (54 + n.log2) ≤ m * 2 ^ (54 + n.log2 - m.log2) := by
    have : 2 ^ (54 + n.log2) = 2 ^ m.log2 * 2 ^ (54 + n.log2 - m.log2) := by rw [← Nat.pow_add]; congr 1; omega
    rw [this]; exact Nat.mul_le_mul_right _ h2
  have h5 : 2 ^ 53 * n ≤ 2 ^ (54 + n.log2) := by
    have : 2 ^ (54 + n.log2) = 2 ^ 53 * 2 ^ (n.log2 + 1) := by rw [← Nat.pow_add]; congr 1; omega
    rw [this]; exact Nat.mul_le_mul_left _ (by omega)
  omega
/-- what stands for a mean: infinite, nought, or with no digit too low -/
def MN (o : Option Nat) : Prop := ∃ b, o = some b ∧ b < 2 ^ 64 ∧ ((∃ s, double.read b = .infinity s) ∨ ∃ s m e, double.read b = .number s m e ∧ -1074 ≤ e ∧ (-61 ≤ e ∨ m = 0))
theorem fop_quo (b c : Nat) : fop .quo (some b) (some c) = ((double.read b).quotient 54 (double.read c)).map double.write := rfl
theorem iv_pos_sign {b : Nat} {s : Bool} {m : Nat} {e n : Int} (hv : signed s m (e + 1074).toNat = n * 2 ^ lp) (hn : 0 < n) : s = false := by
  cases s
  · rfl
  · rw [signed_eq] at hv
    simp only [if_true] at hv
    have hp : (0 : Int) < 2 ^ lp := Int.pow_pos (by decide)
    have h1 := Int.mul_pos hn hp
    have h2 : (0 : Int) ≤ (m : Int) * 2 ^ (e + 1074).toNat := Int.mul_nonneg (by simp) (Int.le_of_lt (Int.pow_pos (by decide)))
    rw [Int.neg_mul] at hv
    omega
theorem mean_mn {o p : Option Nat} {S N : Int} (h : IV o S) (h' : IV p N) (h1 : 1 ≤ N) (h2 : N ≤ 100) (hS : Sm S) : MN (fop .quo o p) := by
  obtain ⟨b, rfl, _, s, m, i, hb, hi, hbv⟩ := h
  obtain ⟨c, rfl, _, t, n, j, hc, hj, hcv⟩ := h'
  have dn := fn_digits hc hcv
  have dm := fn_digits hb hbv
  have ln := log_of (a := N.natAbs) (by omega)
  obtain ⟨n0, an⟩ := digits_at dn ln.1 ln.2
  have gN : N.natAbs.log2 ≤ 6 := by
    have : N.natAbs.log2 < 7 := (Nat.log2_lt (by omega)).2 (by omega)
    omega
  rw [fop_quo, hb, hc]
  simp only [Datum.quotient]
  rw [if_neg n0]
  obtain ⟨_, m53, _⟩ := read_dig hb
  by_cases hm : m = 0
  · subst hm
    refine ⟨_, rfl, (nearest_num _ _ _).2, .inr ?_⟩
    have hz : (2 * ((0 <<< (54 + n.log2 - Nat.log2 0)) / n) + ((0 <<< (54 + n.log2 - Nat.log2 0)) % n != 0).toNat) = 0 := by simp
    rw [hz]
    show ∃ s' m' e', double.read (double.nearest (s ^^ t) 0 _) = _ ∧ _ ∧ _
    unfold Format.nearest
    rw [if_pos rfl]
    have := (read_word (s ^^ t) 0 0 (by decide) (.inl rfl) (by decide)).1
    exact ⟨_, 0, -1074, by simpa using this, by omega, .inr rfl⟩
  · have qd := quo_digits hm m53 n0
    generalize (m <<< (54 + n.log2 - m.log2) % n != 0).toNat = r
    generalize hq : m <<< (54 + n.log2 - m.log2) / n = q at qd
    have m1 : S.natAbs ≠ 0 := by
      intro h0
      rw [h0, Nat.zero_mul] at dm
      have := Nat.mul_pos (show 0 < m by omega) (Nat.two_pow_pos (i + 1074).toNat)
      omega
    have lm := log_of m1
    obtain ⟨_, am⟩ := digits_at dm lm.1 lm.2
    have hl : m.log2 < 53 := (Nat.log2_lt hm).2 m53
    have h54 : 54 ≤ (2 * q + r).log2 := (Nat.le_log2 (by omega)).2 (by omega)
    have hlp : lp = 1074 := rfl
    rw [hlp] at am an
    have hplace : -61 ≤ i - j - ((54 + n.log2 - m.log2 : Nat) : Int) - 1 := by omega
    refine ⟨_, rfl, (nearest_num _ _ _).2, ?_⟩
    rcases nearest_big (s ^^ t) (2 * q + r) (i - j - ((54 + n.log2 - m.log2 : Nat) : Int) - 1) (-1000) (by omega) (by omega) (by omega) with h | ⟨k', e', h1, h2, _, _, _, h6⟩
    · exact .inl ⟨_, h⟩
    · exact .inr ⟨_, k', e', h1, h2, .inl (by omega)⟩
theorem mean_exact {o p : Option Nat} {S N Q : Int} (h : IV o S) (h' : IV p N) (h1 : 1 ≤ N) (h2 : N ≤ 100) (hS : Sm S) (hQ : S = Q * N) : IV (fop .quo o p) Q := by
  obtain ⟨b, rfl, _, s, m, i, hb, hi, hbv⟩ := h
  obtain ⟨c, rfl, _, t, n, j, hc, hj, hcv⟩ := h'
  have dn := fn_digits hc hcv
  have dm := fn_digits hb hbv
  have ln := log_of (a := N.natAbs) (by omega)
  obtain ⟨n0, an⟩ := digits_at dn ln.1 ln.2
  have hlp : lp = 1074 := rfl
  have gN : N.natAbs.log2 ≤ 6 := by
    have : N.natAbs.log2 < 7 := (Nat.log2_lt (by omega)).2 (by omega)
    omega
  have ht := iv_pos_sign (b := c) hcv (by omega)
  subst ht
  obtain ⟨_, m53, _⟩ := read_dig hb
  rw [fop_quo, hb, hc]
  simp only [Datum.quotient]
  rw [if_neg n0]
  by_cases hm : m = 0
  · subst hm
    have hS0 : S.natAbs = 0 := by
      rw [Nat.zero_mul] at dm
      rcases Nat.eq_zero_or_pos S.natAbs with h0 | h0
      · exact h0
      · have := Nat.mul_pos h0 two_lp; omega
    have hQ0 : Q = 0 := by
      have : Q * N = 0 := by omega
      rcases Int.mul_eq_zero.1 this with h | h
      · exact h
      · omega
    subst hQ0
    have hz : (2 * ((0 <<< (54 + n.log2 - Nat.log2 0)) / n) + ((0 <<< (54 + n.log2 - Nat.log2 0)) % n != 0).toNat) = 0 := by simp
    rw [hz]
    refine ⟨_, rfl, (nearest_num _ _ _).2, ?_⟩
    show Fn (double.read (double.nearest (s ^^ false) 0 _)) _
    unfold Format.nearest
    rw [if_pos rfl]
    have := (read_word (s ^^ false) 0 0 (by decide) (.inl rfl) (by decide)).1
    exact ⟨_, 0, -1074, by simpa using this, by omega, by rw [signed_eq]; simp⟩
  · have m1 : S.natAbs ≠ 0 := by
      intro h0
      rw [h0, Nat.zero_mul] at dm
      have := Nat.mul_pos (show 0 < m by omega) (Nat.two_pow_pos (i + 1074).toNat)
      omega
    have lm := log_of m1
    obtain ⟨_, am⟩ := digits_at dm lm.1 lm.2
    have hl : m.log2 < 53 := (Nat.log2_lt hm).2 m53
    have hg : S.natAbs.log2 < 53 := (Nat.log2_lt m1).2 hS
    obtain ⟨I, hI⟩ : ∃ I : Nat, (i + 1074).toNat = I := ⟨_, rfl⟩
    obtain ⟨J, hJ⟩ : ∃ J : Nat, (j + 1074).toNat = J := ⟨_, rfl⟩
    rw [hI] at dm am hbv
    rw [hJ] at dn an hcv
    rw [hlp] at am an
    obtain ⟨M, hM⟩ : ∃ M : Nat, 54 + n.log2 - m.log2 = M := ⟨_, rfl⟩
    rw [hM]
    have hge : I ≤ J + M := by omega
    have hmul : m * 2 ^ M = n * (Q.natAbs * 2 ^ (J + M - I)) := by
      have e1 : m * 2 ^ I = Q.natAbs * (n * 2 ^ J) := by rw [dm, dn, hQ, Int.natAbs_mul, Nat.mul_assoc]
      apply Nat.eq_of_mul_eq_mul_right (Nat.two_pow_pos I)
      calc m * 2 ^ M * 2 ^ I = (m * 2 ^ I) * 2 ^ M := by rw [Nat.mul_right_comm]
        _ = Q.natAbs * (n * 2 ^ J) * 2 ^ M := by rw [e1]
        _ = n * Q.natAbs * (2 ^ J * 2 ^ M) := by rw [← Nat.mul_assoc Q.natAbs, Nat.mul_comm Q.natAbs n, Nat.mul_assoc (n * Q.natAbs)]
        _ = n * Q.natAbs * (2 ^ (J + M - I) * 2 ^ I) := by rw [← Nat.pow_add, ← Nat.pow_add]; congr 2; omega
        _ = n * (Q.natAbs * 2 ^ (J + M - I)) * 2 ^ I := by rw [Nat.mul_assoc n, Nat.mul_assoc n, Nat.mul_assoc Q.natAbs]
    have hdiv : m <<< M / n = Q.natAbs * 2 ^ (J + M - I) := by rw [shl_eq, hmul, Nat.mul_div_cancel_left _ (by omega)]
    have hmod : m <<< M % n = 0 := by rw [shl_eq, hmul, Nat.mul_mod_right]
    rw [hdiv, hmod]
    have hpl : i - j - (M : Int) - 1 = -(((J + M - I : Nat) : Int)) - 1 := by omega
    have hsmall : J + M - I ≤ 1000 := by omega
    have hF : Fn (.number (s ^^ false) (2 * (Q.natAbs * 2 ^ (J + M - I)) + ((0 : Nat) != 0).toNat) (i - j - (M : Int) - 1)) (Q * 2 ^ lp) := by
      refine ⟨_, _, _, rfl, by omega, ?_⟩
      rw [hpl]
      have e2 : (-(((J + M - I : Nat) : Int)) - 1 + 1074).toNat = lp - (J + M - I) - 1 := by omega
      rw [e2, signed_eq, Bool.xor_false]
      have e3 : (2 * (Q.natAbs * 2 ^ (J + M - I)) + ((0 : Nat) != 0).toNat) * 2 ^ (lp - (J + M - I) - 1) = Q.natAbs * 2 ^ lp := by
        have : 2 * (Q.natAbs * 2 ^ (J + M - I)) + ((0 : Nat) != 0).toNat = Q.natAbs * 2 ^ (J + M - I + 1) := by
          rw [show ((0 : Nat) != 0).toNat = 0 from rfl, Nat.add_zero, Nat.pow_succ, ← Nat.mul_assoc Q.natAbs, Nat.mul_comm]
        rw [this, Nat.mul_assoc, ← Nat.pow_add]; congr 2; omega
      have e4 := congrArg (Nat.cast (R := Int)) e3
      rw [Int.natCast_mul, Int.natCast_pow, Int.natCast_mul, Int.natCast_pow] at e4
      have hsg : s = decide (S < 0) := by
        by_cases h0 : S < 0
        · cases s
          · exfalso
            rw [signed_eq] at hbv
            simp only [Bool.false_eq_true, if_false] at hbv
            have q1 : (0 : Int) ≤ (m : Int) * 2 ^ I := Int.mul_nonneg (by simp) (Int.le_of_lt (Int.pow_pos (by decide)))
            have q2 : S * 2 ^ lp < 0 := Int.mul_neg_of_neg_of_pos h0 (Int.pow_pos (by decide))
            omega
          · simp [h0]
        · cases s
          · simp [h0]
          · exfalso
            have := iv_pos_sign (b := b) (s := true) (m := m) (e := i) (n := S) (by rw [hI]; exact hbv) (by omega)
            cases this
      have hQS : S < 0 ↔ Q < 0 := by
        rw [hQ]
        constructor
        · intro h
          apply Classical.byContradiction
          intro hn
          have := Int.mul_nonneg (show 0 ≤ Q by omega) (show 0 ≤ N by omega)
          omega
        · intro h; exact Int.mul_neg_of_neg_of_pos h (by omega)
      subst hsg
      by_cases h0 : S < 0
      · rw [if_pos (by simpa using h0), Int.neg_mul]
        have h0' := hQS.1 h0
        have e5 : ((2 : Nat) : Int) = 2 := rfl
        rw [e5] at e4
        rw [e4, ← Int.neg_mul]; congr 1; omega
      · rw [if_neg (by simpa using h0)]
        have h0' : ¬ Q < 0 := fun h => h0 (hQS.2 h)
        have e5 : ((2 : Nat) : Int) = 2 := rfl
        rw [e5] at e4
        rw [e4]; congr 1; omega
    obtain ⟨w1, w2⟩ := write_int hF (by
      unfold Sm at hS ⊢
      have : Q.natAbs * 1 ≤ Q.natAbs * N.natAbs := Nat.mul_le_mul_left _ (by omega)
      rw [hQ, Int.natAbs_mul] at hS
      omega)
    exact ⟨_, rfl, w2, w1⟩
/-- no number: no answer of an operation -/
def Num (o : Option Nat) : Prop := ∃ b, o = some b ∧ b < 2 ^ 64 ∧ nanB b = false
def ON (o : Option Nat) : Prop := ∃ b, o = some b ∧ b < 2 ^ 64 ∧ NN (double.read b)
def OB (o : Option Nat) (k : Int) : Prop := ∃ b, o = some b ∧ b < 2 ^ 64 ∧ NN (double.read b) ∧ Big (double.read b) k
theorem OB.on {o : Option Nat} {k : Int} (h : OB o k) : ON o := by obtain ⟨b, h1, h2, h3, _⟩ := h; exact ⟨b, h1, h2, h3⟩
theorem fop_add (b c : Nat) : fop .add (some b) (some c) = ((double.read b).sum (double.read c)).map double.write := rfl
theorem fop_sub (b c : Nat) : fop .sub (some b) (some c) = ((double.read b).sum (double.read c).opposite).map double.write := rfl
theorem fop_mul (b c : Nat) : fop .mul (some b) (some c) = ((double.read b).product (double.read c)).map double.write := rfl
theorem ON.add {o p : Option Nat} (h : ON o) (h' : ON p) : ON (fop .add o p) := by
  obtain ⟨b, rfl, _, hb⟩ := h
  obtain ⟨c, rfl, _, hc⟩ := h'
  obtain ⟨d, hd, hn⟩ := hb.sum hc
  exact ⟨double.write d, by rw [fop_add, hd]; rfl, (write_num (sum_num hd)).2, hn⟩
theorem OB.add_l {o p : Option Nat} {k : Int} (h : OB o k) (h' : ON p) : OB (fop .add o p) k := by
  obtain ⟨b, rfl, _, hb, hk⟩ := h
  obtain ⟨c, rfl, _, hc⟩ := h'
  obtain ⟨d, hd, hn, hg⟩ := hb.sum_big hc (.inl hk)
  exact ⟨double.write d, by rw [fop_add, hd]; rfl, (write_num (sum_num hd)).2, hn, hg⟩
theorem OB.add_r {o p : Option Nat} {k : Int} (h : ON o) (h' : OB p k) : OB (fop .add o p) k := by
  obtain ⟨b, rfl, _, hb⟩ := h
  obtain ⟨c, rfl, _, hc, hk⟩ := h'
  obtain ⟨d, hd, hn, hg⟩ := hb.sum_big hc (.inr hk)
  exact ⟨double.write d, by rw [fop_add, hd]; rfl, (write_num (sum_num hd)).2, hn, hg⟩
theorem Num.sq {o : Option Nat} (h : Num o) : ON (fop .mul o o) := by
  obtain ⟨b, rfl, _, hb⟩ := h
  obtain ⟨d, hd, hn⟩ := sq_nn (d := double.read b) hb
  exact ⟨double.write d, by rw [fop_mul, hd]; rfl, (write_num (product_num hd)).2, hn⟩
def BigO (o : Option Nat) (k : Int) : Prop := ∃ b, o = some b ∧ b < 2 ^ 64 ∧ Big (double.read b) k
theorem BigO.sq {o : Option Nat} {k : Int} (h : BigO o k) (hk : -400 ≤ k) : OB (fop .mul o o) (k + k) := by
  obtain ⟨b, rfl, _, hb⟩ := h
  obtain ⟨d, hd, hn, hg⟩ := sq_big hb hk
  exact ⟨double.write d, by rw [fop_mul, hd]; rfl, (write_num (product_num hd)).2, hn, hg⟩
def lq : Nat := 1013
/-- how far a whole number is from a mean: it is the mean, or not near -/
theorem diff_mean {o p : Option Nat} {n : Int} (h : IV o n) (h' : MN p) : Num (fop .sub o p) ∧ (IV p n ∨ BigO (fop .sub o p) (-61)) := by
  obtain ⟨b, rfl, _, hb⟩ := h
  obtain ⟨c, rfl, c64, hc⟩ := h'
  have hb' := hb
  obtain ⟨s, m, i, hbr, hi, hbv⟩ := hb'
  rcases hc with ⟨t, hc⟩ | ⟨t, m', j, hc, hj, hjm⟩
  · have e : fop .sub (some b) (some c) = some (double.write (.infinity !t)) := by rw [fop_sub, hbr, hc]; rfl
    rw [e]
    refine ⟨⟨_, rfl, (write_num rfl).2, (write_num rfl).1⟩, .inr ⟨_, rfl, (write_num rfl).2, .inl ⟨!t, write_inf _⟩⟩⟩
  · have hcf : Fn (double.read c) (signed t m' (j + 1074).toNat) := ⟨t, m', j, hc, hj, rfl⟩
    obtain ⟨d, hd, hf⟩ := sum_fin hb hcf.opp
    have e : fop .sub (some b) (some c) = some (double.write d) := by rw [fop_sub, hd]; rfl
    rw [e]
    refine ⟨⟨_, rfl, (write_num (sum_num hd)).2, (write_num (sum_num hd)).1⟩, ?_⟩
    by_cases hv : n * 2 ^ lp + -signed t m' (j + 1074).toNat = 0
    · left
      exact ⟨c, rfl, c64, by rw [show n * 2 ^ lp = signed t m' (j + 1074).toNat by omega]; exact hcf⟩
    · right
      refine ⟨_, rfl, (write_num (sum_num hd)).2, ?_⟩
      -- all is a whole number of units of 2 ^ lq
      have hlp : (2 : Int) ^ lp = 2 ^ 61 * 2 ^ lq := by rw [← Int.pow_add, show lp = 61 + lq from rfl]
      have hsg : ∃ z : Int, signed t m' (j + 1074).toNat = z * 2 ^ lq := by
        rcases hjm with h61 | h0
        · refine ⟨(if t then -(m' : Int) else m') * 2 ^ (j + 61).toNat, ?_⟩
          rw [signed_eq, Int.mul_assoc, ← Int.pow_add]
          congr 2; unfold lq; omega
        · exact ⟨0, by rw [signed_eq, h0]; simp⟩
      obtain ⟨z, hz⟩ := hsg
      rw [hz] at hv hf
      have hfac : n * 2 ^ lp + -(z * 2 ^ lq) = (n * 2 ^ 61 - z) * 2 ^ lq := by
        rw [hlp, Int.sub_mul, Int.mul_assoc, Int.sub_eq_add_neg]
      rw [hfac] at hv hf
      have hnz : n * 2 ^ 61 - z ≠ 0 := by
        intro h; rw [h, Int.zero_mul] at hv; exact hv rfl
      have hge : 2 ^ lq ≤ ((n * 2 ^ 61 - z) * 2 ^ lq).natAbs := by
        rw [Int.natAbs_mul, Int.natAbs_pow, show (2 : Int).natAbs = 2 from rfl]
        have : 1 ≤ (n * 2 ^ 61 - z).natAbs := by omega
        calc 2 ^ lq = 1 * 2 ^ lq := (Nat.one_mul _).symm
          _ ≤ _ := Nat.mul_le_mul_right _ this
      exact (fn_big (q := lq) hf hge).lower (by decide)
theorem iv_inj {o : Option Nat} {n m : Int} (h : IV o n) (h' : IV o m) : n = m := by
  obtain ⟨b, rfl, _, s, x, e, h1, _, h2⟩ := h
  obtain ⟨c, hc, _, t, y, j, h3, _, h4⟩ := h'
  cases hc
  rw [h1] at h3
  cases h3
  rw [h2] at h4
  exact Int.eq_of_mul_eq_mul_right (by have : (0 : Int) < 2 ^ lp := Int.pow_pos (by decide); omega) h4
/-- noughts -/
theorem IV.mul0 {o p : Option Nat} (h : IV o 0) (h' : IV p 0) : IV (fop .mul o p) 0 := by
  obtain ⟨b, rfl, _, s, m, i, hb, hi, hbv⟩ := h
  obtain ⟨c, rfl, _, t, n, j, hc, hj, hcv⟩ := h'
  have dm := fn_digits hb hbv
  have hm : m = 0 := by
    rw [Int.natAbs_zero, Nat.zero_mul] at dm
    rcases Nat.eq_zero_or_pos m with h | h
    · exact h
    · have := Nat.mul_pos h (Nat.two_pow_pos (i + 1074).toNat); omega
  subst hm
  rw [fop_mul, hb, hc]
  refine ⟨_, rfl, (nearest_num _ _ _).2, ?_⟩
  show Fn (double.read (double.nearest (s ^^ t) (0 * n) _)) _
  rw [Nat.zero_mul]
  unfold Format.nearest
  rw [if_pos rfl]
  have := (read_word (s ^^ t) 0 0 (by decide) (.inl rfl) (by decide)).1
  exact ⟨_, 0, -1074, by simpa using this, by omega, by rw [signed_eq]; simp⟩
/-- a share of what is not below nought -/
theorem ON.share {o p : Option Nat} {N : Int} (h : ON o) (h' : IV p N) (h1 : 1 ≤ N) : ON (fop .quo o p) := by
  obtain ⟨b, rfl, _, hb⟩ := h
  obtain ⟨c, rfl, _, t, n, j, hc, hj, hcv⟩ := h'
  have ht := iv_pos_sign (b := c) hcv (by omega)
  subst ht
  have dn := fn_digits hc hcv
  have ln := log_of (a := N.natAbs) (by omega)
  obtain ⟨n0, an⟩ := digits_at dn ln.1 ln.2
  rcases hb with hb | ⟨m, e, hb, he, hm⟩
  · rw [fop_quo, hb, hc]
    exact ⟨_, rfl, (write_num rfl).2, write_nn (.inl rfl)⟩
  · rw [fop_quo, hb, hc]
    simp only [Datum.quotient]
    rw [if_neg n0]
    exact ⟨_, rfl, (nearest_num _ _ _).2, nearest_nn _ _⟩
theorem OB.share {o p : Option Nat} {N k : Int} (h : OB o k) (h' : IV p N) (h1 : 1 ≤ N) (h2 : N ≤ 100) (hk : -600 ≤ k) : OB (fop .quo o p) (k - 10) := by
  have hon := h.on.share h' h1
  obtain ⟨b, rfl, _, _, hb⟩ := h
  obtain ⟨c, rfl, _, t, n, j, hc, hj, hcv⟩ := h'
  have ht := iv_pos_sign (b := c) hcv (by omega)
  subst ht
  have dn := fn_digits hc hcv
  have ln := log_of (a := N.natAbs) (by omega)
  obtain ⟨n0, an⟩ := digits_at dn ln.1 ln.2
  have gN : N.natAbs.log2 ≤ 6 := by
    have : N.natAbs.log2 < 7 := (Nat.log2_lt (by omega)).2 (by omega)
    omega
  have hlp : lp = 1074 := rfl
  rw [hlp] at an
  obtain ⟨r, hr, hr64, hrn⟩ := hon
  refine ⟨r, hr, hr64, hrn, ?_⟩
  rcases hb with ⟨s, hb⟩ | ⟨s, m, i, hb, hi, hm, m53, hkm⟩
  · rw [fop_quo, hb, hc] at hr
    cases hr
    exact .inl ⟨s ^^ false, write_inf _⟩
  · rw [fop_quo, hb, hc] at hr
    simp only [Datum.quotient] at hr
    rw [if_neg n0] at hr
    cases hr
    have qd := quo_digits hm m53 n0
    generalize (m <<< (54 + n.log2 - m.log2) % n != 0).toNat = r
    generalize hq : m <<< (54 + n.log2 - m.log2) / n = q at qd
    have hl : m.log2 < 53 := (Nat.log2_lt hm).2 m53
    have h54 : 54 ≤ (2 * q + r).log2 := (Nat.le_log2 (by omega)).2 (by omega)
    exact write_big (by omega) (by omega) (by omega)
theorem ON.sign {o : Option Nat} (h : ON o) : flt o (mk 0) = false := by
  obtain ⟨b, rfl, _, hb⟩ := h
  unfold flt ford
  have e0 : double.read 0 = .number false 0 (-1074) := by decide
  have em : mk 0 = some 0 := by decide
  rw [em]
  show (double.order b 0 == some .lt) = false
  unfold Format.order
  rw [e0]
  rcases hb with hb | ⟨m, e, hb, he, _⟩
  · rw [hb]; rfl
  · rw [hb]
    have h1 : Fn (.number false m e) (signed false m (e + 1074).toNat) := ⟨_, _, _, rfl, he, rfl⟩
    have h2 : Fn (.number false 0 (-1074)) 0 := ⟨_, _, _, rfl, by omega, by rw [signed_eq]; simp⟩
    rw [order_fin h1 h2]
    have h3 : 0 ≤ signed false m (e + 1074).toNat := by
      rw [signed_eq]
      exact Int.mul_nonneg (by simp) (Int.le_of_lt (Int.pow_pos (by decide)))
    rcases Int.lt_or_eq_of_le h3 with h4 | h4
    · rw [Int.compare_eq_gt.2 h4]; rfl
    · rw [← h4]; simp
theorem OB.pos {o : Option Nat} {k : Int} (h : OB o k) : feq o (mk 0) = false := by
  obtain ⟨b, rfl, _, _, hb⟩ := h
  unfold feq ford
  have e0 : double.read 0 = .number false 0 (-1074) := by decide
  have em : mk 0 = some 0 := by decide
  rw [em]
  show (double.order b 0 == some .eq) = false
  unfold Format.order
  rw [e0]
  rcases hb with ⟨s, hb⟩ | ⟨s, m, e, hb, he, hm, _, _⟩
  · rw [hb]; cases s <;> rfl
  · rw [hb]
    have h1 : Fn (.number s m e) (signed s m (e + 1074).toNat) := ⟨_, _, _, rfl, he, rfl⟩
    have h2 : Fn (.number false 0 (-1074)) 0 := ⟨_, _, _, rfl, by omega, by rw [signed_eq]; simp⟩
    rw [order_fin h1 h2]
    have h3 : signed s m (e + 1074).toNat ≠ 0 := by
      rw [signed_eq]
      intro h
      rcases Int.mul_eq_zero.1 h with h | h
      · cases s <;> simp at h <;> omega
      · have : (0 : Int) < 2 ^ (e + 1074).toNat := Int.pow_pos (by decide)
        omega
    rcases Int.lt_trichotomy (signed s m (e + 1074).toNat) 0 with h4 | h4 | h4
    · rw [Int.compare_eq_lt.2 h4]; rfl
    · exact absurd h4 h3
    · rw [Int.compare_eq_gt.2 h4]; rfl
end Go.Proofs.Ytlagbacljobbcaa
