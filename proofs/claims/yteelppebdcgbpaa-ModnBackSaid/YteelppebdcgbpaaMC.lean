/- Texts of this claim, joined: Ne, Nf, Ng, Nh, Ni, Nj, Fa, Fb, Qa, Qd. -/
import Derived.Test.YteelppebdcgbpaaMB
import Derived.Scope
import Derived.WalkMore
import Derived.Test.YteelppebdcgbpaaMA
import Derived.Test.YteelppebdcgbpaaWWords
import Derived.Test.YteelppebdcgbpaaWMore

/- The divisor times a digit is taken off. -/
namespace Go.Proofs.Yteelppebdcgbpaa
set_option linter.unusedSimpArgs false
set_option linter.unusedVariables false
open Go.RowKit

theorem take_digit {x q cy h l lo c : Nat} (hx : x < 18446744073709551616) (hq : q < 18446744073709551616) (hc : cy < 18446744073709551616)
    (eh : x * q / 18446744073709551616 = h) (el : x * q % 18446744073709551616 = l) (e1 : (l + cy + 0) % 18446744073709551616 = lo) (e2 : (l + cy + 0) / 18446744073709551616 = c) :
    x * q + cy = lo + 18446744073709551616 * (h + c) ∧ h + c < 18446744073709551616 ∧ lo < 18446744073709551616 ∧ c ≤ 1 ∧ h < 18446744073709551616 := by
  have hm : x * q ≤ 18446744073709551615 * 18446744073709551615 := Nat.mul_le_mul (by omega) (by omega)
  generalize x * q = p at *
  omega
theorem borrow_digit {o lo bo s b : Nat} (ho : o < 18446744073709551616) (hl : lo < 18446744073709551616) (hb : bo ≤ 1)
    (hs : (o + 18446744073709551616 - lo - bo) % 18446744073709551616 = s) (hd : (if o < lo + bo then 1 else 0 : Nat) = b) : o + 18446744073709551616 * b = s + lo + bo ∧ b ≤ 1 ∧ s < 18446744073709551616 := by
  by_cases h : o < lo + bo
  · rw [if_pos h] at hd; omega
  · rw [if_neg h] at hd; omega

set_option maxHeartbeats 1000000 in
theorem take_any (w : World) {base g nu cu m d : Nat} {B : Option Addr} {us ys : List Nat} (h : Own .u64 35 w base (some ⟨g, 0, none⟩) nu cu us) (bu : B64 us) (hv : Rd .u64 w B m d ys) (bv : B64 ys)
    (hne : ∀ ad, B = some ad → ad.block ≠ g) (j q : Nat) (hj : j + m < nu) (hnu : nu ≤ 2097152) (hq64 : q < 18446744073709551616) :
    Calls Try.prog 61 #[.slice (some ⟨g, 0, none⟩) nu cu, .slice B m d, .int .i64 j, .int .u64 q] w (RetU g base nu cu w fun r us' => nv us' + q * nv ys * 18446744073709551616 ^ j = nv us + 18446744073709551616 ^ (j + m + 1) * (if r then 1 else 0) ∧ Above (j + m) us us') := by
  have H := Lib.hid h
  have BU := Lib.hid bu
  have HV := Lib.hid hv
  have BV := Lib.hid bv
  have HNE := Lib.hid hne
  clear h bu hv bv hne
  go_enter Try.func61, Try.ntmps61
  go_wp2_with fail
  go_loopw [9, 10, 18] (fun bv cv i wr => ∃ (t cy bo : Nat) (vs' : List Nat), t ≤ m ∧ cy < 18446744073709551616 ∧ bo ≤ 1 ∧ i = .int .i64 (t : Int) ∧ cv = .int .u64 (cy : Int) ∧ bv = .int .u64 (bo : Int) ∧ Own .u64 35 wr base (some ⟨g, 0, none⟩) nu cu vs' ∧ B64 vs' ∧ w.grownBy wr (some g) ∧ nv vs' + q * nv (ys.take t) * 18446744073709551616 ^ j = nv us + 18446744073709551616 ^ (j + t) * (cy + bo) ∧ Above (j + m) us vs') (fun _ _ i _ => m - (intOf i).toNat)
  case atStart => exact ⟨0, 0, 0, us, by omega, by omega, by omega, rfl, rfl, rfl, H.out, BU.out, grown_refl _ _, by simp [nv], Above.refl _ _⟩
  case round =>
    obtain ⟨t, cy, bo, zs, ht, hcy, hbo, rfl, rfl, rfl, how, bz, hgr, hinv, hab⟩ := hrel
    have HAB := Lib.hid hab
    clear hab
    have HI := Lib.hid hinv
    have HO := Lib.hid how
    have HG := Lib.hid hgr
    clear hinv
    by_cases hlt : t < m
    · obtain ⟨ad, rfl, hb, hc⟩ := (HV.out.grown hgr HNE.out).form (by omega)
      have hxc := hc t hlt
      have hcell := how.cellAt (show j + t < nu by omega)
      have hfr := how.frozenAt (j + t)
      have hgx := BV.out.gd t
      have hgo := bz.gd (j + t)
      have hmul := Yteelppebdcgbpaa.bits_Mul64 (gd ys t) q hgx hq64
      obtain ⟨h, eh⟩ : ∃ h, gd ys t * q / 18446744073709551616 = h := ⟨_, rfl⟩
      obtain ⟨l, el⟩ : ∃ l, gd ys t * q % 18446744073709551616 = l := ⟨_, rfl⟩
      rw [eh, el] at hmul
      have hadd := run_add l cy 0 (by omega)
      obtain ⟨lo, e1⟩ : ∃ lo, (l + cy + 0) % 18446744073709551616 = lo := ⟨_, rfl⟩
      obtain ⟨c, e2⟩ : ∃ c, (l + cy + 0) / 18446744073709551616 = c := ⟨_, rfl⟩
      rw [e1, e2] at hadd
      obtain ⟨hd1, hcy', hlo, hc1, hh⟩ := take_digit hgx hq64 hcy eh el e1 e2
      have hsub := run_sub (gd zs (j + t)) lo bo hbo
      obtain ⟨s, hs⟩ : ∃ s, (gd zs (j + t) + 18446744073709551616 - lo - bo) % 18446744073709551616 = s := ⟨_, rfl⟩
      obtain ⟨b, hbb⟩ : ∃ b : Nat, (if gd zs (j + t) < lo + bo then 1 else 0) = b := ⟨_, rfl⟩
      rw [hs, hbb] at hsub
      obtain ⟨hd2, hb1, hs64⟩ := borrow_digit hgo hlo hbo hs hbb
      have HD1 := Lib.hid hd1
      have HD2 := Lib.hid hd2
      have HMUL := Lib.hid hmul
      have hcu := (HO.out.rd).max
      have hcu2 := (HO.out.rd).cap
      simp only [Int.natCast_zero] at hadd
      clear hc how hgr hs hbb hd1 hd2 hgx hgo eh el e1 e2 hmul
      go_wp2_with fail
      refine (HMUL.out _).mono ?_
      rintro e w' ⟨rfl, rfl⟩
      go_wp2_with fail
      refine ⟨⟨t + 1, h + c, b, zs.set (j + t) s, by omega, hcy', hb1, by go_num, by go_num, rfl, HO.out.store (j + t) s, bz.set hs64, grown_set HG.out _ _, ?_, HAB.out.set (by omega) _⟩, by simp [intOf]; omega⟩
      rw [nv_take, ← Nat.add_assoc, Nat.pow_succ]
      exact take_step (nv_set s (by rw [HO.out.len]; omega)) HD1.out HD2.out HI.out (pow_shift _ _ _)
    · obtain rfl : m = t := by omega
      have hcell := how.cellAt hj
      have hfr := how.frozenAt (j + m)
      have hgo := bz.gd (j + m)
      have hsub := run_sub (gd zs (j + m)) cy bo hbo
      obtain ⟨s, hs⟩ : ∃ s, (gd zs (j + m) + 18446744073709551616 - cy - bo) % 18446744073709551616 = s := ⟨_, rfl⟩
      obtain ⟨b, hbb⟩ : ∃ b : Nat, (if gd zs (j + m) < cy + bo then 1 else 0) = b := ⟨_, rfl⟩
      rw [hs, hbb] at hsub
      obtain ⟨hd2, hb1, hs64⟩ := borrow_digit hgo hcy hbo hs hbb
      have hfin := take_step (nv_set s (show j + m < zs.length by rw [HO.out.len]; exact hj)) (show 0 * q + cy = cy + 18446744073709551616 * 0 by simp) hd2 HI.out (show 18446744073709551616 ^ (j + m) * 0 = 0 * 18446744073709551616 ^ j by simp)
      rw [← Nat.pow_succ, Nat.add_zero, List.take_of_length_le (by rw [HV.out.len]; omega), Nat.zero_add] at hfin
      have HF := Lib.hid hfin
      have hcu := (HO.out.rd).max
      have hcu2 := (HO.out.rd).cap
      have hq1 : b = 0 ∨ b = 1 := by omega
      clear how hgr hs hbb hd2 hgo hfin
      rcases hq1 with rfl | rfl
      · go_wp2_with fail
        go_ret
        refine ⟨false, zs.set (j + m) s, rfl, HO.out.store (j + m) s, bz.set hs64, grown_set HG.out _ _, ?_⟩
        simp only [Bool.false_eq_true, if_true, if_false]
        exact ⟨HF.out, HAB.out.set (by omega) _⟩
      · go_wp2_with fail
        go_ret
        refine ⟨true, zs.set (j + m) s, rfl, HO.out.store (j + m) s, bz.set hs64, grown_set HG.out _ _, ?_⟩
        simp only [Bool.false_eq_true, if_true, if_false]
        exact ⟨HF.out, HAB.out.set (by omega) _⟩
end Go.Proofs.Yteelppebdcgbpaa

/- Long division: the plain law of one digit, and of the whole. -/
namespace Go.Proofs.Yteelppebdcgbpaa
set_option linter.unusedSimpArgs false
set_option linter.unusedVariables false

/-- the guess is not too small, and at most two too great -/
theorem guess_lowW {W V v1 v' R T u1 u0 u' : Nat} (hv : V = v1 * R + v') (hT : T = (u1 * W + u0) * R + u') (hu' : u' < R) (hu0 : u0 < W) (hTV : T < V * W) (h1 : v1 ≤ u1 ∨ v1 > u1) (hv1 : 0 < v1) (hR : 0 < R) (hv' : v' < R) :
    T / V ≤ if v1 ≤ u1 then W - 1 else (u1 * W + u0) / v1 := by
  have hV : 0 < V := by rw [hv]; exact Nat.add_pos_left (Nat.mul_pos hv1 hR) _
  have hq : T / V < W := by rw [Nat.div_lt_iff_lt_mul hV, Nat.mul_comm]; exact hTV
  by_cases h : v1 ≤ u1
  · rw [if_pos h]; omega
  · rw [if_neg h, Nat.le_div_iff_mul_le hv1]
    have e := Nat.div_mul_le_self T V
    generalize T / V = q at *
    have e1 : q * v1 * R ≤ q * V := by rw [hv, Nat.mul_add, Nat.mul_assoc]; omega
    have e2 : q * v1 * R < (u1 * W + u0 + 1) * R := by rw [Nat.add_mul (u1 * W + u0)]; omega
    have := Nat.lt_of_mul_lt_mul_right e2
    omega
theorem guess_highW {W V v1 v' R T u1 u0 u' : Nat} (hv : V = v1 * R + v') (hT : T = (u1 * W + u0) * R + u') (hu' : u' < R) (hu0 : u0 < W) (hTV : T < V * W) (hv1 : W ≤ 2 * v1) (hW : 0 < W) (hR : 0 < R) (hv' : v' < R) :
    (if v1 ≤ u1 then W - 1 else (u1 * W + u0) / v1) ≤ T / V + 2 := by
  have hv0 : 0 < v1 := by omega
  have hV : 0 < V := by rw [hv]; exact Nat.add_pos_left (Nat.mul_pos hv0 hR) _
  generalize hq : (if v1 ≤ u1 then W - 1 else (u1 * W + u0) / v1) = q
  have hqv : q * v1 ≤ u1 * W + u0 := by
    by_cases h : v1 ≤ u1
    · rw [if_pos h] at hq
      have e1 : (W - 1) * v1 ≤ W * v1 := Nat.mul_le_mul_right _ (by omega)
      have e2 : W * v1 ≤ W * u1 := Nat.mul_le_mul_left _ h
      rw [← hq, Nat.mul_comm u1]; omega
    · rw [if_neg h] at hq
      rw [← hq]; exact Nat.div_mul_le_self _ _
  have hqW : q ≤ W := by
    by_cases h : v1 ≤ u1
    · rw [if_pos h] at hq; omega
    · rw [if_neg h] at hq
      have : (u1 * W + u0) / v1 < W := by
        rw [Nat.div_lt_iff_lt_mul hv0]
        have e : (u1 + 1) * W ≤ v1 * W := Nat.mul_le_mul_right _ (by omega)
        rw [Nat.add_mul] at e; rw [Nat.mul_comm W]; omega
      omega
  by_cases h2 : q ≤ 2
  · exact Nat.le_trans h2 (Nat.le_add_left _ _)
  · obtain ⟨p, rfl⟩ : ∃ p, q = p + 2 := ⟨q - 2, by omega⟩
    refine Nat.add_le_add_right ?_ 2
    rw [Nat.le_div_iff_mul_le hV]
    have e1 : (p + 2) * v1 * R ≤ T := by
      have := Nat.mul_le_mul_right R hqv
      rw [hT]; omega
    have e2 : (p + 2) * v' ≤ W * R := Nat.mul_le_mul hqW (Nat.le_of_lt hv')
    have e3 : W * R ≤ 2 * v1 * R := Nat.mul_le_mul_right _ hv1
    have e4 : (p + 2) * V = (p + 2) * v1 * R + (p + 2) * v' := by rw [hv, Nat.mul_add, Nat.mul_assoc]
    have e5 : 2 * V = 2 * v1 * R + 2 * v' := by rw [hv, Nat.mul_add, Nat.mul_assoc]
    have e6 : (p + 2) * V = p * V + 2 * V := by rw [Nat.add_mul]
    omega

/-- what stands above is nought -/
theorem nv_zeros {xs : List Nat} {K : Nat} (h : B64 xs) (h0 : ∀ t, K ≤ t → gd xs t = 0) : nv xs < 18446744073709551616 ^ K := by
  rcases Nat.lt_or_ge K xs.length with hk | hk
  · have e := nv_split xs K (by omega)
    have z : nv (xs.drop K) = 0 := by
      have : ∀ ys : List Nat, (∀ t, gd ys t = 0) → nv ys = 0 := by
        intro ys
        induction ys with
        | nil => intro _; rfl
        | cons y ys ih =>
          intro hy
          have h1 := hy 0
          have h2 := ih (fun t => by have := hy (t + 1); simpa [gd] using this)
          simp only [nv, h2]
          simpa [gd] using h1
      exact this _ fun t => by rw [gd_drop]; exact h0 _ (by omega)
    rw [e, z, Nat.mul_zero, Nat.add_zero]
    exact nv_take_lt h K
  · exact Nat.lt_of_lt_of_le (nv_lt h) (Nat.pow_le_pow_right (by omega) hk)
theorem zeros_of_nv {xs : List Nat} {K : Nat} (h : nv xs < 18446744073709551616 ^ K) : ∀ t, K ≤ t → gd xs t = 0 := by
  intro t ht
  rcases Nat.eq_zero_or_pos (gd xs t) with h0 | h0
  · exact h0
  · exfalso
    have hlt : t < xs.length := by
      rcases Nat.lt_or_ge t xs.length with h | h
      · exact h
      · rw [gd_ge h] at h0; omega
    have e := nv_split xs t (by omega)
    have e2 := nv_drop hlt
    have e3 : 18446744073709551616 ^ K ≤ 18446744073709551616 ^ t := Nat.pow_le_pow_right (by omega) ht
    have e4 : 18446744073709551616 ^ t * 1 ≤ 18446744073709551616 ^ t * nv (xs.drop t) := Nat.mul_le_mul_left _ (by omega)
    omega

/-- The state of a division: k digits are still to come. -/
structure DivSt (X V m k : Nat) (us zs : List Nat) : Prop where
  val : X = nv (zs.drop k) * 18446744073709551616 ^ k * V + nv us
  low : nv us < V * 18446744073709551616 ^ k

/-- the part of u that is parted by v: its two first digits -/
theorem div_top {V m k : Nat} {us ys : List Nat} (hV : nv ys = V) (hyl : ys.length = m + 1) (by' : B64 ys) (bu : B64 us) (hul : k + 1 + m < us.length) (hlow : nv us < V * 18446744073709551616 ^ (k + 1)) :
    ∃ T L R u' v', nv us = T * 18446744073709551616 ^ k + L ∧ L < 18446744073709551616 ^ k ∧ R = 18446744073709551616 ^ m ∧ T = (gd us (k + 1 + m) * 18446744073709551616 + gd us (k + m)) * R + u' ∧ u' < R ∧ V = gd ys m * R + v' ∧ v' < R ∧ T < V * 18446744073709551616 := by
  have hVlt : V < 18446744073709551616 ^ (m + 1) := by rw [← hV, ← hyl]; exact nv_lt by'
  have hz : ∀ t, k + 1 + (m + 1) ≤ t → gd us t = 0 := by
    refine zeros_of_nv (Nat.lt_trans hlow ?_)
    rw [Nat.pow_add _ (k + 1), Nat.mul_comm V]
    exact Nat.mul_lt_mul_of_pos_left hVlt (Nat.pow_pos (by omega))
  have s1 := nv_split us k (by omega)
  have s2 := nv_split (us.drop k) m (by rw [List.length_drop]; omega)
  have s3 : nv ((us.drop k).drop m) = gd us (k + m) + 18446744073709551616 * gd us (k + 1 + m) := by
    rw [nv_drop_any, gd_drop, nv_drop_any, gd_drop, List.drop_drop]
    have : nv (us.drop (k + (m + 1 + 1))) = 0 := by
      have : ∀ ys : List Nat, (∀ t, gd ys t = 0) → nv ys = 0 := by
        intro ys
        induction ys with
        | nil => intro _; rfl
        | cons y ys ih =>
          intro hy
          have h1 := hy 0
          have h2 := ih (fun t => by have := hy (t + 1); simpa [gd] using this)
          simp only [nv, h2]
          simpa [gd] using h1
      exact this _ fun t => by rw [gd_drop]; exact hz _ (by omega)
    rw [this, show k + (m + 1) = k + 1 + m by omega]; omega
  have s4 := nv_split ys m (by omega)
  have s5 : nv (ys.drop m) = gd ys m := by
    rw [nv_drop (by omega), List.drop_eq_nil_of_le (by omega)]; simp [nv]
  refine ⟨nv (us.drop k), nv (us.take k), _, nv ((us.drop k).take m), nv (ys.take m), ?_, nv_take_lt bu k, rfl, ?_, nv_take_lt (bu.drop k) m, ?_, nv_take_lt by' m, ?_⟩
  · rw [s1, Nat.mul_comm (18446744073709551616 ^ k)]; omega
  · rw [s2, s3, Nat.mul_comm (18446744073709551616 ^ m), Nat.mul_comm 18446744073709551616, Nat.add_comm (gd us (k + m))]; omega
  · rw [← hV, s4, s5, Nat.mul_comm (18446744073709551616 ^ m)]; omega
  · rw [Nat.pow_succ] at hlow
    have e : 18446744073709551616 ^ k * nv (us.drop k) < 18446744073709551616 ^ k * (V * 18446744073709551616) := by
      rw [show 18446744073709551616 ^ k * (V * 18446744073709551616) = V * (18446744073709551616 ^ k * 18446744073709551616) by rw [Nat.mul_left_comm]]
      omega
    exact Nat.lt_of_mul_lt_mul_left e

/-- u is what is left behind a digit -/
theorem div_digit {X V m k d : Nat} {us us' zs : List Nat} (h : DivSt X V m (k + 1) us zs) (hz : k < zs.length) (hd : nv us' + d * V * 18446744073709551616 ^ k = nv us) (hlow : nv us' < V * 18446744073709551616 ^ k) : DivSt X V m k us' (zs.set k d) := by
  refine ⟨?_, hlow⟩
  rw [h.val, nv_drop (xs := zs.set k d) (j := k) (by rw [List.length_set]; exact hz), gd_set_self hz, drop_set_lt (by omega), ← hd, Nat.pow_succ]
  generalize nv (zs.drop (k + 1)) = Z
  generalize 18446744073709551616 ^ k = P
  rw [Nat.add_mul, Nat.add_mul, Nat.mul_right_comm d P V]
  have : Z * (P * 18446744073709551616) * V = 18446744073709551616 * Z * P * V := by
    rw [Nat.mul_comm P, ← Nat.mul_assoc, Nat.mul_comm Z]
  omega

/-- all that a round needs of its digit -/
theorem div_round {V T L P q : Nat} {u u1 : Nat} (hV : 0 < V) (hu : u = T * P + L) (hL : L < P) (hq : q = T / V) (hd : u1 + q * V * P = u) : u1 < V * P := by
  have e := Nat.div_add_mod T V
  have hm := Nat.mod_lt T hV
  rw [← hq] at e
  have e2 : T * P = q * V * P + T % V * P := by rw [← Nat.add_mul, Nat.mul_comm q]; congr 1; exact e.symm
  have e3 : (T % V + 1) * P ≤ V * P := Nat.mul_le_mul_right _ hm
  rw [Nat.add_mul] at e3
  omega
theorem digit_le {V T L P g u : Nat} (hV : 0 < V) (hu : u = T * P + L) (hL : L < P) (h : g * V * P ≤ u) : g ≤ T / V := by
  rw [Nat.le_div_iff_mul_le hV]
  have : g * V * P < (T + 1) * P := by rw [Nat.add_mul]; omega
  have := Nat.lt_of_mul_lt_mul_right this
  omega
theorem digit_ge {V T L P g u : Nat} (hu : u = T * P + L) (h : u < g * V * P) : T / V < g := by
  rcases Nat.eq_zero_or_pos V with hV | hV
  · subst hV; simp at h
  · rw [Nat.div_lt_iff_lt_mul hV]
    have : T * P < g * V * P := by omega
    exact Nat.lt_of_mul_lt_mul_right this

/-- a divisor moved up so that its highest binary digit is the highest one of its limb -/
theorem norm_top {b k : Nat} (hb : b ≠ 0) (hk : k < 64) (h1 : 2 ^ k ≤ gd (limbs b) (ln b - 1)) (h2 : gd (limbs b) (ln b - 1) < 2 ^ (k + 1)) :
    b * 2 ^ (63 - k) < 18446744073709551616 ^ ln b ∧ ln (b * 2 ^ (63 - k)) = ln b ∧ 9223372036854775808 ≤ gd (limbs (b * 2 ^ (63 - k))) (ln b - 1) := by
  obtain ⟨m, hm⟩ : ∃ m, ln b = m + 1 := ⟨ln b - 1, by have := ln_pos hb; omega⟩
  have hll : (limbs b).length = m + 1 := hm
  rw [hm, Nat.add_sub_cancel] at h1 h2
  rw [hm, Nat.add_sub_cancel]
  have s := nv_split (limbs b) m (by omega)
  rw [nv_limbs, nv_drop (by omega), List.drop_eq_nil_of_le (by omega)] at s
  simp only [nv, Nat.mul_zero, Nat.add_zero] at s
  have hlo := nv_take_lt (limbs_b64 b) m
  generalize gd (limbs b) m = t at *
  generalize nv ((limbs b).take m) = lo at *
  have hP : 0 < 18446744073709551616 ^ m := Nat.pow_pos (by omega)
  generalize hPP : 18446744073709551616 ^ m = P at *
  have e63 : 2 ^ k * 2 ^ (63 - k) = 9223372036854775808 := by rw [← Nat.pow_add, show k + (63 - k) = 63 by omega]
  have e64 : 2 ^ (k + 1) * 2 ^ (63 - k) = 18446744073709551616 := by rw [← Nat.pow_add, show k + 1 + (63 - k) = 64 by omega]
  generalize 2 ^ (63 - k) = S at *
  have hb1 : b < 2 ^ (k + 1) * P := by
    have : (t + 1) * P ≤ 2 ^ (k + 1) * P := Nat.mul_le_mul_right _ h2
    rw [Nat.add_mul, Nat.mul_comm t] at this; omega
  have hS : 0 < S := by rcases Nat.eq_zero_or_pos S with h | h; subst h; simp at e63; exact h
  have c1 : b * S < 18446744073709551616 * P := by
    have := Nat.mul_lt_mul_of_pos_right hb1 hS
    rw [Nat.mul_right_comm, e64] at this; exact this
  have c1' : b * S < 18446744073709551616 ^ (m + 1) := by rw [Nat.pow_succ, hPP, Nat.mul_comm P]; exact c1
  have c2 : 9223372036854775808 * P ≤ b * S := by
    have h3 : 2 ^ k * P ≤ b := by
      have := Nat.mul_le_mul_right P h1
      rw [s, Nat.mul_comm P]; omega
    have := Nat.mul_le_mul_right S h3
    rw [Nat.mul_right_comm, e63] at this; exact this
  have c3 : ln (b * S) = m + 1 := by
    refine Nat.le_antisymm (ln_le.2 c1') ?_
    rcases Nat.lt_or_ge m (ln (b * S)) with h | h
    · exact h
    · have := ln_le.1 h; rw [hPP] at this; omega
  refine ⟨c1', c3, ?_⟩
  have hl2 : (limbs (b * S)).length = m + 1 := c3
  have s' := nv_split (limbs (b * S)) m (by omega)
  rw [nv_limbs, nv_drop (by omega), List.drop_eq_nil_of_le (by omega)] at s'
  simp only [nv, Nat.mul_zero, Nat.add_zero] at s'
  have hlo' := nv_take_lt (limbs_b64 (b * S)) m
  rw [hPP] at s' hlo'
  generalize gd (limbs (b * S)) m = t' at *
  generalize nv ((limbs (b * S)).take m) = lo' at *
  rcases Nat.lt_or_ge t' 9223372036854775808 with h | h
  · exfalso
    have : (t' + 1) * P ≤ 9223372036854775808 * P := Nat.mul_le_mul_right _ h
    rw [Nat.add_mul, Nat.mul_comm t'] at this
    omega
  · exact h

/-- the whole: what was moved up is moved down -/
theorem div_done {a b s : Nat} {us zs : List Nat} {m : Nat} (hb : 0 < b) (h : DivSt (a * 2 ^ s) (b * 2 ^ s) m 0 us zs) : nv zs = a / b ∧ nv us / 2 ^ s = a % b := by
  have hv := h.val
  have hl := h.low
  simp only [List.drop_zero, Nat.pow_zero, Nat.mul_one] at hv hl
  have hp : 0 < 2 ^ s := Nat.pow_pos (by omega)
  have hp2 : 0 < b * 2 ^ s := Nat.mul_pos hb hp
  have q : a * 2 ^ s / (b * 2 ^ s) = nv zs := by
    rw [hv, Nat.add_comm, Nat.add_mul_div_right _ _ hp2, Nat.div_eq_of_lt hl, Nat.zero_add]
  have r : a * 2 ^ s % (b * 2 ^ s) = nv us := by
    rw [hv, Nat.add_comm, Nat.add_mul_mod_self_right, Nat.mod_eq_of_lt hl]
  rw [Nat.mul_div_mul_right _ _ hp] at q
  rw [Nat.mul_mod_mul_right] at r
  exact ⟨q.symm, by rw [← r, Nat.mul_div_cancel _ hp]⟩
end Go.Proofs.Yteelppebdcgbpaa

/- A scope in which the run jumps a few times; the plain cases of long division: by nought, by more than the number, by one limb. -/
namespace Go

/-- As Q; by a goto: on from its label, at most so many times. -/
def Exit.hops (P : Program) (c : Code) (Q : Exit → Act → World → Prop) : Nat → Exit → Act → World → Prop
  | 0, .goto _, _, _ => False
  | n + 1, .goto l, a, w => ∃ rest, findLabel c l = some rest ∧ rest.wp P (Exit.hops P c Q n) a w
  | _, e, a, w => Q e a w
theorem Exit.hops_normal {P : Program} {c : Code} {Q : Exit → Act → World → Prop} {n : Nat} {a : Act} {w : World} (h : Q .normal a w) : Exit.hops P c Q n .normal a w := by
  cases n <;> exact h
theorem Exit.hops_of {P : Program} {c : Code} {Q : Exit → Act → World → Prop} {n : Nat} {e : Exit} {a : Act} {w : World} (h : Exit.hops P c Q n e a w) (hg : ∀ l, e ≠ .goto l) : Q e a w := by
  cases n <;> cases e <;> first | exact h | exact absurd rfl (hg _)
theorem wp_scope_hops {P : Program} {a : Act} {w : World} {Q : Exit → Act → World → Prop} {c : Code} (n : Nat) (first : c.wp P (Exit.hops P c Q n) a w) : (Code.scope c).wp P Q a w := by
  intro b k cs
  have key : ∀ n code a w, Code.wp P code (Exit.hops P c Q n) a w → ∃ e a' w', Q e a' w' ∧ Arrives P (lone (b.at a (.code code :: .inScope c :: k)) cs w) b k cs e a' w' := by
    intro n
    induction n with
    | zero =>
      intro code a w h
      obtain ⟨e, a₁, w₁, hq, harr⟩ := h b (.inScope c :: k) cs
      cases e with
      | normal => exact ⟨.normal, a₁, w₁, hq, Steps.trans harr (.one step_inScope)⟩
      | exit id => exact ⟨.exit id, a₁, w₁, hq, fun k' hk => harr k' (by simp [exitTo, hk])⟩
      | goto l' => exact hq.elim
      | ret => exact ⟨_, a₁, w₁, hq, harr⟩
      | panic ch => exact ⟨_, a₁, w₁, hq, harr⟩
      | outgrown => exact ⟨_, a₁, w₁, hq, harr⟩
    | succ n ih =>
      intro code a w h
      obtain ⟨e, a₁, w₁, hq, harr⟩ := h b (.inScope c :: k) cs
      cases e with
      | normal => exact ⟨.normal, a₁, w₁, hq, Steps.trans harr (.one step_inScope)⟩
      | exit id => exact ⟨.exit id, a₁, w₁, hq, fun k' hk => harr k' (by simp [exitTo, hk])⟩
      | goto l' =>
        obtain ⟨rest, hf, hr⟩ := hq
        obtain ⟨e₂, a₂, w₂, hq₂, harr₂⟩ := ih rest a₁ w₁ hr
        have hg : gotoIn l' (.inScope c :: k) = some (.code rest :: .inScope c :: k) := by simp [gotoIn, hf]
        exact ⟨e₂, a₂, w₂, hq₂, .of_steps (harr _ hg) harr₂⟩
      | ret => exact ⟨_, a₁, w₁, hq, harr⟩
      | panic ch => exact ⟨_, a₁, w₁, hq, harr⟩
      | outgrown => exact ⟨_, a₁, w₁, hq, harr⟩
  obtain ⟨e, a₁, w₁, hq, harr⟩ := key n c a w first
  refine ⟨e, a₁, w₁, hq, ?_⟩
  exact .of_steps (.one step_scope) harr
end Go
namespace Go.Proofs.Yteelppebdcgbpaa
set_option linter.unusedSimpArgs false
set_option linter.unusedVariables false
open Go.RowKit

theorem Own.take {k : IntKind} {e : TypeId} {w : World} {base g n c m : Nat} {xs : List Nat} (h : Own k e w base (some ⟨g, 0, none⟩) n c xs) (hm : m ≤ n) : Own k e w base (some ⟨g, 0, none⟩) m c (xs.take m) := by
  have hl := h.len
  rcases h.2 with ⟨h1, _⟩ | ⟨g', cap, cur, h1, hb, hh, hnc, hmx, hs, ht⟩
  · simp at h1
  · simp only [Value.slice.injEq, Option.some.injEq, Addr.mk.injEq, and_true, true_and] at h1
    obtain ⟨rfl, rfl⟩ := h1
    refine ⟨by rw [vs_length, List.length_take]; omega, .inr ⟨g, c, cur, rfl, hb, hh, by omega, hmx, hs, ?_⟩⟩
    have e2 := congrArg (List.take m) ht
    rw [Nat.mul_one] at *
    rw [List.take_take, Nat.min_eq_left hm] at e2
    rw [e2]; simp [vs, List.map_take]

/-- Two numbers are returned, and a word on errors. -/
def RetNNE (m m' : Nat) (er : Int) (w : World) (e : Ending) (w' : World) : Prop := ∃ A c A' c', e = .returned (.tuple #[.slice A (ln m) c, .slice A' (ln m') c', .int .i64 er]) ∧ Own .u64 35 w' w.heap.size A (ln m) c (limbs m) ∧ Own .u64 35 w' w.heap.size A' (ln m') c' (limbs m') ∧ Below w.heap.size w w' ∧ Apart A A'

set_option maxHeartbeats 400000 in
theorem div_zero_any (w : World) {A B : Option Addr} {n c m d x : Nat} (hx : NA w A n c x) (hy : NA w B m d 0) (hn : n ≤ 262144) (hm : m ≤ 262144) :
    Calls Try.prog 35 #[.slice A n c, .slice B m d] w (RetNNE 0 0 11 w) := by
  have HX := Lib.hid hx
  have HY := Lib.hid hy
  clear hx hy
  go_enter Try.func35, Try.ntmps35
  go_wp2_with fail
  refine (trim_any w HX.out (by omega)).mono ?_
  rintro e w1 ⟨A1, c1, rfl, ho1, hb1⟩
  go_wp2_with fail
  refine (trim_any w1 (HY.out.below hb1) (by omega)).mono ?_
  rintro e w2 ⟨A2, c2, rfl, ho2, hb2⟩
  have HB := Lib.hid (hb1.trans (hb2.mono hb1.size))
  have E := Lib.hid ln_zero
  have E2 := Lib.hid limbs_zero
  rw [ln_zero]
  clear ho1 hb1 ho2 hb2
  go_wp2_with fail
  refine bodyPost_ret (v := .tuple #[.slice none 0 0, .slice none 0 0, .int .i64 11]) (by simp [results, Try.results35, go_sem]) rfl ⟨none, 0, none, 0, ?_, ?_, ?_, HB.out, Apart.none _⟩
  · rw [E.out]
  · rw [E.out, E2.out]; exact Own.nil _ _ _ _
  · rw [E.out, E2.out]; exact Own.nil _ _ _ _

set_option maxHeartbeats 400000 in
theorem div_less_any (w : World) {A B : Option Addr} {n c m d x y : Nat} (hx : NA w A n c x) (hy : NA w B m d y) (hn : n ≤ 262144) (hm : m ≤ 262144) (hxy : x < y) :
    Calls Try.prog 35 #[.slice A n c, .slice B m d] w (RetNNE 0 x 0 w) := by
  have HX := Lib.hid hx
  have HY := Lib.hid hy
  have hd : decide (cmpN x y < 0) = true := by rw [cmpN_lt hxy]; rfl
  obtain ⟨ly, hly⟩ : ∃ ly, ln y = ly := ⟨_, rfl⟩
  obtain ⟨lx, hlx⟩ : ∃ lx, ln x = lx := ⟨_, rfl⟩
  have hy0 : ((ly : Int) == 0) = false := by have := ln_pos (show y ≠ 0 by omega); simp; omega
  have hlxm : lx ≤ 1048576 := by
    obtain ⟨xs, h1, h2, h3⟩ := hx
    have := ln_nv h2; have := h1.len; rw [h3] at *; omega
  have hlym : ly ≤ 1048576 := by
    obtain ⟨xs, h1, h2, h3⟩ := hy
    have := ln_nv h2; have := h1.len; rw [h3] at *; omega
  have HLX := Lib.hid hlx
  have HLY := Lib.hid hly
  clear hx hy hlx hly hxy
  go_enter Try.func35, Try.ntmps35
  go_wp2_with fail
  refine (trim_any w HX.out (by omega)).mono ?_
  rintro e w1 ⟨A1, c1, rfl, ho1, hb1⟩
  rw [HLX.out] at ho1 ⊢
  go_wp2_with fail
  refine (trim_any w1 (HY.out.below hb1) (by omega)).mono ?_
  rintro e w2 ⟨A2, c2, rfl, ho2, hb2⟩
  rw [HLY.out] at ho2 ⊢
  have HB := Lib.hid (hb1.trans (hb2.mono hb1.size))
  have HO1 := Lib.hid (ho1.below hb2)
  have HO2 := Lib.hid ho2
  have HN1 := Lib.hid ((ho1.below hb2).na : NA w2 A1 lx c1 x)
  have HN2 := Lib.hid (ho2.na : NA w2 A2 ly c2 y)
  clear ho1 hb1 ho2 hb2
  go_wp2_with fail
  refine (cmp_any w2 HN1.out HN2.out (by omega) (by omega)).mono ?_
  rintro e w' ⟨rfl, rfl⟩
  go_wp2_with fail
  refine bodyPost_ret (v := .tuple #[.slice none 0 0, .slice A1 lx c1, .int .i64 0]) (by simp [results, Try.results35, go_sem]) rfl ⟨none, 0, A1, c1, ?_, ?_, ?_, HB.out, Apart.none _⟩
  · rw [ln_zero, HLX.out]
  · rw [ln_zero, limbs_zero]; exact Own.nil _ _ _ _
  · rw [HLX.out]; exact HO1.out

set_option maxHeartbeats 400000 in
theorem div_small_any (w : World) {A B : Option Addr} {n c m d x y : Nat} (hx : NA w A n c x) (hy : NA w B m d y) (hn : n ≤ 262144) (hm : m ≤ 262144) (hxy : y ≤ x) (hy0 : 0 < y) (hy1 : ln y = 1) :
    Calls Try.prog 35 #[.slice A n c, .slice B m d] w (RetNNE (x / y) (x % y) 0 w) := by
  have HX := Lib.hid hx
  have HY := Lib.hid hy
  have hd : decide (cmpN x y < 0) = false := by
    by_cases e : x = y
    · rw [cmpN_eq e]; rfl
    · rw [cmpN_gt (by omega)]; rfl
  obtain ⟨lx, hlx⟩ : ∃ lx, ln x = lx := ⟨_, rfl⟩
  have hlxm : lx ≤ 1048576 := by
    obtain ⟨xs, h1, h2, h3⟩ := hx
    have := ln_nv h2; have := h1.len; rw [h3] at *; omega
  have hyb : y < 18446744073709551616 := by have := lt_ln y; rw [hy1] at this; simpa using this
  have hlimb : gd (limbs y) 0 = y := by
    rw [limbs_pos (by omega)]; simp only [gd, List.getElem?_cons_zero, Option.getD_some]; omega
  have HLX := Lib.hid hlx
  have HY1 := Lib.hid hy1
  have HLI := Lib.hid hlimb
  clear hx hy hlx hxy hy1 hlimb
  go_enter Try.func35, Try.ntmps35
  go_wp2_with fail
  refine (trim_any w HX.out (by omega)).mono ?_
  rintro e w1 ⟨A1, c1, rfl, ho1, hb1⟩
  rw [HLX.out] at ho1 ⊢
  go_wp2_with fail
  refine (trim_any w1 (HY.out.below hb1) (by omega)).mono ?_
  rintro e w2 ⟨A2, c2, rfl, ho2, hb2⟩
  rw [HY1.out] at ho2 ⊢
  obtain ⟨ad, rfl, _, hcc⟩ := ho2.rd.form (by omega)
  have hcell := hcc 0 (by omega)
  rw [HLI.out] at hcell
  have hcell0 : w2.cell? ad = some (.int .u64 (y : Int)) := by simpa [Addr.add] using hcell
  have HB := Lib.hid (hb1.trans (hb2.mono hb1.size))
  have HN1 := Lib.hid ((ho1.below hb2).na : NA w2 A1 lx c1 x)
  have HN2 := Lib.hid (ho2.na : NA w2 (some ad) 1 c2 y)
  have hcap := ho2.rd.cap
  clear ho1 hb1 ho2 hb2 hcc
  go_wp2_with fail
  refine (cmp_any w2 HN1.out HN2.out (by omega) (by omega)).mono ?_
  rintro e w' ⟨rfl, rfl⟩
  go_wp2_with fail
  refine (small_any _ y HN1.out (by omega) hy0 hyb).mono ?_
  rintro e w3 ⟨A3, c3, A4, c4, rfl, ho3, ho4, hb3, hap⟩
  go_wp2_with fail
  refine bodyPost_ret (v := .tuple #[.slice A3 (ln (x / y)) c3, .slice A4 (ln (x % y)) c4, .int .i64 0]) (by simp [results, Try.results35, go_sem]) rfl ⟨A3, c3, A4, c4, rfl, ?_, ?_, ?_, hap⟩
  · exact ho3.lower HB.out.size
  · exact ho4.lower HB.out.size
  · exact HB.out.trans (hb3.mono HB.out.size)
end Go.Proofs.Yteelppebdcgbpaa

/- Long division: the walk. -/
namespace Go.Proofs.Yteelppebdcgbpaa
set_option linter.unusedSimpArgs false
set_option linter.unusedVariables false
open Go.RowKit

theorem guessN_lt {u1 u0 top : Nat} (h0 : u0 < 18446744073709551616) (ht : 0 < top) : guessN u1 u0 top < 18446744073709551616 := by
  unfold guessN
  split
  · omega
  · rw [Nat.div_lt_iff_lt_mul ht]
    have e : (u1 + 1) * 18446744073709551616 ≤ top * 18446744073709551616 := Nat.mul_le_mul_right _ (by omega)
    rw [Nat.add_mul] at e; rw [Nat.mul_comm 18446744073709551616]; omega

/-- what a digit's guess, and what comes of taking it off, mean -/
theorem round_take {V m k : Nat} {us ys us1 : List Nat} {r : Bool} (hV : nv ys = V) (hyl : ys.length = m + 1) (by' : B64 ys) (bu : B64 us) (b1 : B64 us1) (hul : k + 1 + m < us.length) (hlow : nv us < V * 18446744073709551616 ^ (k + 1)) (htop : 9223372036854775808 ≤ gd ys m)
    (h : nv us1 + guessN (gd us (k + (m + 1))) (gd us (k + (m + 1) - 1)) (gd ys m) * nv ys * 18446744073709551616 ^ k = nv us + 18446744073709551616 ^ (k + (m + 1) + 1) * (if r then 1 else 0)) (hab : Above (k + (m + 1)) us us1) :
    (r = false → nv us1 + guessN (gd us (k + (m + 1))) (gd us (k + (m + 1) - 1)) (gd ys m) * V * 18446744073709551616 ^ k = nv us ∧ nv us1 < V * 18446744073709551616 ^ k) ∧
    (r = true → ∃ g, guessN (gd us (k + (m + 1))) (gd us (k + (m + 1) - 1)) (gd ys m) = g + 1 ∧
      ∀ (us2 : List Nat) (r2 : Bool), B64 us2 → nv us2 + 18446744073709551616 ^ (k + (m + 1) + 1) * (if r2 then 1 else 0) = nv us1 + nv ys * 18446744073709551616 ^ k → Above (k + (m + 1)) us1 us2 →
        (r2 = true → nv us2 + g * V * 18446744073709551616 ^ k = nv us ∧ nv us2 < V * 18446744073709551616 ^ k) ∧
        (r2 = false → ∃ g', g = g' + 1 ∧ ∀ (us3 : List Nat) (r3 : Bool), B64 us3 → nv us3 + 18446744073709551616 ^ (k + (m + 1) + 1) * (if r3 then 1 else 0) = nv us2 + nv ys * 18446744073709551616 ^ k → Above (k + (m + 1)) us2 us3 →
          r3 = true ∧ nv us3 + g' * V * 18446744073709551616 ^ k = nv us ∧ nv us3 < V * 18446744073709551616 ^ k)) := by
  obtain ⟨T, L, R, u', v', e1, hL, hR, hT, hu', hv, hv', hTV⟩ := div_top hV hyl by' bu hul hlow
  have hVlt : V < 18446744073709551616 ^ (m + 1) := by rw [← hV, ← hyl]; exact nv_lt by'
  have hz : ∀ t, k + 1 + (m + 1) ≤ t → gd us t = 0 := by
    refine zeros_of_nv (Nat.lt_trans hlow ?_)
    rw [Nat.pow_add _ (k + 1), Nat.mul_comm V]
    exact Nat.mul_lt_mul_of_pos_left hVlt (Nat.pow_pos (by omega))
  have hRp : 0 < R := by rw [hR]; exact Nat.pow_pos (by omega)
  have hu0 : gd us (k + m) < 18446744073709551616 := bu.gd _
  have hVp : 0 < V := by rw [hv]; exact Nat.add_pos_left (Nat.mul_pos (by omega) hRp) _
  have g1 := guess_lowW hv hT hu' hu0 hTV (by omega) (by omega) hRp hv'
  have g2 := guess_highW hv hT hu' hu0 hTV (by omega) (by omega) hRp hv'
  rw [show k + 1 + m = k + (m + 1) by omega] at g1 g2
  rw [show k + (m + 1) - 1 = k + m by omega] at *
  have eg : (if gd ys m ≤ gd us (k + (m + 1)) then 18446744073709551616 - 1 else (gd us (k + (m + 1)) * 18446744073709551616 + gd us (k + m)) / gd ys m) = guessN (gd us (k + (m + 1))) (gd us (k + m)) (gd ys m) := rfl
  rw [eg] at g1 g2
  generalize guessN (gd us (k + (m + 1))) (gd us (k + m)) (gd ys m) = G at *
  rw [hV] at h
  have hb1 : nv us1 < 18446744073709551616 ^ (k + (m + 1) + 1) := nv_zeros b1 fun t ht => by rw [hab t (by omega)]; exact hz t (by omega)
  have hP : 0 < 18446744073709551616 ^ k := Nat.pow_pos (by omega)
  rw [hV]
  generalize hM : 18446744073709551616 ^ (k + (m + 1) + 1) = M at *
  generalize 18446744073709551616 ^ k = P at *
  obtain ⟨Q, hQ⟩ : ∃ Q, T / V = Q := ⟨_, rfl⟩
  rw [hQ] at g1 g2
  refine ⟨fun hr => ?_, fun hr => ?_⟩
  · subst hr
    simp only [Bool.false_eq_true, if_false, Nat.mul_zero, Nat.add_zero] at h
    have q1 := digit_le (g := G) hVp e1 hL (by omega)
    rw [hQ] at q1
    exact ⟨h, div_round hVp e1 hL (q := G) (by rw [hQ]; omega) h⟩
  · subst hr
    rw [if_pos rfl, Nat.mul_one] at h
    have q1 := digit_ge (V := V) (g := G) e1 (by omega)
    rw [hQ] at q1
    obtain ⟨g, rfl⟩ : ∃ g, G = g + 1 := ⟨G - 1, by omega⟩
    refine ⟨g, rfl, fun us2 r2 b2 h2 hab2 => ?_⟩
    rw [Nat.add_mul, Nat.one_mul, Nat.add_mul] at h
    have hb2 : nv us2 < M := by
      have := nv_zeros b2 (K := k + (m + 1) + 1) fun t ht => by rw [hab2 t (by omega), hab t (by omega)]; exact hz t (by omega)
      rw [hM] at this; exact this
    refine ⟨fun hr => ?_, fun hr => ?_⟩
    · subst hr
      rw [if_pos rfl, Nat.mul_one] at h2
      have e2 : nv us2 + g * V * P = nv us := by omega
      have q2 := digit_le (g := g) hVp e1 hL (by omega)
      rw [hQ] at q2
      exact ⟨e2, div_round hVp e1 hL (q := g) (by rw [hQ]; omega) e2⟩
    · subst hr
      simp only [Bool.false_eq_true, if_false, Nat.mul_zero, Nat.add_zero] at h2
      have q2 := digit_ge (V := V) (g := g) e1 (by omega)
      rw [hQ] at q2
      obtain ⟨g', rfl⟩ : ∃ g', g = g' + 1 := ⟨g - 1, by omega⟩
      refine ⟨g', rfl, fun us3 r3 b3 h3 hab3 => ?_⟩
      rw [Nat.add_mul, Nat.one_mul, Nat.add_mul] at h
      have q3 : g' = T / V := by rw [hQ]; omega
      have hle : g' * V * P ≤ nv us := by
        have := Nat.div_mul_le_self T V
        rw [← q3] at this
        have := Nat.mul_le_mul_right P this
        omega
      have hb3 : nv us3 < M := by
        have := nv_zeros b3 (K := k + (m + 1) + 1) fun t ht => by rw [hab3 t (by omega), hab2 t (by omega), hab t (by omega)]; exact hz t (by omega)
        rw [hM] at this; exact this
      cases r3 with
      | true =>
        rw [if_pos rfl, Nat.mul_one] at h3
        have e3 : nv us3 + g' * V * P = nv us := by omega
        exact ⟨rfl, e3, div_round hVp e1 hL q3 e3⟩
      | false =>
        simp only [Bool.false_eq_true, if_false, Nat.mul_zero, Nat.add_zero] at h3
        exfalso; omega
end Go.Proofs.Yteelppebdcgbpaa

/- Long division: the walk of the general case. -/
namespace Go.Proofs.Yteelppebdcgbpaa
set_option linter.unusedSimpArgs false
set_option linter.unusedVariables false
open Go.RowKit

theorem Own.blk {k : IntKind} {e : TypeId} {w : World} {base n c : Nat} {A : Option Addr} {xs : List Nat} (h : Own k e w base A n c xs) (hn : 0 < n) : ∃ g, A = some ⟨g, 0, none⟩ ∧ base ≤ g ∧ g < w.heap.size := by
  rcases h.ways with ⟨_, h0, _⟩ | ⟨g, rfl, h1, h2, _⟩
  · omega
  · exact ⟨g, rfl, h1, h2⟩
theorem Own.grown {k : IntKind} {e : TypeId} {w w' : World} {base n c : Nat} {A : Option Addr} {xs : List Nat} {g : Nat} (h : Own k e w base A n c xs) (hg : w.grownBy w' (some g)) (hne : A ≠ some ⟨g, 0, none⟩) : Own k e w' base A n c xs := by
  refine ⟨h.1, ?_⟩
  rcases h.2 with h2 | ⟨g', cap, cur, h1, hg', hh, r⟩
  · exact .inl h2
  · refine .inr ⟨g', cap, cur, h1, hg', (hg.block g' (Array.getElem?_eq_some_iff.1 hh).1 ?_).trans hh, r⟩
    intro e
    simp only [Option.some.injEq] at e
    simp only [Value.slice.injEq] at h1
    exact hne (by rw [h1.1, e])
theorem Bk.grown {w w' : World} {g g' : Nat} {t : TypeId} {cs : Array Value} (h : Bk w g t cs) (hg : w.grownBy w' (some g')) (hne : g ≠ g') : Bk w' g t cs := (hg.block g h.lt (by simpa using hne)).trans h
theorem Bk.drewN {w : World} {g : Nat} {t : TypeId} {cs : Array Value} (h : Bk w g t cs) (n : Nat) : Bk (w.drewN n) g t cs := h

/-- what holds of memory while the digits come -/
structure DivW (w0 wr : World) (G g g6 lx lq m c5 ly d3 : Nat) (B3 : Option Addr) (ys us zs : List Nat) : Prop where
  own : Own .u64 35 wr G (some ⟨g, 0, none⟩) (lx + 1) c5 us
  bu : B64 us
  bk : Bk wr g6 35 (va .u64 zs)
  zl : zs.length = lq
  bz : B64 zs
  rd : Rd .u64 wr B3 ly d3 ys
  bel : Below w0.heap.size w0 wr
theorem DivW.grown {w0 wr w1 : World} {G g g6 lx lq m c5 ly d3 : Nat} {B3 : Option Addr} {ys us zs us' : List Nat} (h : DivW w0 wr G g g6 lx lq m c5 ly d3 B3 ys us zs) (ho : Own .u64 35 w1 G (some ⟨g, 0, none⟩) (lx + 1) c5 us') (bu : B64 us') (hg : wr.grownBy w1 (some g)) (h6 : g6 ≠ g) (h3 : ∀ ad, B3 = some ad → ad.block ≠ g) (hG : w0.heap.size ≤ g) : DivW w0 w1 G g g6 lx lq m c5 ly d3 B3 ys us' zs :=
  ⟨ho, bu, h.bk.grown hg h6, h.zl, h.bz, h.rd.grown hg h3, h.bel.grown hg h.bel.size (fun k hk => by have := Option.some.inj hk; omega)⟩
theorem DivW.drewN {w0 wr : World} {G g g6 lx lq m c5 ly d3 : Nat} {B3 : Option Addr} {ys us zs : List Nat} (h : DivW w0 wr G g g6 lx lq m c5 ly d3 B3 ys us zs) (n : Nat) : DivW w0 (wr.drewN n) G g g6 lx lq m c5 ly d3 B3 ys us zs :=
  ⟨h.own.drewN n, h.bu, h.bk.drewN n, h.zl, h.bz, h.rd.drewN n, below_drewN h.bel n⟩
theorem DivW.store {w0 wr : World} {G g g6 lx lq m c5 ly d3 : Nat} {B3 : Option Addr} {ys us zs : List Nat} (h : DivW w0 wr G g g6 lx lq m c5 ly d3 B3 ys us zs) (j y : Nat) (hy : y < 18446744073709551616) (h6 : g6 ≠ g) (h3 : ∀ ad, B3 = some ad → ad.block ≠ g6) (hG : w0.heap.size ≤ g6) : DivW w0 (wr.setCell ⟨g6, j, none⟩ (.int .u64 (y : Int))) G g g6 lx lq m c5 ly d3 B3 ys us (zs.set j y) :=
  ⟨h.own.grown (grown_set (grown_refl _ _) _ _) (by intro e; simp at e <;> omega), h.bu, by rw [← va_set]; exact h.bk.set j _, by rw [List.length_set]; exact h.zl, h.bz.set hy, h.rd.grown (grown_set (grown_refl _ _) _ _) h3, h.bel.setCell (p := ⟨g6, j, none⟩) hG _⟩

theorem down_all (w : World) {A : Option Addr} {n c x : Nat} (s : Nat) (hx : NA w A n c x) (hn : n ≤ 524288) (hs : s ≤ 65536) :
    Calls Try.prog 55 #[.slice A n c, .int .i64 (-(s : Int))] w (RetN (x / 2 ^ s) w) := by
  rcases Nat.eq_zero_or_pos s with h | h
  · subst h
    simpa using up_any w 0 hx hn (by omega)
  · exact down_any w s hx hn hs h

set_option maxHeartbeats 4000000 in
set_option maxRecDepth 100000 in
theorem div_big_any (w : World) {A B : Option Addr} {n c m d x y : Nat} (hx : NA w A n c x) (hy : NA w B m d y) (hn : n ≤ 262144) (hm : m ≤ 262144) (hxy : y ≤ x) (hy1 : 2 ≤ ln y) :
    Calls Try.prog 35 #[.slice A n c, .slice B m d] w (RetNNE (x / y) (x % y) 0 w) := by
  obtain ⟨i0, hi0, hz0, hz1, hz2⟩ := info_parts u64_info
  have hd : decide (cmpN x y < 0) = false := by
    by_cases e : x = y
    · rw [cmpN_eq e]; rfl
    · rw [cmpN_gt (by omega)]; rfl
  have hy0 : y ≠ 0 := by intro e; rw [e, ln_zero] at hy1; omega
  have hlxy : ln y ≤ ln x := ln_mono hxy
  have hlxm : ln x ≤ 262144 := by
    obtain ⟨xs, h1, h2, h3⟩ := hx
    have := ln_nv h2; have := h1.len; rw [h3] at *; omega
  have htop0 : gd (limbs y) (ln y - 1) ≠ 0 := by
    have hl : ln y - 1 < (limbs y).length := by unfold ln at *; omega
    have := limbs_last y (gd (limbs y) (ln y - 1)) (by rw [List.getLast?_eq_getElem?]; exact gd_get hl)
    exact this
  obtain ⟨k, hk, hk64, hk1, hk2⟩ := bitLen_spec (gd (limbs y) (ln y - 1)) htop0 ((limbs_b64 y).gd _)
  obtain ⟨hVlt, hVln, hVtop⟩ := norm_top hy0 hk64 hk1 hk2
  obtain ⟨s, hs⟩ : ∃ s : Nat, 63 - k = s := ⟨_, rfl⟩
  rw [hs] at hVlt hVln hVtop
  have hsI : (64 - (Lib.bitLen (gd (limbs y) (ln y - 1)) : Int)) = (s : Int) := by rw [hk]; omega
  have hs63 : s ≤ 63 := by omega
  have htop64 := (limbs_b64 y).gd (ln y - 1)
  obtain ⟨top0, htop⟩ : ∃ t, gd (limbs y) (ln y - 1) = t := ⟨_, rfl⟩
  have hXln : ln (x * 2 ^ s) ≤ ln x + 1 := by
    rw [ln_le, Nat.pow_succ]
    have h2 : 2 ^ s ≤ 2 ^ 63 := Nat.pow_le_pow_right (by omega) hs63
    exact Nat.lt_of_le_of_lt (Nat.mul_le_mul_left _ h2) (Nat.mul_lt_mul'' (lt_ln x) (by omega))
  have hdst : DivSt (x * 2 ^ s) (y * 2 ^ s) (ln y) (ln x - ln y + 1) ((limbs (x * 2 ^ s) ++ [0, 0]).take (ln x + 1)) (List.replicate (ln x - ln y + 1) 0) := by
    have e0 : nv ((limbs (x * 2 ^ s) ++ [0, 0]).take (ln x + 1)) = x * 2 ^ s := by
      have e : nv (limbs (x * 2 ^ s) ++ [0, 0]) = x * 2 ^ s := by rw [nv_append, nv_limbs]; simp [nv]
      have hl : ln x + 1 ≤ (limbs (x * 2 ^ s) ++ [0, 0]).length := by
        have h3 : ln x ≤ ln (x * 2 ^ s) := ln_mono (Nat.le_mul_of_pos_right _ (Nat.pow_pos (by omega)))
        simp only [List.length_append, List.length_cons, List.length_nil]; unfold ln at *; omega
      have sp := nv_split (limbs (x * 2 ^ s) ++ [0, 0]) (ln x + 1) hl
      have hb : x * 2 ^ s < 18446744073709551616 ^ (ln x + 1) := ln_le.1 hXln
      rw [e] at sp
      rcases Nat.eq_zero_or_pos (nv ((limbs (x * 2 ^ s) ++ [0, 0]).drop (ln x + 1))) with h | h
      · rw [h] at sp; omega
      · have := Nat.mul_le_mul_left (18446744073709551616 ^ (ln x + 1)) h; omega
    refine ⟨?_, ?_⟩
    · rw [e0, List.drop_eq_nil_of_le (by simp)]; simp [nv]
    · rw [e0]
      have e1 : x * 2 ^ s < 18446744073709551616 ^ ln x * 2 ^ s := Nat.mul_lt_mul_of_pos_right (lt_ln x) (Nat.pow_pos (by omega))
      have e2 : 18446744073709551616 ^ (ln y - 1) ≤ y := by
        rcases Nat.lt_or_ge y (18446744073709551616 ^ (ln y - 1)) with h | h
        · have := ln_le.2 h; omega
        · exact h
      have e3 : 18446744073709551616 ^ ln x = 18446744073709551616 ^ (ln y - 1) * 18446744073709551616 ^ (ln x - ln y + 1) := by rw [← Nat.pow_add]; congr 1; omega
      have e4 : 18446744073709551616 ^ (ln y - 1) * 18446744073709551616 ^ (ln x - ln y + 1) * 2 ^ s ≤ y * 2 ^ s * 18446744073709551616 ^ (ln x - ln y + 1) := by
        rw [Nat.mul_right_comm]
        exact Nat.mul_le_mul_right _ (Nat.mul_le_mul_right _ e2)
      rw [e3] at e1
      exact Nat.lt_of_lt_of_le e1 e4
  have hbu0 : B64 ((limbs (x * 2 ^ s) ++ [0, 0]).take (ln x + 1)) := ((limbs_b64 _).append (B64.cons (by omega) (B64.cons (by omega) B64.nil))).take _
  obtain ⟨lx, hlx⟩ : ∃ lx, ln x = lx := ⟨_, rfl⟩
  obtain ⟨lY, hly⟩ : ∃ ly, ln y = ly := ⟨_, rfl⟩
  obtain ⟨lX, hlX⟩ : ∃ l, ln (x * 2 ^ s) = l := ⟨_, rfl⟩
  have hlX1 : lx ≤ lX := by rw [← hlx, ← hlX]; exact ln_mono (Nat.le_mul_of_pos_right _ (Nat.pow_pos (by omega)))
  obtain ⟨l1, rfl⟩ : ∃ l1, lY = l1 + 1 := ⟨lY - 1, by omega⟩
  rw [hly, Nat.add_sub_cancel] at htop hVtop
  rw [hlx, hly] at hdst hlxy
  rw [hlx] at hbu0 hlxm hXln
  rw [hlX] at hXln
  rw [hly] at hVln hy1
  rw [show ln y - 1 = l1 by omega, htop] at hsI htop64
  obtain ⟨lq, hlq⟩ : ∃ lq, lx - (l1 + 1) + 1 = lq := ⟨_, rfl⟩
  rw [hlq] at hdst
  have HX := Lib.hid hx
  have HY := Lib.hid hy
  have HLX := Lib.hid hlx
  have HLY := Lib.hid hly
  have HLXX := Lib.hid hlX
  have HLV := Lib.hid hVln
  have HTOP := Lib.hid htop
  have HVT := Lib.hid hVtop
  have HST := Lib.hid hdst
  have HBU := Lib.hid hbu0
  have HLZ := fun w => Yteelppebdcgbpaa.bits_LeadingZeros64 (top0 : Int) w (by omega) (by omega)
  have e63 : (top0 : Int).toNat = top0 := by omega
  rw [e63, hsI] at HLZ
  have HLZ' := Lib.hid HLZ
  have hly0 : ((((l1 + 1 : Nat) : Int)) == 0) = false := by simp; omega
  have hly2 : (((l1 + 1 : Nat) : Int) == 1) = false := by simp; omega
  have HY0 := Lib.hid hy0
  have i1 : IntKind.i64.wrap (((l1 + 1 : Nat) : Int) - 1) = (l1 : Int) := by rw [IntWalk.i64_in _ (by omega)]; omega
  have i2 : IntKind.i64.wrap ((lx : Int) + 1) = (lx : Int) + 1 := IntWalk.i64_in _ (by omega)
  have i3 : IntKind.i64.wrap ((lx : Int) - ((l1 + 1 : Nat) : Int)) = (lx : Int) - ((l1 + 1 : Nat) : Int) := IntWalk.i64_in _ (by omega)
  have i4 : IntKind.i64.wrap ((lx : Int) - ((l1 + 1 : Nat) : Int) + 1) = (lq : Int) := by rw [IntWalk.i64_in _ (by omega)]; omega
  have i3' : IntKind.i64.wrap ((lx : Int) - ((l1 : Int) + 1)) = (lx : Int) - ((l1 : Int) + 1) := IntWalk.i64_in _ (by omega)
  have i4' : IntKind.i64.wrap ((lx : Int) - ((l1 : Int) + 1) + 1) = (lq : Int) := by rw [IntWalk.i64_in _ (by omega)]; omega
  have i4'' : (lx : Int) - ((l1 : Int) + 1) + 1 = (lq : Int) := by omega
  have hlqb : lq ≤ 262145 := by omega
  have hlql : lq + l1 = lx := by omega
  have hmk := fun w => run_mk lq (by omega) w
  clear hx hy hlx hly hlX hVln htop hVtop hdst hbu0 HLZ hxy hy0 hk hk1 hk2 hk64 hs hsI hVlt hlq e63 htop0
  go_enter Try.func35, Try.ntmps35
  go_wp2_with fail
  refine (trim_any w HX.out (by omega)).mono ?_
  rintro e w1 ⟨A1, c1, rfl, ho1, hb1⟩
  rw [HLX.out] at ho1 ⊢
  go_wp2_with fail
  refine (trim_any w1 (HY.out.below hb1) (by omega)).mono ?_
  rintro e w2 ⟨A2, c2, rfl, ho2, hb2⟩
  rw [HLY.out] at ho2 ⊢
  obtain ⟨g2, rfl, hg21, hg22⟩ := ho2.blk (by omega)
  have hcell := ho2.cellAt (j := l1) (by omega)
  rw [HTOP.out] at hcell
  have HB := Lib.hid (hb1.trans (hb2.mono hb1.size))
  have HN1 := Lib.hid ((ho1.below hb2).na : NA w2 A1 lx c1 x)
  have HN2 := Lib.hid (ho2.na : NA w2 (some ⟨g2, 0, none⟩) (l1 + 1) c2 y)
  have hcap2 := ho2.rd.cap
  have hW2 := HB.out.size
  clear ho1 hb1 ho2 hb2
  go_wp2_with fail
  refine (cmp_any w2 HN1.out HN2.out (by omega) (by omega)).mono ?_
  rintro e w' ⟨rfl, rfl⟩
  go_wp2_with fail
  refine (HLZ'.out w2).mono ?_
  rintro e w' ⟨rfl, hw'⟩
  obtain rfl : w2 = w' := hw'.symm
  go_wp2_with fail
  refine (up_any w2 s HN2.out (by omega) (by omega)).mono ?_
  rintro e w3 ⟨A3, d3, rfl, ho3, hb3⟩
  rw [HLV.out] at ho3 ⊢
  obtain ⟨g3, rfl, hg31, hg32⟩ := ho3.blk (by omega)
  have HB3 := Lib.hid (HB.out.trans (hb3.mono HB.out.size))
  have HN1' := Lib.hid (HN1.out.below hb3)
  have hW3 := hb3.size
  have HO3 := Lib.hid ho3
  clear ho3 hb3
  go_wp2_with fail
  refine (up_any w3 s HN1'.out (by omega) (by omega)).mono ?_
  rintro e w4 ⟨A4, c4, rfl, ho4, hb4⟩
  rw [HLXX.out] at ho4 ⊢
  have hW4 := hb4.size
  have HB4 := Lib.hid (HB3.out.trans (hb4.mono (Nat.le_trans hW2 hW3)))
  have HO4 := Lib.hid (ho4.below ((Below.refl _ _).alloc (Nat.le_refl _) (.cells #[.int .u64 0, .int .u64 0] 35)))
  have HR4 := Lib.hid ((Own.of_bk (k := .u64) (xs := [0, 0]) (base := 0) (Bk.new w4 35 (va .u64 [0, 0])) (by omega) rfl (by simp)).rd : Rd .u64 (w4.alloc (.cells #[.int .u64 0, .int .u64 0] 35)) (some ⟨w4.heap.size, 0, none⟩) 2 2 [0, 0])
  have hb9 : w3.heap.size ≤ (w4.alloc (.cells #[.int .u64 0, .int .u64 0] 35)).heap.size := by simp; omega
  have HB5 := Lib.hid (show Below w3.heap.size w3 (w4.alloc (.cells #[.int .u64 0, .int .u64 0] 35)) from hb4.alloc hW4 _)
  clear ho4 hb4
  go_wp2_with (at_builtin; refine wpList_append_rd _ rfl (.tmp 55) (.tmp 56) _ rfl .u64 w3.heap.size 35 i0 (.int .u64 0) 8 Try.underlying22 hi0 hz0 hz1 hz2 rfl A4 lX c4 _ rfl HO4.out _ _ _ _ rfl HR4.out (by simp only [maxLen]; omega) (by omega) hb9 ?_)
  intro A5 c5 w5 ho5 hb5 hs5 _
  obtain ⟨g5, rfl, hg51, hg52⟩ := ho5.blk (by omega)
  have hcap5 := ho5.rd.cap
  have hb6 : Below w3.heap.size w3 w5 := HB5.out.trans hb5
  have hs6 := hb6.size
  have HB6 := Lib.hid (HB3.out.trans (hb6.mono (Nat.le_trans hW2 hW3)))
  have HO5 := Lib.hid (ho5.take (m := lx + 1) (by omega))
  have HO3' := Lib.hid (HO3.out.below hb6)
  have hcb : (lx : Int) + 1 ≤ (c5 : Int) := by omega
  have hcb2 : ((lx : Int) + 1).toNat = lx + 1 := by omega
  have hcb0 : (0 : Int) ≤ (lx : Int) + 1 := by omega
  clear ho5 hb5 hb6
  go_wp2_with fail
  have h65 : w5.heap.size ≠ g5 := by omega
  have h35 : ∀ ad : Addr, some (⟨g3, 0, none⟩ : Addr) = some ad → ad.block ≠ g5 := by intro ad e; have := Option.some.inj e; subst this; simp; omega
  have h36 : ∀ ad : Addr, some (⟨g3, 0, none⟩ : Addr) = some ad → ad.block ≠ w5.heap.size := by intro ad e; have := Option.some.inj e; subst this; simp; omega
  have H35 := Lib.hid h35
  have H36 := Lib.hid h36
  clear h35 h36
  go_loopw [13] (fun i wr => ∃ (k : Nat) (us zs : List Nat), k ≤ lq ∧ i = .int .i64 ((k : Int) - 1) ∧ DivW w wr w3.heap.size g5 w5.heap.size lx lq 0 c5 (l1 + 1) d3 (some ⟨g3, 0, none⟩) (limbs (y * 2 ^ s)) us zs ∧ DivSt (x * 2 ^ s) (y * 2 ^ s) (l1 + 1) k us zs) (fun i _ => (intOf i + 1).toNat)
  case atStart => exact ⟨lq, _, _, Nat.le_refl _, rfl, ⟨HO5.out.below ((Below.refl _ _).alloc (Nat.le_refl _) _), HBU.out, Bk.new _ _ _, by simp, B64.replicate _, HO3'.out.rd.alloc _, HB6.out.alloc (by omega) _⟩, HST.out⟩
  case round =>
    obtain ⟨k, us, zs, hk, rfl, hdw, hds⟩ := hrel
    by_cases hk0 : k = 0
    · subst hk0
      have HF := Lib.hid (div_done (Nat.pos_of_ne_zero HY0.out) hds)
      have HN1 := Lib.hid (show NA wr (some ⟨w5.heap.size, 0, none⟩) lq lq (nv zs) from ⟨zs, (Own.of_bk (base := 0) hdw.bk (by omega) hdw.zl (by omega)).rd, hdw.bz, rfl⟩)
      have HN2 := Lib.hid (show NA wr (some ⟨g5, 0, none⟩) (lx + 1) c5 (nv us) from ⟨us, hdw.own.rd, hdw.bu, rfl⟩)
      have HBL := Lib.hid hdw.bel
      have hwr := hdw.bel.size
      clear hdw hds
      go_wp2_with fail
      refine (trim_any wr HN1.out (by omega)).mono ?_
      rintro e w7 ⟨A7, c7, rfl, ho7, hb7⟩
      go_wp2_with fail
      refine (down_all w7 s (HN2.out.below hb7) (by omega) (by omega)).mono ?_
      rintro e w8 ⟨A8, c8, rfl, ho8, hb8⟩
      go_wp2_with fail
      refine bodyPost_ret (v := .tuple #[.slice A7 (ln (nv zs)) c7, .slice A8 (ln (nv us / 2 ^ s)) c8, .int .i64 0]) (by simp [results, Try.results35, go_sem]) rfl ⟨A7, c7, A8, c8, ?_, ?_, ?_, ?_, Apart.of ho7 ho8⟩
      · rw [HF.out.1, HF.out.2]
      · rw [← HF.out.1]; exact (ho7.below hb8).lower hwr
      · rw [← HF.out.2]; exact ho8.lower (Nat.le_trans hwr hb7.size)
      · exact HBL.out.trans ((hb7.trans (hb8.mono hb7.size)).mono hwr)
    · obtain ⟨j, rfl⟩ : ∃ j, k = j + 1 := ⟨k - 1, by omega⟩
      have ek : ((j + 1 : Nat) : Int) - 1 = (j : Int) := by omega
      rw [ek]
      have HDW := Lib.hid hdw
      have HDS := Lib.hid hds
      have hvc := (hdw.rd.form (by omega))
      obtain ⟨ad3, had3, _, hvc⟩ := hvc
      have hvc1 := hvc l1 (by omega)
      obtain rfl := Option.some.inj had3
      rw [ad_plain] at hvc1
      obtain ⟨topv, htopv⟩ : ∃ t, gd (limbs (y * 2 ^ s)) l1 = t := ⟨_, rfl⟩
      rw [htopv] at hvc1
      have HTV := Lib.hid htopv
      have htv64 : topv < 18446744073709551616 := by rw [← htopv]; exact (limbs_b64 _).gd _
      have htvp : 0 < topv := by have := HVT.out; rw [htopv] at this; omega
      have HGU := Lib.hid (guess_any wr hdw.own.rd hdw.bu (j + (l1 + 1)) topv (by omega) (by omega) htv64)
      obtain ⟨G, hG⟩ : ∃ G, guessN (gd us (j + (l1 + 1))) (gd us (j + (l1 + 1) - 1)) topv = G := ⟨_, rfl⟩
      have hG64 : G < 18446744073709551616 := by rw [← hG]; exact guessN_lt (hdw.bu.gd _) htvp
      rw [hG] at HGU
      have hgu := HGU.out
      rw [show ((j + (l1 + 1) : Nat) : Int) = (j : Int) + ((l1 : Int) + 1) by omega] at hgu
      have HGU' := Lib.hid hgu
      clear hgu
      have HG := Lib.hid hG
      have j1 : IntKind.i64.wrap ((j : Int) + ((l1 : Int) + 1)) = (j : Int) + ((l1 : Int) + 1) := IntWalk.i64_in _ (by omega)
      have j3 : IntKind.i64.wrap ((l1 : Int) + 1 - 1) = (l1 : Int) := by rw [IntWalk.i64_in _ (by omega)]; omega
      have j4 : (l1 : Int) < (l1 : Int) + 1 := by omega
      have j5 : (0 : Int) ≤ (l1 : Int) := by omega
      clear hdw hds had3 hvc htopv hG ek hk0
      go_wp2_with fail
      refine wp_scope_hops 1 ?_
      go_wp2_with fail
      refine (HGU'.out).mono ?_
      rintro e w' ⟨rfl, q0, rfl⟩
      have HT := take_any (wr.drewN q0) (HDW.out.drewN q0).own HDW.out.bu (HDW.out.drewN q0).rd (limbs_b64 _) H35.out j G (by omega) (by omega) hG64
      have HT' := Lib.hid HT
      clear j1 j3 j4 j5 HT
      go_wp2_with fail
      refine HT'.out.mono ?_
      rintro e wt ⟨r, us1, rfl, ho1, bu1, hg1, hP1, ha1⟩
      have ho1' := ho1
      have hdw1 := (HDW.out.drewN q0).grown ho1 bu1 hg1 h65 H35.out (by omega)
      rw [← HG.out, ← HTV.out] at hP1
      obtain ⟨RF, RT⟩ := round_take (V := y * 2 ^ s) (m := l1) (nv_limbs _) HLV.out (limbs_b64 _) HDW.out.bu bu1 (by rw [HDW.out.own.len]; omega) HDS.out.low HVT.out hP1 ha1
      rw [HTV.out, HG.out] at RF RT
      have HRF := Lib.hid RF
      have HRT := Lib.hid RT
      clear RF RT hP1 ha1 hg1 ho1 ho1'
      cases r with
      | false =>
        obtain ⟨heq, hlo⟩ := HRF.out rfl
        have HEQ := Lib.hid heq
        have HLO := Lib.hid hlo
        have HG64 : G < 18446744073709551616 := hG64
        clear heq hlo
        go_wp2_with fail
        go_step3
        refine ⟨_, rfl, ?_⟩
        have hdwf := hdw1
        have hcell := (hdwf.bk.cell j).trans (va_at .u64 (by rw [hdwf.zl]; omega))
        have hfr := hdwf.bk.frozen j
        have HW := Lib.hid (hdwf.store j G (by assumption) h65 H36.out (by have := HB6.out.size; omega))
        have HS := Lib.hid (div_digit HDS.out (by rw [hdwf.zl]; omega) HEQ.out HLO.out)
        clear hdwf
        go_wp2_with fail
        refine Exit.hops_normal ?_
        go_wp2_with fail
        refine ⟨⟨j, us1, zs.set j G, by omega, rfl, HW.out, HS.out⟩, by simp [intOf]⟩
      | true =>
        obtain ⟨g, hg, hgive⟩ := HRT.out rfl
        have HGI := Lib.hid hgive
        have hwrap : IntKind.u64.wrap ((G : Int) - 1) = (g : Int) := wrap_of (by omega)
        have hg64 : g < 18446744073709551616 := by omega
        have HT2 := Lib.hid (give_any wt hdw1.own hdw1.bu hdw1.rd (limbs_b64 _) H35.out j (by omega) (by omega))
        have HDW1 := Lib.hid hdw1
        clear hgive hg hdw1
        go_wp2_with fail
        go_step3
        go_wp2_with fail
        refine HT2.out.mono ?_
        rintro e wu ⟨r2, us2, rfl, ho2, bu2, hg2', hP2, ha2⟩
        have hdw2 := HDW1.out.grown ho2 bu2 hg2' h65 H35.out (by omega)
        have HR2 := Lib.hid (HGI.out us2 r2 bu2 hP2 ha2)
        clear hP2 ha2 hg2' ho2 hwrap
        cases r2 with
        | true =>
          obtain ⟨heq, hlo⟩ := HR2.out.1 rfl
          have HEQ := Lib.hid heq
          have HLO := Lib.hid hlo
          clear heq hlo
          have hdwf := hdw2
          go_wp2_with fail
          go_step3
          have hcell := (hdwf.bk.cell j).trans (va_at .u64 (by rw [hdwf.zl]; omega))
          have hfr := hdwf.bk.frozen j
          have HW := Lib.hid (hdwf.store j g (by assumption) h65 H36.out (by have := HB6.out.size; omega))
          have HS := Lib.hid (div_digit HDS.out (by rw [hdwf.zl]; omega) HEQ.out HLO.out)
          clear hdwf
          go_wp2_with fail
          refine Exit.hops_normal ?_
          go_wp2_with fail
          refine ⟨⟨j, us2, zs.set j g, by omega, rfl, HW.out, HS.out⟩, by simp [intOf]⟩
        | false =>
          obtain ⟨g', hgg, hgive⟩ := HR2.out.2 rfl
          have HGI2 := Lib.hid hgive
          have hwrap : IntKind.u64.wrap ((g : Int) - 1) = (g' : Int) := wrap_of (by omega)
          have hg64' : g' < 18446744073709551616 := by omega
          have HT3 := Lib.hid (give_any wu hdw2.own hdw2.bu hdw2.rd (limbs_b64 _) H35.out j (by omega) (by omega))
          have HDW2 := Lib.hid hdw2
          clear hgive hgg hdw2
          go_wp2_with fail
          go_step3
          refine ⟨_, rfl, ?_⟩
          go_wp2_with fail
          refine HT3.out.mono ?_
          rintro e wv ⟨r3, us3, rfl, ho3, bu3, hg3', hP3, ha3⟩
          have hdw3 := HDW2.out.grown ho3 bu3 hg3' h65 H35.out (by omega)
          obtain ⟨hr3, heq, hlo⟩ := HGI2.out us3 r3 bu3 hP3 ha3
          subst hr3
          have HEQ := Lib.hid heq
          have HLO := Lib.hid hlo
          clear hP3 ha3 hg3' ho3 hwrap heq hlo
          have hdwf := hdw3
          go_wp2_with fail
          go_step3
          have hcell := (hdwf.bk.cell j).trans (va_at .u64 (by rw [hdwf.zl]; omega))
          have hfr := hdwf.bk.frozen j
          have HW := Lib.hid (hdwf.store j g' (by assumption) h65 H36.out (by have := HB6.out.size; omega))
          have HS := Lib.hid (div_digit HDS.out (by rw [hdwf.zl]; omega) HEQ.out HLO.out)
          clear hdwf
          go_wp2_with fail
          refine Exit.hops_normal ?_
          go_wp2_with fail
          refine ⟨⟨j, us3, zs.set j g', by omega, rfl, HW.out, HS.out⟩, by simp [intOf]⟩
end Go.Proofs.Yteelppebdcgbpaa

/- Long division and moving by binary digits: all cases together. -/
namespace Go.Proofs.Yteelppebdcgbpaa
set_option linter.unusedSimpArgs false
set_option linter.unusedVariables false
open Go.RowKit

theorem div_any (w : World) {A B : Option Addr} {n c m d x y : Nat} (hx : NA w A n c x) (hy : NA w B m d y) (hn : n ≤ 262144) (hm : m ≤ 262144) :
    Calls Try.prog 35 #[.slice A n c, .slice B m d] w (RetNNE (if y = 0 then 0 else x / y) (if y = 0 then 0 else x % y) (if y = 0 then 11 else 0) w) := by
  by_cases h0 : y = 0
  · subst h0; rw [if_pos rfl, if_pos rfl, if_pos rfl]; exact div_zero_any w hx hy hn hm
  · rw [if_neg h0, if_neg h0, if_neg h0]
    rcases Nat.lt_or_ge x y with h | h
    · rw [Nat.div_eq_of_lt h, Nat.mod_eq_of_lt h]; exact div_less_any w hx hy hn hm h
    · by_cases h1 : ln y = 1
      · exact div_small_any w hx hy hn hm h (Nat.pos_of_ne_zero h0) h1
      · have := ln_pos h0
        exact div_big_any w hx hy hn hm h (by omega)

/-- how a number is moved -/
def shiftN (x : Nat) (n : Int) : Nat := if 0 ≤ n then x * 2 ^ (min n 65536).toNat else x / 2 ^ (min (-n) 65536).toNat
theorem shift_any (w : World) {A : Option Addr} {n c x : Nat} (t : Int) (hx : NA w A n c x) (hn : n ≤ 524288) :
    Calls Try.prog 55 #[.slice A n c, .int .i64 t] w (RetN (shiftN x t) w) := by
  unfold shiftN
  split
  · exact up_gen w _ t hx hn (by omega) (by omega)
  · exact down_gen w _ t hx hn (by omega) (by omega) (by omega) (by omega)
end Go.Proofs.Yteelppebdcgbpaa

/- Numbers as the printed texts have them: rows of whole numbers, and what the functions of package nat answer. -/
namespace Go.Proofs.Yteelppebdcgbpaa
set_option linter.unusedSimpArgs false
set_option linter.unusedVariables false

/-- the limbs that a row of whole numbers holds -/
def toN (l : List Int) : List Nat := l.map Int.toNat
/-- the number that a row of whole numbers makes -/
def nI (l : List Int) : Nat := nv (toN l)
/-- the row of a number's limbs -/
def ofN (n : Nat) : List Int := (limbs n).map fun (x : Nat) => (x : Int)
/-- a row of at most m limbs -/
def okN (m : Nat) (l : List Int) : Prop := l.length ≤ m ∧ ∀ x ∈ l, 0 ≤ x ∧ x < 18446744073709551616
instance (m : Nat) (l : List Int) : Decidable (okN m l) := by unfold okN; exact inferInstance

theorem toN_length (l : List Int) : (toN l).length = l.length := by simp [toN]
theorem okN.b64 {m : Nat} {l : List Int} (h : okN m l) : B64 (toN l) := by
  intro x hx
  simp only [toN, List.mem_map] at hx
  obtain ⟨y, hy, rfl⟩ := hx
  have := h.2 y hy
  omega
theorem okN.le {m m' : Nat} {l : List Int} (h : okN m l) (hm : m ≤ m') : okN m' l := ⟨Nat.le_trans h.1 hm, h.2⟩
theorem okN.back {m : Nat} {l : List Int} (h : okN m l) : (toN l).map (fun (x : Nat) => (x : Int)) = l := by
  simp only [toN, List.map_map]
  conv => rhs; rw [← List.map_id l]
  refine List.map_congr_left fun x hx => ?_
  have := h.2 x hx
  simp only [Function.comp, id]; omega
theorem toN_ofN (n : Nat) : toN (ofN n) = limbs n := by simp [toN, ofN, Function.comp_def]
theorem nI_ofN (n : Nat) : nI (ofN n) = n := by unfold nI; rw [toN_ofN, nv_limbs]
theorem ofN_length (n : Nat) : (ofN n).length = ln n := by simp [ofN, ln]
theorem okN_ofN {m n : Nat} (h : ln n ≤ m) : okN m (ofN n) := by
  refine ⟨by rw [ofN_length]; exact h, fun x hx => ?_⟩
  simp only [ofN, List.mem_map] at hx
  obtain ⟨y, hy, rfl⟩ := hx
  have := limbs_b64 n y hy
  omega
theorem ln_nI {m : Nat} {l : List Int} (h : okN m l) : ln (nI l) ≤ m := Nat.le_trans (ln_nv h.b64) (by rw [toN_length]; exact h.1)
theorem ln_nI' {m : Nat} {l : List Int} (h : okN m l) : ln (nI l) ≤ l.length := Nat.le_trans (ln_nv h.b64) (by rw [toN_length]; exact Nat.le_refl _)
theorem ofN_zero : ofN 0 = [] := by unfold ofN; rw [limbs_zero]; rfl
theorem nI_nil : nI [] = 0 := rfl
theorem okN_nil (m : Nat) : okN m [] := ⟨Nat.zero_le _, fun x hx => by cases hx⟩
theorem nI_lt {m : Nat} {l : List Int} (h : okN m l) : nI l < 18446744073709551616 ^ l.length := by
  have := nv_lt h.b64; rw [toN_length] at this; exact this
end Go.Proofs.Yteelppebdcgbpaa

/- The contracts of package nat in the words of the printed texts. -/
namespace Go.Proofs.Yteelppebdcgbpaa
set_option linter.unusedSimpArgs false
set_option linter.unusedVariables false
open Go.RowKit Go.Proofs.YteelppebdcgbpaaW.PrintWords Go.Proofs.YteelppebdcgbpaaW.PrintLast

theorem rd_of_C {w : World} {A : Option Addr} {c m : Nat} {l : List Int} (h : Kd.C (Kd.int .u64) w A l.length l) (hc : l.length ≤ c) (ho : okN m l) : Rd .u64 w A l.length c (toN l) := by
  obtain ⟨_, h2, h3⟩ := Kd.reads_of_C (d := (0 : Int)) h
  refine ⟨toN_length l, hc, h2, fun hn => ?_⟩
  obtain ⟨ad, e, hcell⟩ := h3 hn
  refine ⟨ad, e, ?_, fun j x hx => ?_⟩
  · have := World.block_lt_of_cell? w _ (hcell 0 hn)
    rwa [Go.ChangeShapes.block_add] at this
  · have hj : j < l.length := by
      rcases Nat.lt_or_ge j (toN l).length with h | h
      · rwa [toN_length] at h
      · rw [List.getElem?_eq_none h] at hx; cases hx
    rw [hcell j hj]
    have hl : l[j]? = some (l.getD j 0) := by rw [List.getD_eq_getElem?_getD, List.getElem?_eq_getElem hj]; rfl
    have hb := ho.2 (l.getD j 0) (List.mem_of_getElem? hl)
    simp only [toN, List.getElem?_map, hl, Option.map_some, Option.some.injEq] at hx
    congr 2
    omega
theorem na_of_C {w : World} {A : Option Addr} {c m : Nat} {l : List Int} (h : Kd.C (Kd.int .u64) w A l.length l) (hc : l.length ≤ c) (ho : okN m l) : NA w A l.length c (nI l) := ⟨toN l, rd_of_C h hc ho, ho.b64, rfl⟩
theorem R_of_Own {k : IntKind} {e : TypeId} {w : World} {base n c : Nat} {A : Option Addr} {xs : List Nat} {ok : Nat → Prop} (h : Own k e w base A n c xs) (hok : ∀ g, A = some ⟨g, 0, none⟩ → ok g) : Kd.R (Kd.int k) e w base ok (.slice A n c) (xs.map fun (x : Nat) => (x : Int)) := by
  have hl := h.len
  refine Kd.R_of_own (enc := Value.int k) ?_ ?_
  · have e : encs (Value.int k) (xs.map fun (x : Nat) => (x : Int)) = vs k xs := by simp [encs, vs]
    rw [e, List.length_map, hl]
    exact h
  · intro g hg
    rcases h.ways with ⟨rfl, _⟩ | ⟨g', rfl, _⟩
    · simp [Value.ownBlock] at hg
    · simp only [Value.ownBlock, Option.some.injEq] at hg
      exact hok g (by rw [hg])
theorem retN_R {m : Nat} {w w' : World} {e : Ending} (h : RetN m w e w') : ∃ v0_ : Value, e = .returned (v0_) ∧ Kd.R (Kd.int .u64) 35 w' w.heap.size (fun _ => True) v0_ (ofN m) ∧ Below w.heap.size w w' := by
  obtain ⟨A, c, rfl, ho, hb⟩ := h
  exact ⟨_, rfl, R_of_Own ho (fun _ _ => trivial), hb⟩
theorem of_ite {α : Type} {c : Prop} [Decidable c] {a r : α} (h : (if c then some a else none) = some r) : c ∧ a = r := by
  split at h
  · exact ⟨‹_›, Option.some.inj h⟩
  · cases h

section
variable {A0 A1 : Option Addr} {c0 c1 : Nat} {l0 l1 : List Int} {w : World}
theorem trim_giv {r : List Int} (hr0 : Kd.C (Kd.int .u64) w A0 l0.length l0) (hc0 : l0.length ≤ c0) (h : (if okN 262144 l0 then some (ofN (nI l0)) else none) = some r) :
    Calls Try.prog 40 #[.slice A0 l0.length c0] w fun e w' => ∃ v0_ : Value, e = .returned (v0_) ∧ Kd.R (Kd.int .u64) 35 w' w.heap.size (fun _ => True) v0_ r ∧ Below w.heap.size w w' := by
  obtain ⟨h0, rfl⟩ := of_ite h
  have := h0.1
  exact (trim_any w (na_of_C hr0 hc0 h0) (by omega)).mono fun _ _ h => retN_R h
theorem of_giv {a0 : Int} {r : List Int} (h : (if 0 ≤ a0 ∧ a0 < 18446744073709551616 then some (ofN a0.toNat) else none) = some r) :
    Calls Try.prog 27 #[.int .u64 a0] w fun e w' => ∃ v0_ : Value, e = .returned (v0_) ∧ Kd.R (Kd.int .u64) 35 w' w.heap.size (fun _ => True) v0_ r ∧ Below w.heap.size w w' := by
  obtain ⟨h0, rfl⟩ := of_ite h
  have := of_any w a0.toNat (by omega)
  rw [Int.toNat_of_nonneg h0.1] at this
  exact this.mono fun _ _ h => retN_R h
theorem cmp_giv {r : Int} (hr0 : Kd.C (Kd.int .u64) w A0 l0.length l0) (hc0 : l0.length ≤ c0) (hr1 : Kd.C (Kd.int .u64) w A1 l1.length l1) (hc1 : l1.length ≤ c1) (h : (if okN 262144 l0 ∧ okN 262144 l1 then some (cmpN (nI l0) (nI l1)) else none) = some r) :
    Calls Try.prog 28 #[.slice A0 l0.length c0, .slice A1 l1.length c1] w fun e w' => e = .returned (.int .i64 r) ∧ Drawn0 w w' := by
  obtain ⟨⟨h0, h1⟩, rfl⟩ := of_ite h
  have := h0.1; have := h1.1
  refine (cmp_any w (na_of_C hr0 hc0 h0) (na_of_C hr1 hc1 h1) (by omega) (by omega)).mono ?_
  rintro e w' ⟨rfl, rfl⟩
  exact ⟨rfl, Drawn0.refl _⟩
theorem add_giv {r : List Int} (hr0 : Kd.C (Kd.int .u64) w A0 l0.length l0) (hc0 : l0.length ≤ c0) (hr1 : Kd.C (Kd.int .u64) w A1 l1.length l1) (hc1 : l1.length ≤ c1) (h : (if okN 262144 l0 ∧ okN 262144 l1 then some (ofN (nI l0 + nI l1)) else none) = some r) :
    Calls Try.prog 25 #[.slice A0 l0.length c0, .slice A1 l1.length c1] w fun e w' => ∃ v0_ : Value, e = .returned (v0_) ∧ Kd.R (Kd.int .u64) 35 w' w.heap.size (fun _ => True) v0_ r ∧ Below w.heap.size w w' := by
  obtain ⟨⟨h0, h1⟩, rfl⟩ := of_ite h
  have := h0.1; have := h1.1
  exact (add_any w (na_of_C hr0 hc0 h0) (na_of_C hr1 hc1 h1) (by omega) (by omega)).mono fun _ _ h => retN_R h
theorem mul_giv {r : List Int} (hr0 : Kd.C (Kd.int .u64) w A0 l0.length l0) (hc0 : l0.length ≤ c0) (hr1 : Kd.C (Kd.int .u64) w A1 l1.length l1) (hc1 : l1.length ≤ c1) (h : (if okN 262144 l0 ∧ okN 262144 l1 then some (ofN (nI l0 * nI l1)) else none) = some r) :
    Calls Try.prog 26 #[.slice A0 l0.length c0, .slice A1 l1.length c1] w fun e w' => ∃ v0_ : Value, e = .returned (v0_) ∧ Kd.R (Kd.int .u64) 35 w' w.heap.size (fun _ => True) v0_ r ∧ Below w.heap.size w w' := by
  obtain ⟨⟨h0, h1⟩, rfl⟩ := of_ite h
  have := h0.1; have := h1.1
  exact (mul_any w (na_of_C hr0 hc0 h0) (na_of_C hr1 hc1 h1) (by omega) (by omega)).mono fun _ _ h => retN_R h
theorem shift_giv {a1 : Int} {r : List Int} (hr0 : Kd.C (Kd.int .u64) w A0 l0.length l0) (hc0 : l0.length ≤ c0) (h : (if okN 262144 l0 then some (ofN (shiftN (nI l0) a1)) else none) = some r) :
    Calls Try.prog 55 #[.slice A0 l0.length c0, .int .i64 a1] w fun e w' => ∃ v0_ : Value, e = .returned (v0_) ∧ Kd.R (Kd.int .u64) 35 w' w.heap.size (fun _ => True) v0_ r ∧ Below w.heap.size w w' := by
  obtain ⟨h0, rfl⟩ := of_ite h
  have := h0.1
  exact (shift_any w a1 (na_of_C hr0 hc0 h0) (by omega)).mono fun _ _ h => retN_R h
theorem sub_giv {r1 : List Int} {r2 : Int} (hr0 : Kd.C (Kd.int .u64) w A0 l0.length l0) (hc0 : l0.length ≤ c0) (hr1 : Kd.C (Kd.int .u64) w A1 l1.length l1) (hc1 : l1.length ≤ c1) (h : (if okN 262144 l0 ∧ okN 262144 l1 then some (ofN (nI l0 - nI l1), (if nI l0 < nI l1 then 10 else 0 : Int)) else none) = some (r1, r2)) :
    Calls Try.prog 54 #[.slice A0 l0.length c0, .slice A1 l1.length c1] w fun e w' => ∃ v0_ : Value, e = .returned (.tuple #[v0_, .int .i64 r2]) ∧ Kd.R (Kd.int .u64) 35 w' w.heap.size (fun _ => True) v0_ r1 ∧ Below w.heap.size w w' := by
  obtain ⟨⟨h0, h1⟩, h⟩ := of_ite h
  simp only [Prod.mk.injEq] at h
  obtain ⟨rfl, rfl⟩ := h
  have := h0.1; have := h1.1
  refine (sub_any w (na_of_C hr0 hc0 h0) (na_of_C hr1 hc1 h1) (by omega) (by omega)).mono ?_
  rintro e w' ⟨A, c, rfl, ho, hb⟩
  exact ⟨_, rfl, R_of_Own ho (fun _ _ => trivial), hb⟩
/-- what division answers -/
def divR (x y : Nat) : List Int × List Int × Int := (ofN (if y = 0 then 0 else x / y), ofN (if y = 0 then 0 else x % y), if y = 0 then 11 else 0)
theorem div_giv {r1 r2 : List Int} {r3 : Int} (hr0 : Kd.C (Kd.int .u64) w A0 l0.length l0) (hc0 : l0.length ≤ c0) (hr1 : Kd.C (Kd.int .u64) w A1 l1.length l1) (hc1 : l1.length ≤ c1) (h : (if okN 262144 l0 ∧ okN 262144 l1 then some (divR (nI l0) (nI l1)) else none) = some (r1, r2, r3)) :
    Calls Try.prog 35 #[.slice A0 l0.length c0, .slice A1 l1.length c1] w fun e w' => ∃ v0_ v1_ : Value, e = .returned (.tuple #[v0_, v1_, .int .i64 r3]) ∧ Kd.R (Kd.int .u64) 35 w' w.heap.size (fun k_ => some k_ ≠ (v1_ : Value).ownBlock) v0_ r1 ∧ Kd.R (Kd.int .u64) 35 w' w.heap.size (fun k_ => some k_ ≠ (v0_ : Value).ownBlock) v1_ r2 ∧ Below w.heap.size w w' := by
  obtain ⟨⟨h0, h1⟩, h⟩ := of_ite h
  simp only [divR, Prod.mk.injEq] at h
  obtain ⟨rfl, rfl, rfl⟩ := h
  have := h0.1; have := h1.1
  refine (div_any w (na_of_C hr0 hc0 h0) (na_of_C hr1 hc1 h1) (by omega) (by omega)).mono ?_
  rintro e w' ⟨A, c, A', c', h1, ho, ho', hb, hap⟩
  refine ⟨.slice A _ c, .slice A' _ c', ?_, R_of_Own ho ?_, R_of_Own ho' ?_, hb⟩
  · rw [h1]
  · rintro g rfl e
    rcases A' with _ | a'
    · simp [Value.ownBlock] at e
    · rcases ho'.ways with ⟨h, _⟩ | ⟨g', h, _⟩
      · cases h
      · rw [h] at e; simp only [Value.ownBlock, Option.some.injEq] at e
        exact hap g rfl (by rw [h, e])
  · rintro g rfl e
    rcases ho.ways with ⟨h, _⟩ | ⟨g', h, _⟩
    · rw [h] at e; simp [Value.ownBlock] at e
    · rw [h] at e; simp only [Value.ownBlock, Option.some.injEq] at e
      exact hap g (by rw [h, e]) rfl
end
end Go.Proofs.Yteelppebdcgbpaa

/- Binary digits: plain laws. -/
namespace Go.Proofs.Yteelppebdcgbpaa
set_option linter.unusedSimpArgs false
set_option linter.unusedVariables false
open Go.RowKit

/-- the number that binary digits make, the least one first -/
def bvN : List Nat → Nat
  | [] => 0
  | x :: xs => x + 2 * bvN xs
def Bin (xs : List Nat) : Prop := ∀ x ∈ xs, x ≤ 1
theorem Bin.take {xs : List Nat} (h : Bin xs) (k : Nat) : Bin (xs.take k) := fun x hx => h x (List.mem_of_mem_take hx)
theorem Bin.drop {xs : List Nat} (h : Bin xs) (k : Nat) : Bin (xs.drop k) := fun x hx => h x (List.mem_of_mem_drop hx)
theorem Bin.gd {xs : List Nat} (h : Bin xs) (j : Nat) : gd xs j ≤ 1 := by
  rcases Nat.lt_or_ge j xs.length with hj | hj
  · exact h _ (List.mem_of_getElem? (gd_get hj))
  · rw [gd_ge hj]; omega
theorem Bin.tail {x : Nat} {xs : List Nat} (h : Bin (x :: xs)) : Bin xs := fun y hy => h y (by simp [hy])
theorem bvN_append (xs ys : List Nat) : bvN (xs ++ ys) = bvN xs + 2 ^ xs.length * bvN ys := by
  induction xs with
  | nil => simp [bvN]
  | cons x xs ih => simp only [List.cons_append, bvN, ih, List.length_cons, Nat.pow_succ]; rw [Nat.mul_add, Nat.mul_comm (2 ^ xs.length) 2, Nat.mul_assoc]; omega
theorem bvN_lt {xs : List Nat} (h : Bin xs) : bvN xs < 2 ^ xs.length := by
  induction xs with
  | nil => simp [bvN]
  | cons x xs ih =>
    have := ih h.tail
    have hx := h x (by simp)
    simp only [bvN, List.length_cons, Nat.pow_succ]
    omega
theorem bvN_take_succ {xs : List Nat} {k : Nat} (h : k < xs.length) : bvN (xs.take (k + 1)) = bvN (xs.take k) + 2 ^ k * gd xs k := by
  rw [List.take_succ_eq_append_getElem h, bvN_append, List.length_take, Nat.min_eq_left (by omega), gd_lt h]; simp [bvN]
theorem bvN_take_lt {xs : List Nat} (h : Bin xs) (k : Nat) : bvN (xs.take k) < 2 ^ k := by
  refine Nat.lt_of_lt_of_le (bvN_lt (h.take k)) (Nat.pow_le_pow_right (by omega) ?_)
  rw [List.length_take]; omega
/-- a row whose length is just what its number needs is its number's -/
theorem limbs_of_len {ws : List Nat} (h : B64 ws) (hl : ws.length = ln (nv ws)) : limbs (nv ws) = ws := by
  refine limbs_nv h fun x hx h0 => ?_
  have hne : ws.length ≠ 0 := by rintro e; rw [List.length_eq_zero_iff] at e; subst e; cases hx
  rw [List.getLast?_eq_getElem?] at hx
  have e := nv_take_succ (xs := ws) (k := ws.length - 1) (by omega)
  rw [List.take_of_length_le (by omega), gd_some hx, h0, Nat.mul_zero, Nat.add_zero] at e
  have h1 := nv_take_lt h (ws.length - 1)
  rw [← e] at h1
  have := ln_le.2 h1
  omega
/-- binary digits whose last one is 1 need so many limbs -/
theorem ln_bits {m v : Nat} (h : v < 2 ^ m) (h1 : m = 0 ∨ 2 ^ (m - 1) ≤ v) : ln v = (m + 63) / 64 := by
  refine Nat.le_antisymm ?_ ?_
  · rw [ln_le, wpow]
    exact Nat.lt_of_lt_of_le h (Nat.pow_le_pow_right (by omega) (by omega))
  · rcases Nat.lt_or_ge (ln v) ((m + 63) / 64) with hlt | hge
    · exfalso
      have := lt_ln v
      rw [wpow] at this
      have h3 : 2 ^ (64 * ln v) ≤ 2 ^ (m - 1) := Nat.pow_le_pow_right (by omega) (by omega)
      rcases h1 with h1 | h1
      · omega
      · omega
    · exact hge

end Go.Proofs.Yteelppebdcgbpaa

/- Rows of binary digits over whole numbers: plain laws. -/
namespace Go.Proofs.Yteelppebdcgbpaa
set_option linter.unusedSimpArgs false
set_option linter.unusedVariables false
open Go.RowKit Go.Proofs.YteelppebdcgbpaaW.PrintWords Go.Proofs.YteelppebdcgbpaaW.PrintLast

def binI (m : Nat) (l : List Int) : Prop := l.length ≤ m ∧ ∀ x ∈ l, x = 0 ∨ x = 1
instance (m : Nat) (l : List Int) : Decidable (binI m l) := by unfold binI; exact inferInstance
theorem binI.bin {m : Nat} {l : List Int} (h : binI m l) : Bin (toN l) := by
  intro x hx
  simp only [toN, List.mem_map] at hx
  obtain ⟨y, hy, rfl⟩ := hx
  have := h.2 y hy
  omega
/-- any row of numbers that are not below nought -/
theorem rd_of_C' {k : IntKind} {w : World} {A : Option Addr} {c : Nat} {l : List Int} (h : Kd.C (Kd.int k) w A l.length l) (hc : l.length ≤ c) (ho : ∀ x ∈ l, 0 ≤ x) : Rd k w A l.length c (toN l) := by
  obtain ⟨_, h2, h3⟩ := Kd.reads_of_C (d := (0 : Int)) h
  refine ⟨toN_length l, hc, h2, fun hn => ?_⟩
  obtain ⟨ad, e, hcell⟩ := h3 hn
  refine ⟨ad, e, ?_, fun j x hx => ?_⟩
  · have := World.block_lt_of_cell? w _ (hcell 0 hn)
    rwa [Go.ChangeShapes.block_add] at this
  · have hj : j < l.length := by
      rcases Nat.lt_or_ge j (toN l).length with h | h
      · rwa [toN_length] at h
      · rw [List.getElem?_eq_none h] at hx; cases hx
    rw [hcell j hj]
    have hl : l[j]? = some (l.getD j 0) := by rw [List.getD_eq_getElem?_getD, List.getElem?_eq_getElem hj]; rfl
    have hb := ho (l.getD j 0) (List.mem_of_getElem? hl)
    simp only [toN, List.getElem?_map, hl, Option.map_some, Option.some.injEq] at hx
    congr 2
    omega
theorem lz_giv {a0 r : Int} {w : World} (h : (if 0 ≤ a0 ∧ a0 < 18446744073709551616 then some (64 - (Lib.bitLen a0.toNat : Int)) else none) = some r) :
    Calls Try.prog 50 #[.int .u64 a0] w fun e w' => e = .returned (.int .i64 r) ∧ Drawn0 w w' := by
  obtain ⟨h0, rfl⟩ := of_ite h
  refine (Yteelppebdcgbpaa.bits_LeadingZeros64 a0 w h0.1 (by omega)).mono ?_
  rintro e w' ⟨rfl, rfl⟩
  exact ⟨rfl, Drawn0.refl _⟩

/-- the binary digits of a number, without noughts at the end -/
def dg (n : Nat) : List Int := if h : n = 0 then [] else ((n % 2 : Nat) : Int) :: dg (n / 2)
termination_by n
decreasing_by exact Nat.div_lt_self (Nat.pos_of_ne_zero h) (by omega)
theorem dg_zero : dg 0 = [] := by rw [dg]; simp
theorem dgp {n : Nat} (h : n ≠ 0) : dg n = ((n % 2 : Nat) : Int) :: dg (n / 2) := by rw [dg]; simp [h]
def blen (n : Nat) : Nat := (dg n).length
theorem blen_zero : blen 0 = 0 := by unfold blen; rw [dg_zero]; rfl
theorem blen_pos {n : Nat} (h : n ≠ 0) : blen n = blen (n / 2) + 1 := by unfold blen; rw [dgp h]; rfl
theorem blen_le {n k : Nat} : blen n ≤ k ↔ n < 2 ^ k := by
  induction k generalizing n with
  | zero =>
    by_cases h : n = 0
    · subst h; simp [blen_zero]
    · rw [blen_pos h]; simp; omega
  | succ k ih =>
    by_cases h : n = 0
    · subst h; rw [blen_zero]; exact ⟨fun _ => Nat.pow_pos (by omega), fun _ => by omega⟩
    · rw [blen_pos h, Nat.add_le_add_iff_right, ih, Nat.pow_succ, Nat.div_lt_iff_lt_mul (by omega)]
theorem lt_blen (n : Nat) : n < 2 ^ blen n := blen_le.1 (Nat.le_refl _)
theorem dg_length (n : Nat) : (dg n).length = blen n := rfl

/-- only noughts and ones -/
def BinL (l : List Int) : Prop := ∀ x ∈ l, x = 0 ∨ x = 1
theorem BinL.nil : BinL [] := fun x h => by cases h
theorem BinL.append {l m : List Int} (h : BinL l) (h' : BinL m) : BinL (l ++ m) := fun x hx => by
  rcases List.mem_append.1 hx with hx | hx
  · exact h x hx
  · exact h' x hx
theorem BinL.one {x : Int} (h : x = 0 ∨ x = 1) : BinL [x] := fun y hy => by rw [List.mem_singleton.1 hy]; exact h
theorem BinL.take {l : List Int} (h : BinL l) (k : Nat) : BinL (l.take k) := fun x hx => h x (List.mem_of_mem_take hx)
theorem BinL.drop {l : List Int} (h : BinL l) (k : Nat) : BinL (l.drop k) := fun x hx => h x (List.mem_of_mem_drop hx)
theorem BinL.set {l : List Int} (h : BinL l) (j : Nat) {y : Int} (hy : y = 0 ∨ y = 1) : BinL (l.set j y) := fun x hx => by
  rcases List.mem_or_eq_of_mem_set hx with hx | rfl
  · exact h x hx
  · exact hy
theorem BinL.replicate (n : Nat) : BinL (List.replicate n 0) := fun x hx => .inl (List.eq_of_mem_replicate hx)
theorem BinL.tail {x : Int} {l : List Int} (h : BinL (x :: l)) : BinL l := fun y hy => h y (by simp [hy])
theorem BinL.binI {l : List Int} (h : BinL l) {m : Nat} (hl : l.length ≤ m) : binI m l := ⟨hl, h⟩

/-- the number of a row of digits -/
def bz (l : List Int) : Nat := bvN (toN l)
theorem bz_nil : bz [] = 0 := rfl
theorem bz_cons (x : Int) (l : List Int) : bz (x :: l) = x.toNat + 2 * bz l := rfl
theorem bz_append (l m : List Int) : bz (l ++ m) = bz l + 2 ^ l.length * bz m := by
  unfold bz; rw [show toN (l ++ m) = toN l ++ toN m by simp [toN], bvN_append, toN_length]
theorem bz_lt {l : List Int} (h : BinL l) : bz l < 2 ^ l.length := by
  have := bvN_lt (show Bin (toN l) from (h.binI (Nat.le_refl _)).bin)
  rwa [toN_length] at this
theorem bz_dg (n : Nat) : bz (dg n) = n := by
  induction n using Nat.strongRecOn with
  | ind n ih =>
    by_cases h : n = 0
    · subst h; rw [dg_zero]; rfl
    · rw [dgp h, bz_cons, ih _ (Nat.div_lt_self (Nat.pos_of_ne_zero h) (by omega))]; omega
theorem dg_bin (n : Nat) : BinL (dg n) := by
  induction n using Nat.strongRecOn with
  | ind n ih =>
    by_cases h : n = 0
    · subst h; rw [dg_zero]; exact BinL.nil
    · rw [dgp h]
      intro x hx
      rcases List.mem_cons.1 hx with rfl | hx
      · omega
      · exact ih _ (Nat.div_lt_self (Nat.pos_of_ne_zero h) (by omega)) x hx
/-- a row of digits whose last one is 1 is its number's -/
theorem dg_bz {l : List Int} (h : BinL l) (hl : ∀ x, l.getLast? = some x → x ≠ 0) : dg (bz l) = l := by
  induction l with
  | nil => exact dg_zero
  | cons x l ih =>
    have hx := h x (by simp)
    have e : bz l = 0 → l = [] := by
      intro h0
      rcases l with _ | ⟨y, ys⟩
      · rfl
      · exfalso
        have := ih h.tail fun z hz => hl z (by simpa [List.getLast?_cons_cons] using hz)
        rw [h0, dg_zero] at this
        cases this
    have hne : bz (x :: l) ≠ 0 := by
      intro h0
      rw [bz_cons] at h0
      have h2 := e (by omega)
      subst h2
      exact hl x (by simp) (by omega)
    rw [dgp hne]
    have e1 : ((bz (x :: l) % 2 : Nat) : Int) = x := by rw [bz_cons]; omega
    have e2 : bz (x :: l) / 2 = bz l := by rw [bz_cons]; omega
    rw [e1, e2]
    rcases l with _ | ⟨y, ys⟩
    · rw [bz_nil, dg_zero]
    · rw [ih h.tail fun z hz => hl z (by simpa [List.getLast?_cons_cons] using hz)]
theorem bz_drop (l : List Int) (h : BinL l) (j : Nat) : bz (l.drop j) = bz l / 2 ^ j := by
  rcases Nat.lt_or_ge j l.length with hj | hj
  · have e := bz_append (l.take j) (l.drop j)
    rw [List.take_append_drop, List.length_take, Nat.min_eq_left (by omega)] at e
    have hl := bz_lt (h.take j)
    rw [List.length_take, Nat.min_eq_left (by omega)] at hl
    rw [e, Nat.add_mul_div_left _ _ (Nat.pow_pos (by omega)), Nat.div_eq_of_lt hl, Nat.zero_add]
  · rw [List.drop_eq_nil_of_le hj, Nat.div_eq_of_lt]
    · rfl
    · exact Nat.lt_of_lt_of_le (bz_lt h) (Nat.pow_le_pow_right (by omega) hj)
theorem rd_getD (l : List Int) (j : Nat) : rd l (j : Int) = l.getD j 0 := rfl
/-- a digit is a digit of the number -/
theorem bz_digit {l : List Int} (h : BinL l) (j : Nat) : l.getD j 0 = ((bz l / 2 ^ j % 2 : Nat) : Int) := by
  rw [← bz_drop l h j]
  rcases Nat.lt_or_ge j l.length with hj | hj
  · rw [List.drop_eq_getElem_cons hj, bz_cons, List.getD_eq_getElem?_getD, List.getElem?_eq_getElem hj, Option.getD_some]
    have := h l[j] (List.getElem_mem hj)
    omega
  · rw [List.drop_eq_nil_of_le hj, List.getD_eq_getElem?_getD, List.getElem?_eq_none hj]; rfl
theorem mod_next (a i : Nat) : a % 2 ^ (i + 1) = a % 2 ^ i + 2 ^ i * (a / 2 ^ i % 2) := Nat.mod_pow_succ
theorem div_next (a i : Nat) : a / 2 ^ i = 2 * (a / 2 ^ (i + 1)) + a / 2 ^ i % 2 := by
  rw [Nat.pow_succ, ← Nat.div_div_eq_div_mul]; omega
theorem mod_done {a i : Nat} (h : a < 2 ^ i) : a % 2 ^ i = a := Nat.mod_eq_of_lt h
theorem wr {x : Int} (h : -9223372036854775808 ≤ x) (h' : x ≤ 9223372036854775807) : wrap64 x = x := by unfold wrap64; omega
theorem wn {n : Nat} (h : n ≤ 9223372036854775807) : wrap64 (n : Int) = n := wr (by omega) (by omega)
theorem wn1 {n : Nat} (h : n ≤ 9223372036854775806) : wrap64 ((n : Int) + 1) = ((n + 1 : Nat) : Int) := by rw [wr (by omega) (by omega)]; omega
theorem wnd8 {i : Nat} (h : i ≤ 9223372036854775807) : wrap64 (Int.tdiv (i : Int) 8) = ((i / 8 : Nat) : Int) := by rw [Int.tdiv_eq_ediv_of_nonneg (by omega), wr (by omega) (by omega)]; omega
theorem wnm8 {i : Nat} : wrap64 (8 * Int.tmod (i : Int) 8) = ((8 * (i % 8) : Nat) : Int) := by rw [Int.tmod_eq_emod_of_nonneg (by omega), wr (by omega) (by omega)]; omega
theorem wn_sub1 {n i : Nat} (h : i < n) (hn : n ≤ 9223372036854775807) : wrap64 (wrap64 ((n : Int) - 1) - (i : Int)) = ((n - 1 - i : Nat) : Int) := by
  rw [wr (x := (n : Int) - 1) (by omega) (by omega), wr (by omega) (by omega)]; omega
theorem nv_bits_and (a : Nat) (ha : a < 18446744073709551616) : Go.bits .and .u64 (a : Int) 1 = ((a % 2 : Nat) : Int) := by
  have := and_u64 ha (show 1 < 18446744073709551616 by omega)
  rw [show (1 : Int) = ((1 : Nat) : Int) from rfl, this, show 1 = 2 ^ 1 - 1 from rfl, and_mask]
theorem ln2 {a b k m : Nat} (h : ln a ≤ k) (h' : ln b ≤ k) (hk : k + 1 ≤ m) : ln (a + b) ≤ m := Nat.le_trans (ln_add a b k h h') hk
theorem lnm {a b k k' m : Nat} (h : ln a ≤ k) (h' : ln b ≤ k') (hk : k + k' ≤ m) : ln (a * b) ≤ m := by have := ln_mul a b; omega
theorem lnd {a b k : Nat} (h : ln a ≤ k) : ln (a / b) ≤ k := Nat.le_trans (ln_div a b) h
theorem lnr {a b k : Nat} (h : ln a ≤ k) : ln (a % b) ≤ k := Nat.le_trans (ln_mod a b) h
theorem lns {a b k : Nat} (h : ln a ≤ k) : ln (a - b) ≤ k := Nat.le_trans (ln_mono (Nat.sub_le a b)) h
theorem lnp {a k n m : Nat} (h : ln a ≤ k) (hk : k + (n + 63) / 64 ≤ m) : ln (a * 2 ^ n) ≤ m := by
  rw [ln_le] at h ⊢
  have e := Nat.mul_lt_mul_of_pos_right h (show 0 < 2 ^ n from Nat.pow_pos (by omega))
  refine Nat.lt_of_lt_of_le e ?_
  rw [wpow, wpow, ← Nat.pow_add]
  exact Nat.pow_le_pow_right (by omega) (by omega)
theorem okS {n : Nat} (h : n < 18446744073709551616) : okN 262144 (ofN n) := okN_ofN (Nat.le_trans (ln_small h) (by omega))
/-- what a law's arguments are -/
theorem okL {l : List Int} {m : Nat} (h : l.length ≤ m) (hw : ∀ x ∈ l, (Lit.int .u64 x).wf = true) : okN m l := by
  refine ⟨h, fun x hx => ?_⟩
  have := hw x hx
  have e : IntKind.u64.min ≤ x ∧ x ≤ IntKind.u64.max := by simpa [Lit.wf] using this
  have e0 : IntKind.u64.min = 0 := rfl
  have e1 : IntKind.u64.max = 18446744073709551615 := rfl
  omega
theorem i64_wf {x : Int} (h : (Lit.int .i64 x).wf = true) : -9223372036854775808 ≤ x ∧ x ≤ 9223372036854775807 := by
  have e : IntKind.i64.min ≤ x ∧ x ≤ IntKind.i64.max := by simpa [Lit.wf] using h
  have e0 : IntKind.i64.min = -9223372036854775808 := rfl
  have e1 : IntKind.i64.max = 9223372036854775807 := rfl
  omega
end Go.Proofs.Yteelppebdcgbpaa
