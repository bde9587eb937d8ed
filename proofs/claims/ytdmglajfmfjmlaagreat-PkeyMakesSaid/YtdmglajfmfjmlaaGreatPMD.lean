/- Texts of this claim, joined: what its laws use. -/
import Derived.Test.YtdmglajfmfjmlaaGreatPMC
import Derived.Test.YtdmglajfmfjmlaaGreatProg
import Derived.Below
import Derived.Deep.Draws
import Derived.Deep.AppendLies
import Derived.Maps.AppendAt
import Derived.OwnWalk
import Derived.Laws.BytesArg
import Derived.Laws.MakeOwn
import Derived.Laws.OwnMore
import Derived.Deep.OwnRows
import Derived.Tactics
import Derived.Lib.ConvBytes
import Derived.Laws.Slices
import Derived.WalkKit
import Derived.KernelRfl
import Derived.RowKit3
import Derived.Deep.LoopGhost
import Derived.Deep.QuietTactic
import Derived.BigQuiet
import Derived.WideLaws
import Derived.Deep.DeepCutAuto
import Derived.Deep.CutBlock
import Derived.Deep.RegionHeld3
import Derived.Laws.Rows
import Derived.Lib.AppendStr
import Derived.ArgAppend
import Derived.Laws.IdiomCopy
import Derived.OrdersHeld
import Derived.Laws.BitsLemmas
import Derived.RowKit
namespace Go.Proofs.YtdmglajfmfjmlaaGreat
set_option linter.unusedSimpArgs false
set_option linter.unusedVariables false
set_option maxRecDepth 100000
open Go.RowKit Go.Proofs.YtdmglajfmfjmlaaGreatW.PrintWords Go.Proofs.YtdmglajfmfjmlaaGreatW.PrintLast Go.Proofs.YtdmglajfmfjmlaaGreatW.PrintMore
attribute [local go_sem] toldUpon_value toldUpon_skip toldUpon_enter
def bs12 : List Nat := [2, 3, 5, 7, 11, 13, 17, 19, 23, 29, 31, 37]
def mayB (x : Nat) : Bool := decide (blen x ≤ 512) && primeN x bs12
theorem bases_li (w : World) : Calls Tryz.prog 128 #[] w (PLI .u64 (cI bs12) w) := by
  go_enter Tryz.func128, Tryz.ntmps128
  go_wp2_with fail
  go_ret
  have hb : Below w.heap.size w (w.alloc (.cells (va .u64 bs12) 23)) := (Below.refl _ _).alloc (Nat.le_refl _) _
  exact ⟨_, rfl, hb, LI.of_Rd (Own.of_bk (k := .u64) (xs := bs12) (base := 0) (Bk.new w 23 (va .u64 bs12)) (by omega) rfl (by decide)).rd⟩
section
variable {w : World} {v0 v1 : Value} {a b : List Int}
theorem may_li (h0 : LI .u64 w v0 a) (oa : okN 64 a) : Calls Tryz.prog 60 #[v0] w (PBO (mayB (nI a)) w) := by
  have HB := Lib.hid (bits_li h0 (oa.le (by omega)))
  have H0 := Lib.hid h0
  have HP := Lib.hid (fun w' v (h : Below w.heap.size w w') (hv : LI .u64 w' v (cI bs12)) => primes_li (H0.out.below h) hv (oa.le (by omega)) (by decide))
  rw [toN_cI] at HP
  have hM : mayB (nI a) = (decide (blen (nI a) ≤ 512) && primeN (nI a) bs12) := rfl
  obtain ⟨z, hz⟩ : ∃ z : Int, ((blen (nI a) : Nat) : Int) = z := ⟨_, rfl⟩
  rw [hz] at HB
  have K : ∀ r, mayB (nI a) = r → Calls Tryz.prog 60 #[v0] w (PBO r w) → Calls Tryz.prog 60 #[v0] w (PBO (mayB (nI a)) w) := fun r h h' => by rw [h]; exact h'
  by_cases h1 : z ≤ 512
  · refine K _ (by rw [hM, decide_eq_true (by omega : blen (nI a) ≤ 512), Bool.true_and]) ?_
    generalize primeN (nI a) bs12 = p at HP ⊢
    clear h0 oa hM hz K
    go_enter Tryz.func60, Tryz.ntmps60
    go_wp2_with (first
      | (go_at_call 74; refine HB.out.mono ?_; rintro e_ w1 ⟨rfl, hb1⟩)
      | (go_at_call 128; refine (bases_li _).mono ?_; rintro e_ w2 ⟨v, rfl, hb2, hv⟩)
      | (go_at_call 116; refine (HP.out _ _ (hb1.trans (hb2.mono hb1.size)) hv).mono ?_; rintro e_ w3 ⟨rfl, hb3⟩))
    go_ret
    have p2 := hb1.trans (hb2.mono hb1.size)
    exact ⟨rfl, p2.trans (hb3.mono p2.size)⟩
  · refine K false (by rw [hM, decide_eq_false (by omega), Bool.false_and]) ?_
    clear h0 oa hM hz K
    go_enter Tryz.func60, Tryz.ntmps60
    go_wp2_with (go_at_call 74; refine HB.out.mono ?_; rintro e_ w1 ⟨rfl, hb1⟩)
    go_ret
    exact ⟨rfl, hb1⟩
theorem okN_1 {m : Nat} (hm : 1 ≤ m) : okN m (ofN 1) := okN_ofN (Nat.le_trans (ln_small (by omega)) hm)
theorem less_li (h0 : LI .u64 w v0 a) (oa : okN 262144 a) : Calls Tryz.prog 62 #[v0] w (PLI .u64 (ofN (nI a - 1)) w) := by
  have H0 := Lib.hid h0
  have HO := of_li 1 (by omega)
  simp only [show ((1 : Nat) : Int) = 1 from rfl] at HO
  have HS := Lib.hid (fun w' v (h : Below w.heap.size w w') (hv : LI .u64 w' v (ofN 1)) => sub_li (H0.out.below h) hv oa (okN_1 (by omega)))
  rw [nI_ofN] at HS
  generalize (if nI a < 1 then (10 : Int) else 0) = er at HS
  generalize ofN (nI a - 1) = R at HS ⊢
  generalize ofN 1 = L1 at HO HS
  have HOO := Lib.hid HO
  clear h0 oa HO
  go_enter Tryz.func62, Tryz.ntmps62
  go_wp2_with (first
    | (go_at_call 57; refine (HOO.out _).mono ?_; rintro e_ w1 ⟨v, rfl, hb1, hv⟩)
    | (go_at_call 94; refine (HS.out _ _ hb1 hv).mono ?_; rintro e_ w2 ⟨u, rfl, hb2, hu⟩))
  go_ret
  exact ⟨u, rfl, hb1.trans (hb2.mono hb1.size), hu⟩
end
def PLO (k : IntKind) (e : TypeId) (l : List Int) (w : World) (e_ : Ending) (w' : World) : Prop := ∃ A c, e_ = .returned (.slice A l.length c) ∧ Below w.heap.size w w' ∧ Own k e w' w.heap.size A l.length c (toN l)
section
variable {w : World} {v0 v1 : Value} {a b : List Int}
theorem of_lo (x : Nat) (hx : x < 18446744073709551616) (w : World) : Calls Tryz.prog 57 #[.int .u64 (x : Int)] w (PLO .u64 23 (ofN x) w) := by
  refine (of_giv (a0 := (x : Int)) (r := ofN x) (by rw [if_pos ⟨by omega, by omega⟩, Int.toNat_natCast])).mono ?_
  rintro e w' ⟨v, rfl, hR, hb⟩
  obtain ⟨A, c, rfl, ho⟩ := Own.of_R hR (okN_pos (okN_ofN (m := 1) (ln_small hx)))
  exact ⟨A, c, rfl, hb, ho⟩
theorem mul_lo (h0 : LI .u64 w v0 a) (h1 : LI .u64 w v1 b) (oa : okN 262144 a) (ob : okN 262144 b) {m : Nat} (hm : ln (nI a * nI b) ≤ m) : Calls Tryz.prog 61 #[v0, v1] w (PLO .u64 23 (ofN (nI a * nI b)) w) := by
  obtain ⟨A0, c0, rfl, h0, k0⟩ := h0
  obtain ⟨A1, c1, rfl, h1, k1⟩ := h1
  refine (mul_giv h0 k0 h1 k1 (by rw [if_pos ⟨oa, ob⟩])).mono ?_
  rintro e w' ⟨v, rfl, hR, hb⟩
  obtain ⟨A, c, rfl, ho⟩ := Own.of_R hR (okN_pos (okN_ofN (m := m) hm))
  exact ⟨A, c, rfl, hb, ho⟩
theorem inverse_lo (h0 : LI .u64 w v0 a) (h1 : LI .u64 w v1 b) (oa : okN 65536 a) (ob : okN 65536 b) {r : List Int × Int} (hr : invR (nI a) (nI b) = r) (hp : ∀ x ∈ r.1, 0 ≤ x) : Calls Tryz.prog 63 #[v0, v1] w fun e_ w' => ∃ A c, e_ = .returned (.tuple #[.slice A r.1.length c, .int .i64 r.2]) ∧ Below w.heap.size w w' ∧ Own .u64 23 w' w.heap.size A r.1.length c (toN r.1) := by
  obtain ⟨A0, c0, rfl, h0, k0⟩ := h0
  obtain ⟨A1, c1, rfl, h1, k1⟩ := h1
  refine (inverse_giv (r1 := r.1) (r2 := r.2) h0 k0 h1 k1 (by rw [if_pos ⟨oa, ob⟩, hr])).mono ?_
  rintro e w' ⟨v, rfl, hR, hb⟩
  obtain ⟨A, c, rfl, ho⟩ := Own.of_R hR hp
  exact ⟨A, c, rfl, hb, ho⟩
end
def makeR (p q e : Nat) : (List Int × List Int × List Int) × Int :=
  if mayB p = true ∧ mayB q = true ∧ p ≠ q ∧ e % 2 = 1 ∧ 3 ≤ e ∧ (invR e ((p - 1) * (q - 1))).2 = 0 ∧ keyR (p * q) e (invN e ((p - 1) * (q - 1))) = 0 then ((ofN (p * q), ofN e, ofN (invN e ((p - 1) * (q - 1)))), 0) else (([], [], []), 50)
theorem ofN_nn (m : Nat) : ∀ x ∈ ofN m, 0 ≤ x := by
  intro x hx
  simp only [ofN, List.mem_map] at hx
  obtain ⟨y, _, rfl⟩ := hx
  omega
theorem invR_nn (a n : Nat) : ∀ x ∈ (invR a n).1, 0 ≤ x := by
  unfold invR
  split
  · simp
  · split
    · exact ofN_nn _
    · simp
theorem GLI.li {k : IntKind} {l : List Int} {v : Value} {w : World} (h : GLI k l v w) : LI k w v l := h
theorem ln_of_blenL {n k : Nat} (h : blen n ≤ 64 * k) : ln n ≤ k := ln_le.2 (by
  rw [show (18446744073709551616 : Nat) = 2 ^ 64 by decide, ← Nat.pow_mul]; exact blen_le.1 h)
theorem makeR_err {p q e : Nat} (h : ¬ (mayB p = true ∧ mayB q = true ∧ p ≠ q ∧ e % 2 = 1 ∧ 3 ≤ e ∧ (invR e ((p - 1) * (q - 1))).2 = 0 ∧ keyR (p * q) e (invN e ((p - 1) * (q - 1))) = 0)) {N E D : List Int} {r : Int} (hr : makeR p q e = ((N, E, D), r)) : N = [] ∧ E = [] ∧ D = [] ∧ r = 50 := by
  unfold makeR at hr
  rw [if_neg h] at hr
  simp only [Prod.mk.injEq] at hr
  exact ⟨hr.1.1.symm, hr.1.2.1.symm, hr.1.2.2.symm, hr.2.symm⟩
def PK3 (N E D : List Int) (r : Int) (w : World) (e_ : Ending) (w' : World) : Prop := ∃ A1 c1 A2 c2 A3 c3, e_ = .returned (.tuple #[.agg #[.slice A1 N.length c1, .slice A2 E.length c2, .slice A3 D.length c3], .int .i64 r]) ∧
  Own .u64 23 w' w.heap.size A1 N.length c1 (toN N) ∧ Own .u64 23 w' w.heap.size A2 E.length c2 (toN E) ∧ Own .u64 23 w' w.heap.size A3 D.length c3 (toN D) ∧ Below w.heap.size w w'
structure RB (w wa : World) (g : Nat) : Prop where
  bk : Bk wa g 26 #[.slice none 0 0, .slice none 0 0, .slice none 0 0]
  bel : Below w.heap.size w wa
theorem RB.below {w wa w' : World} {g : Nat} (h : RB w wa g) (hb : Below wa.heap.size wa w') : RB w w' g := ⟨h.bk.below hb h.bk.lt, h.bel.trans (hb.mono h.bel.size)⟩
section
variable {w : World} {v0 v1 : Value} {a b : List Int}
set_option maxHeartbeats 8000000 in
theorem make_lo (h0 : LI .u64 w v0 a) (h1 : LI .u64 w v1 b) (oa : okN 64 a) (ob : okN 64 b) {e : Nat} (he : e < 18446744073709551616) {N E D : List Int} {r : Int} (hr : makeR (nI a) (nI b) e = ((N, E, D), r)) :
    Calls Tryz.prog 12 #[v0, v1, .int .u64 (e : Int)] w (PK3 N E D r w) := by
  obtain ⟨wa, hwa⟩ : ∃ z, w.alloc (.cells #[.slice none 0 0, .slice none 0 0, .slice none 0 0] 26) = z := ⟨_, rfl⟩
  have hba : Below w.heap.size w wa := by rw [← hwa]; exact (Below.refl _ _).alloc (Nat.le_refl _) _
  have hg : w.heap.size < wa.heap.size := by rw [← hwa]; simp
  have HK := Lib.hid (show RB w wa w.heap.size from ⟨by rw [← hwa]; exact Bk.new w _ _, hba⟩)
  have HX := Lib.hid (Below.refl wa.heap.size wa)
  have H0 := Lib.hid (h0.below hba)
  have H1 := Lib.hid (h1.below hba)
  have HM0 := Lib.hid (fun w' (h : Below wa.heap.size wa w') => may_li (H0.out.below h) oa)
  have HM1 := Lib.hid (fun w' (h : Below wa.heap.size wa w') => may_li (H1.out.below h) ob)
  have HC := Lib.hid (fun w' (h : Below wa.heap.size wa w') => cmp_li (H0.out.below h) (H1.out.below h) (oa.le (by omega)) (ob.le (by omega)))
  obtain ⟨q, hq⟩ : ∃ q : Int, cmpN (nI a) (nI b) = q := ⟨_, rfl⟩
  rw [hq] at HC
  have hq0 : q = 0 ↔ nI a = nI b := by rw [← hq]; unfold cmpN; split <;> (try split) <;> omega
  have f0 := HK.out.bk.frozen 0
  have f1 := HK.out.bk.frozen 1
  have f2 := HK.out.bk.frozen 2
  have k0 := HK.out.bk.cell 0
  have k1 := HK.out.bk.cell 1
  have k2 := HK.out.bk.cell 2
  have hand : Go.bits .and .u64 (e : Int) 1 = ((e % 2 : Nat) : Int) := by
    rw [show (1 : Int) = ((1 : Nat) : Int) from rfl, and_u64 he (by omega), Nat.and_one_is_mod]
  cases m0 : mayB (nI a) with
  | false =>
    obtain ⟨rfl, rfl, rfl, rfl⟩ := makeR_err (fun h => by rw [m0] at h; cases h.1) hr
    rw [m0] at HM0
    clear hand hq0 hq hr m0
    go_enter Tryz.func12, Tryz.ntmps12
    go_wp2_with (first
      | (go_at_call 60; (with_reducible refine (HM0.out _ HX.out).mono ?_); rintro e_ w1 ⟨rfl, hb⟩; replace HK := Lib.hid (HK.out.below hb); replace HX := Lib.hid (HX.out.trans (hb.mono HX.out.size)); clear hb f0 f1 f2 k0 k1 k2; have f0 := HK.out.bk.frozen 0; have f1 := HK.out.bk.frozen 1; have f2 := HK.out.bk.frozen 2; have k0 := HK.out.bk.cell 0; have k1 := HK.out.bk.cell 1; have k2 := HK.out.bk.cell 2)
      | (go_at_call 60; (with_reducible refine (HM1.out _ HX.out).mono ?_); rintro e_ w1 ⟨rfl, hb⟩; replace HK := Lib.hid (HK.out.below hb); replace HX := Lib.hid (HX.out.trans (hb.mono HX.out.size)); clear hb f0 f1 f2 k0 k1 k2; have f0 := HK.out.bk.frozen 0; have f1 := HK.out.bk.frozen 1; have f2 := HK.out.bk.frozen 2; have k0 := HK.out.bk.cell 0; have k1 := HK.out.bk.cell 1; have k2 := HK.out.bk.cell 2)
      | (go_at_call 58; (with_reducible refine (HC.out _ HX.out).mono ?_); rintro e_ w1 ⟨rfl, hb⟩; replace HK := Lib.hid (HK.out.below hb); replace HX := Lib.hid (HX.out.trans (hb.mono HX.out.size)); clear hb f0 f1 f2 k0 k1 k2; have f0 := HK.out.bk.frozen 0; have f1 := HK.out.bk.frozen 1; have f2 := HK.out.bk.frozen 2; have k0 := HK.out.bk.cell 0; have k1 := HK.out.bk.cell 1; have k2 := HK.out.bk.cell 2))
    obtain ⟨W, hW⟩ : ∃ z, (((w1.setCell ⟨w.heap.size, 0, none⟩ (.slice none 0 0)).setCell ⟨w.heap.size, 1, none⟩ (.slice none 0 0)).setCell ⟨w.heap.size, 2, none⟩ (.slice none 0 0)) = z := ⟨_, rfl⟩
    have hk := ((HK.out.bk.set 0 (.slice none 0 0)).set 1 (.slice none 0 0)).set 2 (.slice none 0 0)
    have hbel := ((HK.out.bel.setCell (p := ⟨w.heap.size, 0, none⟩) (Nat.le_refl _) (.slice none 0 0)).setCell (p := ⟨w.heap.size, 1, none⟩) (Nat.le_refl _) (.slice none 0 0)).setCell (p := ⟨w.heap.size, 2, none⟩) (Nat.le_refl _) (.slice none 0 0)
    rw [hW] at hk hbel ⊢
    have r0 := hk.cell 0
    have r1 := hk.cell 1
    have r2 := hk.cell 2
    exact bodyPost_ret (v := .tuple #[.agg #[.slice none 0 0, .slice none 0 0, .slice none 0 0], .int .i64 50]) (by simp [results, Tryz.results12, go_sem, r0, r1, r2]) rfl ⟨none, 0, none, 0, none, 0, rfl, Own.nil _ _ _ _, Own.nil _ _ _ _, Own.nil _ _ _ _, hbel⟩
  | true =>
  rw [m0] at HM0
  cases m1 : mayB (nI b) with
  | false =>
    obtain ⟨rfl, rfl, rfl, rfl⟩ := makeR_err (fun h => by rw [m1] at h; cases h.2.1) hr
    rw [m1] at HM1
    clear hand hq0 hq hr m0 m1
    go_enter Tryz.func12, Tryz.ntmps12
    go_wp2_with (first
      | (go_at_call 60; (with_reducible refine (HM0.out _ HX.out).mono ?_); rintro e_ w1 ⟨rfl, hb⟩; replace HK := Lib.hid (HK.out.below hb); replace HX := Lib.hid (HX.out.trans (hb.mono HX.out.size)); clear hb f0 f1 f2 k0 k1 k2; have f0 := HK.out.bk.frozen 0; have f1 := HK.out.bk.frozen 1; have f2 := HK.out.bk.frozen 2; have k0 := HK.out.bk.cell 0; have k1 := HK.out.bk.cell 1; have k2 := HK.out.bk.cell 2)
      | (go_at_call 60; (with_reducible refine (HM1.out _ HX.out).mono ?_); rintro e_ w1 ⟨rfl, hb⟩; replace HK := Lib.hid (HK.out.below hb); replace HX := Lib.hid (HX.out.trans (hb.mono HX.out.size)); clear hb f0 f1 f2 k0 k1 k2; have f0 := HK.out.bk.frozen 0; have f1 := HK.out.bk.frozen 1; have f2 := HK.out.bk.frozen 2; have k0 := HK.out.bk.cell 0; have k1 := HK.out.bk.cell 1; have k2 := HK.out.bk.cell 2)
      | (go_at_call 58; (with_reducible refine (HC.out _ HX.out).mono ?_); rintro e_ w1 ⟨rfl, hb⟩; replace HK := Lib.hid (HK.out.below hb); replace HX := Lib.hid (HX.out.trans (hb.mono HX.out.size)); clear hb f0 f1 f2 k0 k1 k2; have f0 := HK.out.bk.frozen 0; have f1 := HK.out.bk.frozen 1; have f2 := HK.out.bk.frozen 2; have k0 := HK.out.bk.cell 0; have k1 := HK.out.bk.cell 1; have k2 := HK.out.bk.cell 2))
    obtain ⟨W, hW⟩ : ∃ z, (((w1.setCell ⟨w.heap.size, 0, none⟩ (.slice none 0 0)).setCell ⟨w.heap.size, 1, none⟩ (.slice none 0 0)).setCell ⟨w.heap.size, 2, none⟩ (.slice none 0 0)) = z := ⟨_, rfl⟩
    have hk := ((HK.out.bk.set 0 (.slice none 0 0)).set 1 (.slice none 0 0)).set 2 (.slice none 0 0)
    have hbel := ((HK.out.bel.setCell (p := ⟨w.heap.size, 0, none⟩) (Nat.le_refl _) (.slice none 0 0)).setCell (p := ⟨w.heap.size, 1, none⟩) (Nat.le_refl _) (.slice none 0 0)).setCell (p := ⟨w.heap.size, 2, none⟩) (Nat.le_refl _) (.slice none 0 0)
    rw [hW] at hk hbel ⊢
    have r0 := hk.cell 0
    have r1 := hk.cell 1
    have r2 := hk.cell 2
    exact bodyPost_ret (v := .tuple #[.agg #[.slice none 0 0, .slice none 0 0, .slice none 0 0], .int .i64 50]) (by simp [results, Tryz.results12, go_sem, r0, r1, r2]) rfl ⟨none, 0, none, 0, none, 0, rfl, Own.nil _ _ _ _, Own.nil _ _ _ _, Own.nil _ _ _ _, hbel⟩
  | true =>
  rw [m1] at HM1
  by_cases hqz : q = 0
  · obtain ⟨rfl, rfl, rfl, rfl⟩ := makeR_err (fun h => h.2.2.1 (hq0.1 hqz)) hr
    subst hqz
    clear hand hq0 hq hr m0 m1
    go_enter Tryz.func12, Tryz.ntmps12
    go_wp2_with (first
      | (go_at_call 60; (with_reducible refine (HM0.out _ HX.out).mono ?_); rintro e_ w1 ⟨rfl, hb⟩; replace HK := Lib.hid (HK.out.below hb); replace HX := Lib.hid (HX.out.trans (hb.mono HX.out.size)); clear hb f0 f1 f2 k0 k1 k2; have f0 := HK.out.bk.frozen 0; have f1 := HK.out.bk.frozen 1; have f2 := HK.out.bk.frozen 2; have k0 := HK.out.bk.cell 0; have k1 := HK.out.bk.cell 1; have k2 := HK.out.bk.cell 2)
      | (go_at_call 60; (with_reducible refine (HM1.out _ HX.out).mono ?_); rintro e_ w1 ⟨rfl, hb⟩; replace HK := Lib.hid (HK.out.below hb); replace HX := Lib.hid (HX.out.trans (hb.mono HX.out.size)); clear hb f0 f1 f2 k0 k1 k2; have f0 := HK.out.bk.frozen 0; have f1 := HK.out.bk.frozen 1; have f2 := HK.out.bk.frozen 2; have k0 := HK.out.bk.cell 0; have k1 := HK.out.bk.cell 1; have k2 := HK.out.bk.cell 2)
      | (go_at_call 58; (with_reducible refine (HC.out _ HX.out).mono ?_); rintro e_ w1 ⟨rfl, hb⟩; replace HK := Lib.hid (HK.out.below hb); replace HX := Lib.hid (HX.out.trans (hb.mono HX.out.size)); clear hb f0 f1 f2 k0 k1 k2; have f0 := HK.out.bk.frozen 0; have f1 := HK.out.bk.frozen 1; have f2 := HK.out.bk.frozen 2; have k0 := HK.out.bk.cell 0; have k1 := HK.out.bk.cell 1; have k2 := HK.out.bk.cell 2))
    obtain ⟨W, hW⟩ : ∃ z, (((w1.setCell ⟨w.heap.size, 0, none⟩ (.slice none 0 0)).setCell ⟨w.heap.size, 1, none⟩ (.slice none 0 0)).setCell ⟨w.heap.size, 2, none⟩ (.slice none 0 0)) = z := ⟨_, rfl⟩
    have hk := ((HK.out.bk.set 0 (.slice none 0 0)).set 1 (.slice none 0 0)).set 2 (.slice none 0 0)
    have hbel := ((HK.out.bel.setCell (p := ⟨w.heap.size, 0, none⟩) (Nat.le_refl _) (.slice none 0 0)).setCell (p := ⟨w.heap.size, 1, none⟩) (Nat.le_refl _) (.slice none 0 0)).setCell (p := ⟨w.heap.size, 2, none⟩) (Nat.le_refl _) (.slice none 0 0)
    rw [hW] at hk hbel ⊢
    have r0 := hk.cell 0
    have r1 := hk.cell 1
    have r2 := hk.cell 2
    exact bodyPost_ret (v := .tuple #[.agg #[.slice none 0 0, .slice none 0 0, .slice none 0 0], .int .i64 50]) (by simp [results, Tryz.results12, go_sem, r0, r1, r2]) rfl ⟨none, 0, none, 0, none, 0, rfl, Own.nil _ _ _ _, Own.nil _ _ _ _, Own.nil _ _ _ _, hbel⟩
  have hqn : (q == 0) = false := by rw [beq_eq_false_iff_ne]; exact hqz
  rcases Nat.mod_two_eq_zero_or_one e with e2 | e2
  · obtain ⟨rfl, rfl, rfl, rfl⟩ := makeR_err (fun h => by have := h.2.2.2.1; omega) hr
    rw [e2] at hand
    clear hq0 hq hr m0 m1 e2 hqz
    go_enter Tryz.func12, Tryz.ntmps12
    go_wp2_with (first
      | (go_at_call 60; (with_reducible refine (HM0.out _ HX.out).mono ?_); rintro e_ w1 ⟨rfl, hb⟩; replace HK := Lib.hid (HK.out.below hb); replace HX := Lib.hid (HX.out.trans (hb.mono HX.out.size)); clear hb f0 f1 f2 k0 k1 k2; have f0 := HK.out.bk.frozen 0; have f1 := HK.out.bk.frozen 1; have f2 := HK.out.bk.frozen 2; have k0 := HK.out.bk.cell 0; have k1 := HK.out.bk.cell 1; have k2 := HK.out.bk.cell 2)
      | (go_at_call 60; (with_reducible refine (HM1.out _ HX.out).mono ?_); rintro e_ w1 ⟨rfl, hb⟩; replace HK := Lib.hid (HK.out.below hb); replace HX := Lib.hid (HX.out.trans (hb.mono HX.out.size)); clear hb f0 f1 f2 k0 k1 k2; have f0 := HK.out.bk.frozen 0; have f1 := HK.out.bk.frozen 1; have f2 := HK.out.bk.frozen 2; have k0 := HK.out.bk.cell 0; have k1 := HK.out.bk.cell 1; have k2 := HK.out.bk.cell 2)
      | (go_at_call 58; (with_reducible refine (HC.out _ HX.out).mono ?_); rintro e_ w1 ⟨rfl, hb⟩; replace HK := Lib.hid (HK.out.below hb); replace HX := Lib.hid (HX.out.trans (hb.mono HX.out.size)); clear hb f0 f1 f2 k0 k1 k2; have f0 := HK.out.bk.frozen 0; have f1 := HK.out.bk.frozen 1; have f2 := HK.out.bk.frozen 2; have k0 := HK.out.bk.cell 0; have k1 := HK.out.bk.cell 1; have k2 := HK.out.bk.cell 2))
    obtain ⟨W, hW⟩ : ∃ z, (((w1.setCell ⟨w.heap.size, 0, none⟩ (.slice none 0 0)).setCell ⟨w.heap.size, 1, none⟩ (.slice none 0 0)).setCell ⟨w.heap.size, 2, none⟩ (.slice none 0 0)) = z := ⟨_, rfl⟩
    have hk := ((HK.out.bk.set 0 (.slice none 0 0)).set 1 (.slice none 0 0)).set 2 (.slice none 0 0)
    have hbel := ((HK.out.bel.setCell (p := ⟨w.heap.size, 0, none⟩) (Nat.le_refl _) (.slice none 0 0)).setCell (p := ⟨w.heap.size, 1, none⟩) (Nat.le_refl _) (.slice none 0 0)).setCell (p := ⟨w.heap.size, 2, none⟩) (Nat.le_refl _) (.slice none 0 0)
    rw [hW] at hk hbel ⊢
    have r0 := hk.cell 0
    have r1 := hk.cell 1
    have r2 := hk.cell 2
    exact bodyPost_ret (v := .tuple #[.agg #[.slice none 0 0, .slice none 0 0, .slice none 0 0], .int .i64 50]) (by simp [results, Tryz.results12, go_sem, r0, r1, r2]) rfl ⟨none, 0, none, 0, none, 0, rfl, Own.nil _ _ _ _, Own.nil _ _ _ _, Own.nil _ _ _ _, hbel⟩
  rw [e2] at hand
  by_cases e3 : (e : Int) < 3
  · obtain ⟨rfl, rfl, rfl, rfl⟩ := makeR_err (fun h => by have := h.2.2.2.2.1; omega) hr
    clear hq0 hq hr m0 m1 e2 hqz
    go_enter Tryz.func12, Tryz.ntmps12
    go_wp2_with (first
      | (go_at_call 60; (with_reducible refine (HM0.out _ HX.out).mono ?_); rintro e_ w1 ⟨rfl, hb⟩; replace HK := Lib.hid (HK.out.below hb); replace HX := Lib.hid (HX.out.trans (hb.mono HX.out.size)); clear hb f0 f1 f2 k0 k1 k2; have f0 := HK.out.bk.frozen 0; have f1 := HK.out.bk.frozen 1; have f2 := HK.out.bk.frozen 2; have k0 := HK.out.bk.cell 0; have k1 := HK.out.bk.cell 1; have k2 := HK.out.bk.cell 2)
      | (go_at_call 60; (with_reducible refine (HM1.out _ HX.out).mono ?_); rintro e_ w1 ⟨rfl, hb⟩; replace HK := Lib.hid (HK.out.below hb); replace HX := Lib.hid (HX.out.trans (hb.mono HX.out.size)); clear hb f0 f1 f2 k0 k1 k2; have f0 := HK.out.bk.frozen 0; have f1 := HK.out.bk.frozen 1; have f2 := HK.out.bk.frozen 2; have k0 := HK.out.bk.cell 0; have k1 := HK.out.bk.cell 1; have k2 := HK.out.bk.cell 2)
      | (go_at_call 58; (with_reducible refine (HC.out _ HX.out).mono ?_); rintro e_ w1 ⟨rfl, hb⟩; replace HK := Lib.hid (HK.out.below hb); replace HX := Lib.hid (HX.out.trans (hb.mono HX.out.size)); clear hb f0 f1 f2 k0 k1 k2; have f0 := HK.out.bk.frozen 0; have f1 := HK.out.bk.frozen 1; have f2 := HK.out.bk.frozen 2; have k0 := HK.out.bk.cell 0; have k1 := HK.out.bk.cell 1; have k2 := HK.out.bk.cell 2))
    obtain ⟨W, hW⟩ : ∃ z, (((w1.setCell ⟨w.heap.size, 0, none⟩ (.slice none 0 0)).setCell ⟨w.heap.size, 1, none⟩ (.slice none 0 0)).setCell ⟨w.heap.size, 2, none⟩ (.slice none 0 0)) = z := ⟨_, rfl⟩
    have hk := ((HK.out.bk.set 0 (.slice none 0 0)).set 1 (.slice none 0 0)).set 2 (.slice none 0 0)
    have hbel := ((HK.out.bel.setCell (p := ⟨w.heap.size, 0, none⟩) (Nat.le_refl _) (.slice none 0 0)).setCell (p := ⟨w.heap.size, 1, none⟩) (Nat.le_refl _) (.slice none 0 0)).setCell (p := ⟨w.heap.size, 2, none⟩) (Nat.le_refl _) (.slice none 0 0)
    rw [hW] at hk hbel ⊢
    have r0 := hk.cell 0
    have r1 := hk.cell 1
    have r2 := hk.cell 2
    exact bodyPost_ret (v := .tuple #[.agg #[.slice none 0 0, .slice none 0 0, .slice none 0 0], .int .i64 50]) (by simp [results, Tryz.results12, go_sem, r0, r1, r2]) rfl ⟨none, 0, none, 0, none, 0, rfl, Own.nil _ _ _ _, Own.nil _ _ _ _, Own.nil _ _ _ _, hbel⟩
  have hne : nI a ≠ nI b := fun h => hqz (hq0.2 h)
  have la := ln_nI oa
  have lb := ln_nI ob
  have le := ln_small he
  have l1 : ln (nI a - 1) ≤ 64 := Nat.le_trans (ln_mono (by omega)) la
  have l2 : ln (nI b - 1) ≤ 64 := Nat.le_trans (ln_mono (by omega)) lb
  have l3 : ln ((nI a - 1) * (nI b - 1)) ≤ 128 := lnm l1 l2 (by omega)
  have l4 : ln (nI a * nI b) ≤ 128 := lnm la lb (by omega)
  have HL0 := Lib.hid (fun w' (h : Below wa.heap.size wa w') => less_li (H0.out.below h) (oa.le (by omega)))
  have HL1 := Lib.hid (fun w' (h : Below wa.heap.size wa w') => less_li (H1.out.below h) (ob.le (by omega)))
  have HPM := Lib.hid (fun w' v v' (h : LI .u64 w' v (ofN (nI a - 1))) (h' : LI .u64 w' v' (ofN (nI b - 1))) => mul_li h h' (okN_ofN (Nat.le_trans l1 (by omega))) (okN_ofN (Nat.le_trans l2 (by omega))))
  rw [nI_ofN, nI_ofN] at HPM
  have HOF := Lib.hid (of_lo e he)
  have nnE := ofN_nn e
  have nnN := ofN_nn (nI a * nI b)
  have HOI := Lib.hid (fun w' v v' (h : LI .u64 w' v (ofN e)) (h' : LI .u64 w' v' (ofN ((nI a - 1) * (nI b - 1)))) => inverse_lo h h' (okN_ofN (Nat.le_trans le (by omega))) (okN_ofN (Nat.le_trans l3 (by omega))) (r := invR e ((nI a - 1) * (nI b - 1))) (by rw [nI_ofN, nI_ofN]) (invR_nn _ _))
  have HN2 := Lib.hid (fun w' (h : Below wa.heap.size wa w') => mul_lo (H0.out.below h) (H1.out.below h) (oa.le (by omega)) (ob.le (by omega)) l4)
  unfold makeR at hr
  generalize hPh : (nI a - 1) * (nI b - 1) = phi at *
  have HMR := Lib.hid hr
  clear hr hq0 hq
  obtain ⟨iv, ie⟩ : ∃ x, invR e phi = x := ⟨_, rfl⟩
  rw [ie] at HOI
  obtain ⟨ivl, ier⟩ := iv
  have HIE := Lib.hid ie
  by_cases i0 : ier = 0
  · subst i0
    have hiv : ivl = ofN (invN e phi) ∧ Nat.gcd e phi = 1 ∧ 0 < phi := by
      have h := ie
      unfold invR at h
      split at h
      · simp only [Prod.mk.injEq] at h; omega
      · split at h
        · simp only [Prod.mk.injEq] at h; exact ⟨h.1.symm, by assumption, by omega⟩
        · simp only [Prod.mk.injEq] at h; omega
    obtain ⟨hivl, hgcd, hph0⟩ := hiv
    subst hivl
    have b8 : ∀ x, mayB x = true → ln x ≤ 8 := fun x h => by
      unfold mayB at h
      rw [Bool.and_eq_true] at h
      exact ln_of_blenL (by have := of_decide_eq_true h.1; omega)
    have lN : ln (nI a * nI b) ≤ 64 := lnm (b8 _ m0) (b8 _ m1) (by omega)
    have lP : ln phi ≤ 64 := by rw [← hPh]; exact lnm (Nat.le_trans (ln_mono (by omega)) (b8 _ m0)) (Nat.le_trans (ln_mono (by omega)) (b8 _ m1)) (by omega)
    have lD : ln (invN e phi) ≤ 64 := Nat.le_trans (ln_mono (Nat.le_of_lt (invN_gcd (by omega) hgcd).1)) lP
    have hR := Lib.hid (fun w' V0 V1 V2 (g0 : LI .u64 w' V0 (ofN (nI a * nI b))) (g1 : LI .u64 w' V1 (ofN e)) (g2 : LI .u64 w' V2 (ofN (invN e phi))) => right_li g0 g1 g2 (okN_ofN lN) (okN_ofN (Nat.le_trans le (by omega))) (okN_ofN lD))
    simp only [nI_ofN] at hR
    obtain ⟨kr, hkr⟩ : ∃ k, keyR (nI a * nI b) e (invN e phi) = k := ⟨_, rfl⟩
    rw [hkr] at hR
    have HR2 := HMR.out
    rw [ie, hkr] at HR2
    have HRR := Lib.hid HR2
    have HC5 := Lib.hid (And.intro m0 (And.intro m1 (And.intro hne (And.intro e2 e3))))
    have nnD := ofN_nn (invN e phi)
    generalize ofN (nI a * nI b) = LN at *
    generalize ofN e = LE at *
    generalize ofN (invN e phi) = LD at *
    clear ie m0 m1 e2 hqz hPh hne la lb le l1 l2 l3 l4 HMR HIE hgcd hph0 b8 lN lP lD hkr HR2
    go_enter Tryz.func12, Tryz.ntmps12
    go_upto_region 7 with (first
      | (go_at_call 60; (with_reducible refine (HM0.out _ HX.out).mono ?_); rintro e_ w1 ⟨rfl, hb⟩; replace HK := Lib.hid (HK.out.below hb); replace HX := Lib.hid (HX.out.trans (hb.mono HX.out.size)); clear hb f0 f1 f2 k0 k1 k2; have f0 := HK.out.bk.frozen 0; have f1 := HK.out.bk.frozen 1; have f2 := HK.out.bk.frozen 2; have k0 := HK.out.bk.cell 0; have k1 := HK.out.bk.cell 1; have k2 := HK.out.bk.cell 2)
      | (go_at_call 60; (with_reducible refine (HM1.out _ HX.out).mono ?_); rintro e_ w1 ⟨rfl, hb⟩; replace HK := Lib.hid (HK.out.below hb); replace HX := Lib.hid (HX.out.trans (hb.mono HX.out.size)); clear hb f0 f1 f2 k0 k1 k2; have f0 := HK.out.bk.frozen 0; have f1 := HK.out.bk.frozen 1; have f2 := HK.out.bk.frozen 2; have k0 := HK.out.bk.cell 0; have k1 := HK.out.bk.cell 1; have k2 := HK.out.bk.cell 2)
      | (go_at_call 58; (with_reducible refine (HC.out _ HX.out).mono ?_); rintro e_ w1 ⟨rfl, hb⟩; replace HK := Lib.hid (HK.out.below hb); replace HX := Lib.hid (HX.out.trans (hb.mono HX.out.size)); clear hb f0 f1 f2 k0 k1 k2; have f0 := HK.out.bk.frozen 0; have f1 := HK.out.bk.frozen 1; have f2 := HK.out.bk.frozen 2; have k0 := HK.out.bk.cell 0; have k1 := HK.out.bk.cell 1; have k2 := HK.out.bk.cell 2)
      | (go_at_call 62; (with_reducible refine (HL0.out _ HX.out).mono ?_); rintro e_ w1 ⟨u0, rfl, hb, hu⟩; replace HK := Lib.hid (HK.out.below hb); replace HX := Lib.hid (HX.out.trans (hb.mono HX.out.size)); clear hb f0 f1 f2 k0 k1 k2; have f0 := HK.out.bk.frozen 0; have f1 := HK.out.bk.frozen 1; have f2 := HK.out.bk.frozen 2; have k0 := HK.out.bk.cell 0; have k1 := HK.out.bk.cell 1; have k2 := HK.out.bk.cell 2; have hu0 := Lib.hid (GLI.li hu); clear hu)
      | (go_at_call 62; (with_reducible refine (HL1.out _ HX.out).mono ?_); rintro e_ w2 ⟨u1, rfl, hb, hu⟩; have hu00 := Lib.hid (LI.below hu0.out hb); replace HK := Lib.hid (HK.out.below hb); replace HX := Lib.hid (HX.out.trans (hb.mono HX.out.size)); clear hb f0 f1 f2 k0 k1 k2; have f0 := HK.out.bk.frozen 0; have f1 := HK.out.bk.frozen 1; have f2 := HK.out.bk.frozen 2; have k0 := HK.out.bk.cell 0; have k1 := HK.out.bk.cell 1; have k2 := HK.out.bk.cell 2; have hu1 := Lib.hid (GLI.li hu); clear hu)
      | (go_at_call 61; (with_reducible refine (HPM.out _ _ _ hu00.out hu1.out).mono ?_); rintro e_ w3 ⟨u2, rfl, hb, hu⟩; replace HK := Lib.hid (HK.out.below hb); replace HX := Lib.hid (HX.out.trans (hb.mono HX.out.size)); clear hb f0 f1 f2 k0 k1 k2; have f0 := HK.out.bk.frozen 0; have f1 := HK.out.bk.frozen 1; have f2 := HK.out.bk.frozen 2; have k0 := HK.out.bk.cell 0; have k1 := HK.out.bk.cell 1; have k2 := HK.out.bk.cell 2; have hu2 := Lib.hid (GLI.li hu); clear hu)
      | (go_at_call 57; (with_reducible refine (HOF.out _).mono ?_); rintro e_ w4 ⟨B, d, rfl, hb, ho⟩; have hu22 := Lib.hid (LI.below hu2.out hb); replace HK := Lib.hid (HK.out.below hb); replace HX := Lib.hid (HX.out.trans (hb.mono HX.out.size)); clear hb f0 f1 f2 k0 k1 k2; have f0 := HK.out.bk.frozen 0; have f1 := HK.out.bk.frozen 1; have f2 := HK.out.bk.frozen 2; have k0 := HK.out.bk.cell 0; have k1 := HK.out.bk.cell 1; have k2 := HK.out.bk.cell 2; have hu3 := Lib.hid (LI.of_Rdl ho.rd nnE); clear ho)
      | (go_at_call 63; (with_reducible refine (HOI.out _ _ _ hu3.out hu22.out).mono ?_); rintro e_ w5 ⟨C, c, rfl, hb, ho⟩; have HD := Lib.hid (ho.lower HX.out.size); replace HK := Lib.hid (HK.out.below hb); replace HX := Lib.hid (HX.out.trans (hb.mono HX.out.size)); clear hb f0 f1 f2 k0 k1 k2; have f0 := HK.out.bk.frozen 0; have f1 := HK.out.bk.frozen 1; have f2 := HK.out.bk.frozen 2; have k0 := HK.out.bk.cell 0; have k1 := HK.out.bk.cell 1; have k2 := HK.out.bk.cell 2; clear ho))
    go_upto_region 8 with (first
      | (go_at_call 61; (with_reducible refine (HN2.out _ HX.out).mono ?_); rintro e_ w6 ⟨Nn, dn, rfl, hb, ho⟩; have HNo := Lib.hid (ho.lower HX.out.size); replace HD := Lib.hid (HD.out.below hb); replace HK := Lib.hid (HK.out.below hb); replace HX := Lib.hid (HX.out.trans (hb.mono HX.out.size)); clear hb f0 f1 f2 k0 k1 k2; have f0 := HK.out.bk.frozen 0; have f1 := HK.out.bk.frozen 1; have f2 := HK.out.bk.frozen 2; have k0 := HK.out.bk.cell 0; have k1 := HK.out.bk.cell 1; have k2 := HK.out.bk.cell 2; clear ho)
      | (go_at_call 57; (with_reducible refine (HOF.out _).mono ?_); rintro e_ w7 ⟨En, de, rfl, hb, ho⟩; have HEo := Lib.hid (ho.lower HX.out.size); replace HD := Lib.hid (HD.out.below hb); replace HNo := Lib.hid (HNo.out.below hb); replace HK := Lib.hid (HK.out.below hb); replace HX := Lib.hid (HX.out.trans (hb.mono HX.out.size)); clear hb f0 f1 f2 k0 k1 k2; have f0 := HK.out.bk.frozen 0; have f1 := HK.out.bk.frozen 1; have f2 := HK.out.bk.frozen 2; have k0 := HK.out.bk.cell 0; have k1 := HK.out.bk.cell 1; have k2 := HK.out.bk.cell 2; clear ho))
    clear hu0 hu00 hu1 hu2 hu22 hu3
    obtain ⟨wk, hwk⟩ : ∃ z, w7.alloc (.cells #[.slice Nn LN.length dn, .slice En LE.length de, .slice C LD.length c] 26) = z := ⟨_, rfl⟩
    have hb : Below w7.heap.size w7 wk := by rw [← hwk]; exact (Below.refl _ _).alloc (Nat.le_refl _) _
    have hkb : Bk wk w7.heap.size 26 #[.slice Nn LN.length dn, .slice En LE.length de, .slice C LD.length c] := by rw [← hwk]; exact Bk.new _ _ _
    rw [hwk]
    replace HD := Lib.hid (HD.out.below hb)
    replace HNo := Lib.hid (HNo.out.below hb)
    replace HEo := Lib.hid (HEo.out.below hb)
    replace HK := Lib.hid (HK.out.below hb)
    replace HX := Lib.hid (HX.out.trans (hb.mono HX.out.size))
    clear hb f0 f1 f2 k0 k1 k2
    have f0 := HK.out.bk.frozen 0
    have f1 := HK.out.bk.frozen 1
    have f2 := HK.out.bk.frozen 2
    have k0 := HK.out.bk.cell 0
    have k1 := HK.out.bk.cell 1
    have k2 := HK.out.bk.cell 2
    have HKB := Lib.hid hkb
    have z0 := hkb.cell 0
    have z1 := hkb.cell 1
    have z2 := hkb.cell 2
    have HRG := Lib.hid (hR.out wk _ _ _ (LI.of_Rdl HNo.out.rd nnN) (LI.of_Rdl HEo.out.rd nnE) (LI.of_Rdl HD.out.rd nnD))
    clear hwk hkb
    by_cases kz : kr = 0
    · subst kz
      obtain ⟨rfl, rfl, rfl, rfl⟩ : LN = N ∧ LE = E ∧ LD = D ∧ r = 0 := by
        have h := HRR.out
        rw [if_pos ⟨HC5.out.1, HC5.out.2.1, HC5.out.2.2.1, HC5.out.2.2.2.1, by have := HC5.out.2.2.2.2; omega, by first | rfl | trivial, by first | rfl | trivial⟩] at h
        simp only [Prod.mk.injEq] at h
        exact ⟨h.1.1, h.1.2.1, h.1.2.2, h.2.symm⟩
      go_wp2_with (go_at_call 64; refine HRG.out.mono ?_; rintro e_ w8 ⟨rfl, hb⟩; replace HD := Lib.hid (HD.out.below hb); replace HNo := Lib.hid (HNo.out.below hb); replace HEo := Lib.hid (HEo.out.below hb); have y0 := (HKB.out.below hb HKB.out.lt).cell 0; have y1 := (HKB.out.below hb HKB.out.lt).cell 1; have y2 := (HKB.out.below hb HKB.out.lt).cell 2; replace HK := Lib.hid (HK.out.below hb); replace HX := Lib.hid (HX.out.trans (hb.mono HX.out.size)); clear hb f0 f1 f2 k0 k1 k2; have f0 := HK.out.bk.frozen 0; have f1 := HK.out.bk.frozen 1; have f2 := HK.out.bk.frozen 2; have k0 := HK.out.bk.cell 0; have k1 := HK.out.bk.cell 1; have k2 := HK.out.bk.cell 2)
      obtain ⟨W, hW⟩ : ∃ z, (((w8.setCell ⟨w.heap.size, 0, none⟩ (.slice Nn LN.length dn)).setCell ⟨w.heap.size, 1, none⟩ (.slice En LE.length de)).setCell ⟨w.heap.size, 2, none⟩ (.slice C LD.length c)) = z := ⟨_, rfl⟩
      have hk := ((HK.out.bk.set 0 (.slice Nn LN.length dn)).set 1 (.slice En LE.length de)).set 2 (.slice C LD.length c)
      have hbel := (((HK.out.bel.setCell (p := ⟨w.heap.size, 0, none⟩) (Nat.le_refl _) (.slice Nn LN.length dn)).setCell (p := ⟨w.heap.size, 1, none⟩) (Nat.le_refl _) (.slice En LE.length de)).setCell (p := ⟨w.heap.size, 2, none⟩) (Nat.le_refl _) (.slice C LD.length c))
      have oN := (((HNo.out.lowL (p := ⟨w.heap.size, 0, none⟩) hg (.slice Nn LN.length dn)).lowL (p := ⟨w.heap.size, 1, none⟩) hg (.slice En LE.length de)).lowL (p := ⟨w.heap.size, 2, none⟩) hg (.slice C LD.length c))
      have oE := (((HEo.out.lowL (p := ⟨w.heap.size, 0, none⟩) hg (.slice Nn LN.length dn)).lowL (p := ⟨w.heap.size, 1, none⟩) hg (.slice En LE.length de)).lowL (p := ⟨w.heap.size, 2, none⟩) hg (.slice C LD.length c))
      have oD := (((HD.out.lowL (p := ⟨w.heap.size, 0, none⟩) hg (.slice Nn LN.length dn)).lowL (p := ⟨w.heap.size, 1, none⟩) hg (.slice En LE.length de)).lowL (p := ⟨w.heap.size, 2, none⟩) hg (.slice C LD.length c))
      rw [hW] at hk hbel oN oE oD ⊢
      have r0 := hk.cell 0
      have r1 := hk.cell 1
      have r2 := hk.cell 2
      have hle := Nat.le_of_lt hg
      exact bodyPost_ret (v := .tuple #[.agg #[.slice Nn LN.length dn, .slice En LE.length de, .slice C LD.length c], .int .i64 0]) (by simp [results, Tryz.results12, go_sem, r0, r1, r2]) rfl ⟨Nn, dn, En, de, C, c, rfl, oN.lower hle, oE.lower hle, oD.lower hle, hbel⟩
    · obtain ⟨rfl, rfl, rfl, rfl⟩ : N = [] ∧ E = [] ∧ D = [] ∧ r = 50 := by
        have h := HRR.out
        rw [if_neg (fun h => kz h.2.2.2.2.2.2)] at h
        simp only [Prod.mk.injEq] at h
        exact ⟨h.1.1.symm, h.1.2.1.symm, h.1.2.2.symm, h.2.symm⟩
      have kne : (kr != 0) = true := by simpa using kz
      go_wp2_with (go_at_call 64; refine HRG.out.mono ?_; rintro e_ w8 ⟨rfl, hb⟩; replace HK := Lib.hid (HK.out.below hb); replace HX := Lib.hid (HX.out.trans (hb.mono HX.out.size)); clear hb f0 f1 f2 k0 k1 k2; have f0 := HK.out.bk.frozen 0; have f1 := HK.out.bk.frozen 1; have f2 := HK.out.bk.frozen 2; have k0 := HK.out.bk.cell 0; have k1 := HK.out.bk.cell 1; have k2 := HK.out.bk.cell 2)
      obtain ⟨W, hW⟩ : ∃ z, (((w8.setCell ⟨w.heap.size, 0, none⟩ (.slice none 0 0)).setCell ⟨w.heap.size, 1, none⟩ (.slice none 0 0)).setCell ⟨w.heap.size, 2, none⟩ (.slice none 0 0)) = z := ⟨_, rfl⟩
      have hk := ((HK.out.bk.set 0 (.slice none 0 0)).set 1 (.slice none 0 0)).set 2 (.slice none 0 0)
      have hbel := ((HK.out.bel.setCell (p := ⟨w.heap.size, 0, none⟩) (Nat.le_refl _) (.slice none 0 0)).setCell (p := ⟨w.heap.size, 1, none⟩) (Nat.le_refl _) (.slice none 0 0)).setCell (p := ⟨w.heap.size, 2, none⟩) (Nat.le_refl _) (.slice none 0 0)
      rw [hW] at hk hbel ⊢
      have r0 := hk.cell 0
      have r1 := hk.cell 1
      have r2 := hk.cell 2
      exact bodyPost_ret (v := .tuple #[.agg #[.slice none 0 0, .slice none 0 0, .slice none 0 0], .int .i64 50]) (by simp [results, Tryz.results12, go_sem, r0, r1, r2]) rfl ⟨none, 0, none, 0, none, 0, rfl, Own.nil _ _ _ _, Own.nil _ _ _ _, Own.nil _ _ _ _, hbel⟩
  · obtain ⟨rfl, rfl, rfl, rfl⟩ : N = [] ∧ E = [] ∧ D = [] ∧ r = 50 := by
      have h := HMR.out
      rw [if_neg (fun h => i0 (by have := h.2.2.2.2.2.1; rwa [ie] at this))] at h
      simp only [Prod.mk.injEq] at h
      exact ⟨h.1.1.symm, h.1.2.1.symm, h.1.2.2.symm, h.2.symm⟩
    have ine : (ier != 0) = true := by simpa using i0
    clear ie m0 m1 e2 hqz hPh hne la lb le l1 l2 l3 l4
    go_enter Tryz.func12, Tryz.ntmps12
    go_wp2_with (first
      | (go_at_call 60; (with_reducible refine (HM0.out _ HX.out).mono ?_); rintro e_ w1 ⟨rfl, hb⟩; replace HK := Lib.hid (HK.out.below hb); replace HX := Lib.hid (HX.out.trans (hb.mono HX.out.size)); clear hb f0 f1 f2 k0 k1 k2; have f0 := HK.out.bk.frozen 0; have f1 := HK.out.bk.frozen 1; have f2 := HK.out.bk.frozen 2; have k0 := HK.out.bk.cell 0; have k1 := HK.out.bk.cell 1; have k2 := HK.out.bk.cell 2)
      | (go_at_call 60; (with_reducible refine (HM1.out _ HX.out).mono ?_); rintro e_ w1 ⟨rfl, hb⟩; replace HK := Lib.hid (HK.out.below hb); replace HX := Lib.hid (HX.out.trans (hb.mono HX.out.size)); clear hb f0 f1 f2 k0 k1 k2; have f0 := HK.out.bk.frozen 0; have f1 := HK.out.bk.frozen 1; have f2 := HK.out.bk.frozen 2; have k0 := HK.out.bk.cell 0; have k1 := HK.out.bk.cell 1; have k2 := HK.out.bk.cell 2)
      | (go_at_call 58; (with_reducible refine (HC.out _ HX.out).mono ?_); rintro e_ w1 ⟨rfl, hb⟩; replace HK := Lib.hid (HK.out.below hb); replace HX := Lib.hid (HX.out.trans (hb.mono HX.out.size)); clear hb f0 f1 f2 k0 k1 k2; have f0 := HK.out.bk.frozen 0; have f1 := HK.out.bk.frozen 1; have f2 := HK.out.bk.frozen 2; have k0 := HK.out.bk.cell 0; have k1 := HK.out.bk.cell 1; have k2 := HK.out.bk.cell 2)
      | (go_at_call 62; (with_reducible refine (HL0.out _ HX.out).mono ?_); rintro e_ w1 ⟨u0, rfl, hb, hu⟩; replace HK := Lib.hid (HK.out.below hb); replace HX := Lib.hid (HX.out.trans (hb.mono HX.out.size)); clear hb f0 f1 f2 k0 k1 k2; have f0 := HK.out.bk.frozen 0; have f1 := HK.out.bk.frozen 1; have f2 := HK.out.bk.frozen 2; have k0 := HK.out.bk.cell 0; have k1 := HK.out.bk.cell 1; have k2 := HK.out.bk.cell 2; have hu0 := Lib.hid (GLI.li hu); clear hu)
      | (go_at_call 62; (with_reducible refine (HL1.out _ HX.out).mono ?_); rintro e_ w2 ⟨u1, rfl, hb, hu⟩; have hu00 := Lib.hid (LI.below hu0.out hb); replace HK := Lib.hid (HK.out.below hb); replace HX := Lib.hid (HX.out.trans (hb.mono HX.out.size)); clear hb f0 f1 f2 k0 k1 k2; have f0 := HK.out.bk.frozen 0; have f1 := HK.out.bk.frozen 1; have f2 := HK.out.bk.frozen 2; have k0 := HK.out.bk.cell 0; have k1 := HK.out.bk.cell 1; have k2 := HK.out.bk.cell 2; have hu1 := Lib.hid (GLI.li hu); clear hu)
      | (go_at_call 61; (with_reducible refine (HPM.out _ _ _ hu00.out hu1.out).mono ?_); rintro e_ w3 ⟨u2, rfl, hb, hu⟩; replace HK := Lib.hid (HK.out.below hb); replace HX := Lib.hid (HX.out.trans (hb.mono HX.out.size)); clear hb f0 f1 f2 k0 k1 k2; have f0 := HK.out.bk.frozen 0; have f1 := HK.out.bk.frozen 1; have f2 := HK.out.bk.frozen 2; have k0 := HK.out.bk.cell 0; have k1 := HK.out.bk.cell 1; have k2 := HK.out.bk.cell 2; have hu2 := Lib.hid (GLI.li hu); clear hu)
      | (go_at_call 57; (with_reducible refine (HOF.out _).mono ?_); rintro e_ w4 ⟨B, d, rfl, hb, ho⟩; have hu22 := Lib.hid (LI.below hu2.out hb); replace HK := Lib.hid (HK.out.below hb); replace HX := Lib.hid (HX.out.trans (hb.mono HX.out.size)); clear hb f0 f1 f2 k0 k1 k2; have f0 := HK.out.bk.frozen 0; have f1 := HK.out.bk.frozen 1; have f2 := HK.out.bk.frozen 2; have k0 := HK.out.bk.cell 0; have k1 := HK.out.bk.cell 1; have k2 := HK.out.bk.cell 2; have hu3 := Lib.hid (LI.of_Rdl ho.rd nnE); clear ho)
      | (go_at_call 63; (with_reducible refine (HOI.out _ _ _ hu3.out hu22.out).mono ?_); rintro e_ w5 ⟨C, c, rfl, hb, ho⟩; replace HK := Lib.hid (HK.out.below hb); replace HX := Lib.hid (HX.out.trans (hb.mono HX.out.size)); clear hb f0 f1 f2 k0 k1 k2; have f0 := HK.out.bk.frozen 0; have f1 := HK.out.bk.frozen 1; have f2 := HK.out.bk.frozen 2; have k0 := HK.out.bk.cell 0; have k1 := HK.out.bk.cell 1; have k2 := HK.out.bk.cell 2; clear ho))
    obtain ⟨W, hW⟩ : ∃ z, (((w5.setCell ⟨w.heap.size, 0, none⟩ (.slice none 0 0)).setCell ⟨w.heap.size, 1, none⟩ (.slice none 0 0)).setCell ⟨w.heap.size, 2, none⟩ (.slice none 0 0)) = z := ⟨_, rfl⟩
    have hk := ((HK.out.bk.set 0 (.slice none 0 0)).set 1 (.slice none 0 0)).set 2 (.slice none 0 0)
    have hbel := ((HK.out.bel.setCell (p := ⟨w.heap.size, 0, none⟩) (Nat.le_refl _) (.slice none 0 0)).setCell (p := ⟨w.heap.size, 1, none⟩) (Nat.le_refl _) (.slice none 0 0)).setCell (p := ⟨w.heap.size, 2, none⟩) (Nat.le_refl _) (.slice none 0 0)
    rw [hW] at hk hbel ⊢
    have r0 := hk.cell 0
    have r1 := hk.cell 1
    have r2 := hk.cell 2
    exact bodyPost_ret (v := .tuple #[.agg #[.slice none 0 0, .slice none 0 0, .slice none 0 0], .int .i64 50]) (by simp [results, Tryz.results12, go_sem, r0, r1, r2]) rfl ⟨none, 0, none, 0, none, 0, rfl, Own.nil _ _ _ _, Own.nil _ _ _ _, Own.nil _ _ _ _, hbel⟩
end
end Go.Proofs.YtdmglajfmfjmlaaGreat
namespace Go.Proofs.YtdmglajfmfjmlaaGreat
set_option linter.unusedSimpArgs false
set_option linter.unusedVariables false
set_option maxRecDepth 100000
def IsPrime (p : Nat) : Prop := 2 ≤ p ∧ ∀ d, d ∣ p → d = 1 ∨ d = p
theorem IsPrime.coprime {p a : Nat} (h : IsPrime p) (ha : ¬ p ∣ a) : Nat.Coprime p a := by
  unfold Nat.Coprime
  rcases h.2 (Nat.gcd p a) (Nat.gcd_dvd_left p a) with e | e
  · exact e
  · exact absurd (e ▸ Nat.gcd_dvd_right p a) ha
theorem IsPrime.dvd_mul {p a b : Nat} (h : IsPrime p) (hd : p ∣ a * b) : p ∣ a ∨ p ∣ b := by
  by_cases ha : p ∣ a
  · exact .inl ha
  · exact .inr ((h.coprime ha).dvd_of_dvd_mul_left hd)
def choose : Nat → Nat → Nat
  | _, 0 => 1
  | 0, _ + 1 => 0
  | n + 1, k + 1 => choose n k + choose n (k + 1)
theorem choose_zero (n : Nat) : choose n 0 = 1 := by cases n <;> rfl
theorem choose_gt {n k : Nat} (h : n < k) : choose n k = 0 := by
  induction n generalizing k with
  | zero => obtain ⟨k, rfl⟩ : ∃ q, k = q + 1 := ⟨k - 1, by omega⟩; rfl
  | succ n ih =>
    obtain ⟨k, rfl⟩ : ∃ q, k = q + 1 := ⟨k - 1, by omega⟩
    simp only [choose]; rw [ih (by omega), ih (by omega)]
theorem choose_self (n : Nat) : choose n n = 1 := by
  induction n with
  | zero => rfl
  | succ n ih => simp only [choose]; rw [ih, choose_gt (by omega)]
theorem succ_mul_choose (n k : Nat) : (k + 1) * choose (n + 1) (k + 1) = (n + 1) * choose n k := by
  induction n generalizing k with
  | zero =>
    cases k with
    | zero => rfl
    | succ k => simp [choose]
  | succ n ih =>
    cases k with
    | zero =>
      have := ih 0
      simp only [choose, choose_zero] at this ⊢
      omega
    | succ k =>
      have h1 := ih k
      have h2 := ih (k + 1)
      have e1 : choose (n + 1 + 1) (k + 1 + 1) = choose (n + 1) (k + 1) + choose (n + 1) (k + 1 + 1) := rfl
      have e2 : choose (n + 1) (k + 1) = choose n k + choose n (k + 1) := rfl
      rw [e1, Nat.mul_add, h2]
      have e3 : (k + 1 + 1) * choose (n + 1) (k + 1) = (k + 1) * choose (n + 1) (k + 1) + choose (n + 1) (k + 1) := by rw [Nat.succ_mul]
      rw [e3, h1]
      have e4 : (n + 1 + 1) * choose (n + 1) (k + 1) = (n + 1) * choose (n + 1) (k + 1) + choose (n + 1) (k + 1) := by rw [Nat.succ_mul]
      rw [e4, e2, Nat.mul_add]
      omega
theorem IsPrime.dvd_choose {p k : Nat} (h : IsPrime p) (h0 : 0 < k) (hk : k < p) : p ∣ choose p k := by
  obtain ⟨k, rfl⟩ : ∃ q, k = q + 1 := ⟨k - 1, by omega⟩
  obtain ⟨n, rfl⟩ : ∃ q, p = q + 1 := ⟨p - 1, by omega⟩
  have e := succ_mul_choose n k
  have hd : (n + 1) ∣ (k + 1) * choose (n + 1) (k + 1) := ⟨choose n k, e⟩
  rcases h.dvd_mul hd with h1 | h1
  · exact absurd (Nat.le_of_dvd (by omega) h1) (by omega)
  · exact h1
def sumN (f : Nat → Nat) : Nat → Nat
  | 0 => 0
  | n + 1 => sumN f n + f n
theorem sumN_add (f g : Nat → Nat) (n : Nat) : sumN (fun i => f i + g i) n = sumN f n + sumN g n := by
  induction n with
  | zero => rfl
  | succ n ih => simp only [sumN]; rw [ih]; omega
theorem sumN_mul (c : Nat) (f : Nat → Nat) (n : Nat) : sumN (fun i => c * f i) n = c * sumN f n := by
  induction n with
  | zero => simp [sumN]
  | succ n ih => simp only [sumN]; rw [ih, Nat.mul_add]
theorem sumN_shift (f : Nat → Nat) (n : Nat) : sumN f (n + 1) = f 0 + sumN (fun i => f (i + 1)) n := by
  induction n with
  | zero => simp [sumN]
  | succ n ih => rw [sumN, ih]; simp only [sumN]; omega
theorem sumN_congr {f g : Nat → Nat} {n : Nat} (h : ∀ i, i < n → f i = g i) : sumN f n = sumN g n := by
  induction n with
  | zero => rfl
  | succ n ih => simp only [sumN]; rw [ih fun i hi => h i (by omega), h n (by omega)]
theorem binom (a n : Nat) : (a + 1) ^ n = sumN (fun k => choose n k * a ^ k) (n + 1) := by
  induction n with
  | zero => simp [sumN, choose]
  | succ n ih =>
    rw [Nat.pow_succ, ih, Nat.mul_add, Nat.mul_one, sumN_shift (fun k => choose (n + 1) k * a ^ k)]
    have e1 : sumN (fun i => choose (n + 1) (i + 1) * a ^ (i + 1)) (n + 1) = sumN (fun i => a * (choose n i * a ^ i) + choose n (i + 1) * a ^ (i + 1)) (n + 1) := by
      refine sumN_congr fun i _ => ?_
      simp only [choose, Nat.pow_succ, Nat.add_mul]
      rw [Nat.mul_comm (a ^ i) a, Nat.mul_left_comm]
    have e2 : sumN (fun i => choose n (i + 1) * a ^ (i + 1)) (n + 1) + 1 = sumN (fun k => choose n k * a ^ k) (n + 1) := by
      rw [sumN_shift (fun k => choose n k * a ^ k) n, sumN, choose_gt (show n < n + 1 by omega), choose_zero]; simp; omega
    rw [e1, sumN_add, sumN_mul, choose_zero, Nat.mul_comm]
    simp only [Nat.pow_zero, Nat.one_mul]
    omega
theorem dvd_sumN {p : Nat} {f : Nat → Nat} {n : Nat} (h : ∀ i, i < n → p ∣ f i) : p ∣ sumN f n := by
  induction n with
  | zero => exact Nat.dvd_zero p
  | succ n ih => exact Nat.dvd_add (ih fun i hi => h i (by omega)) (h n (by omega))
theorem IsPrime.frob {p : Nat} (h : IsPrime p) (a : Nat) : (a + 1) ^ p % p = (a ^ p + 1) % p := by
  obtain ⟨n, rfl⟩ : ∃ q, p = q + 1 := ⟨p - 1, by have := h.1; omega⟩
  rw [binom, sumN, sumN_shift, choose_self, choose_zero]
  simp only [Nat.pow_zero, Nat.mul_one, Nat.one_mul]
  have hd : (n + 1) ∣ sumN (fun i => choose (n + 1) (i + 1) * a ^ (i + 1)) n := dvd_sumN fun i hi => Nat.dvd_trans (h.dvd_choose (by omega) (by omega)) (Nat.dvd_mul_right _ _)
  obtain ⟨c, hc⟩ := hd
  rw [hc, show 1 + (n + 1) * c + a ^ (n + 1) = (a ^ (n + 1) + 1) + (n + 1) * c by omega, Nat.add_mul_mod_self_left]
theorem IsPrime.fermat {p : Nat} (h : IsPrime p) (a : Nat) : a ^ p % p = a % p := by
  induction a with
  | zero => rw [Nat.zero_pow (by have := h.1; omega)]
  | succ a ih => rw [h.frob, Nat.add_mod, ih, ← Nat.add_mod]
theorem dvd_of_mod_eq {p a b : Nat} (h : a % p = b % p) (hle : b ≤ a) : p ∣ a - b := Nat.dvd_of_mod_eq_zero (Nat.sub_mod_eq_zero_of_mod_eq h)
theorem IsPrime.fermat1 {p a : Nat} (h : IsPrime p) (ha : ¬ p ∣ a) : a ^ (p - 1) % p = 1 := by
  have hp := h.1
  have ha0 : 0 < a := Nat.pos_of_ne_zero fun e => ha (e ▸ Nat.dvd_zero p)
  have e := h.fermat a
  have e2 : a ^ p = a * a ^ (p - 1) := by
    obtain ⟨n, rfl⟩ : ∃ q, p = q + 1 := ⟨p - 1, by omega⟩
    rw [Nat.pow_succ, Nat.mul_comm]; rfl
  rw [e2] at e
  have h1 : 1 ≤ a ^ (p - 1) := Nat.pow_pos ha0
  have hd : p ∣ a * (a ^ (p - 1) - 1) := by
    rw [Nat.mul_sub, Nat.mul_one]
    exact dvd_of_mod_eq e (Nat.le_mul_of_pos_right a h1)
  rcases h.dvd_mul hd with h2 | h2
  · exact absurd h2 ha
  · obtain ⟨c, hc⟩ := h2
    rw [show a ^ (p - 1) = 1 + p * c by omega, Nat.add_mul_mod_self_left, Nat.mod_eq_of_lt (by omega)]
theorem IsPrime.root {p x : Nat} (h : IsPrime p) (hx : x < p) (h1 : x * x % p = 1) : x = 1 ∨ x = p - 1 := by
  have hp := h.1
  have hx0 : 1 ≤ x := Nat.pos_of_ne_zero fun e => by subst e; simp at h1
  have h1' : x * x % p = 1 % p := by rw [h1, Nat.mod_eq_of_lt (by omega)]
  have hd : p ∣ (x - 1) * (x + 1) := by
    have hd := dvd_of_mod_eq h1' (Nat.le_trans hx0 (Nat.le_mul_of_pos_left x hx0))
    have e : (x - 1) * (x + 1) = x * x - 1 := by
      obtain ⟨y, rfl⟩ : ∃ y, x = y + 1 := ⟨x - 1, by omega⟩
      simp only [Nat.add_sub_cancel, Nat.mul_add, Nat.add_mul]; omega
    rwa [e]
  rcases h.dvd_mul hd with h2 | h2
  · left
    rcases Nat.eq_zero_or_pos (x - 1) with h0 | h0
    · omega
    · have := Nat.le_of_dvd h0 h2; omega
  · right
    have := Nat.le_of_dvd (by omega) h2
    omega
end Go.Proofs.YtdmglajfmfjmlaaGreat
namespace Go.Proofs.YtdmglajfmfjmlaaGreat
set_option linter.unusedSimpArgs false
set_option linter.unusedVariables false
set_option maxRecDepth 100000
theorem sqs_of_root {p b : Nat} (h : IsPrime p) : ∀ s e, powM b (2 ^ s * e) p = 1 → powM b e p = 1 ∨ sqs b p s e = true := by
  intro s
  induction s with
  | zero => intro e h1; left; simpa using h1
  | succ s ih =>
    intro e h1
    have h2 := ih (2 * e) (by rw [← Nat.mul_assoc, ← Nat.pow_succ]; exact h1)
    unfold sqs
    rcases h2 with h2 | h2
    · rw [← powM_sq] at h2
      rcases h.root (powM_lt (by have := h.1; omega)) h2 with h3 | h3
      · exact .inl h3
      · right; rw [h3]; simp
    · right; rw [h2]; simp
theorem tells_prime {p : Nat} (h : IsPrime p) (b : Nat) : tellsN p b = false := by
  have hp := h.1
  unfold tellsN
  rw [if_neg (by omega)]
  by_cases h2 : p = 2
  · rw [if_pos h2]
  rw [if_neg h2]
  have ho : ¬ p % 2 = 0 := fun h0 => by
    rcases h.2 2 (Nat.dvd_of_mod_eq_zero h0) with e | e <;> omega
  rw [if_neg ho]
  by_cases hb : b % p = 0
  · rw [if_pos hb]
  rw [if_neg hb]
  by_cases h1 : powM b ((p - 1) / 2 ^ twos (p - 1)) p = 1
  · rw [if_pos h1]
  rw [if_neg h1]
  have hf : powM b (2 ^ twos (p - 1) * ((p - 1) / 2 ^ twos (p - 1))) p = 1 := by
    rw [← (twos_spec (show p - 1 ≠ 0 by omega)).1]
    exact h.fermat1 fun hd => hb (Nat.mod_eq_zero_of_dvd hd)
  rcases sqs_of_root h _ _ hf with h3 | h3
  · exact absurd h3 h1
  · rw [h3]; rfl
end Go.Proofs.YtdmglajfmfjmlaaGreat
namespace Go.Proofs.YtdmglajfmfjmlaaGreat
set_option linter.unusedSimpArgs false
set_option linter.unusedVariables false
set_option maxRecDepth 100000
theorem prime_dvd : ∀ n, 2 ≤ n → ∃ p, IsPrime p ∧ p ∣ n := by
  intro n
  induction n using Nat.strongRecOn with
  | ind n ih =>
    intro h
    by_cases hp : ∀ d, d ∣ n → d = 1 ∨ d = n
    · exact ⟨n, ⟨h, hp⟩, Nat.dvd_refl n⟩
    · have : ∃ d, d ∣ n ∧ d ≠ 1 ∧ d ≠ n := by
        apply Classical.byContradiction
        intro hc
        apply hp
        intro d hd
        apply Classical.byContradiction
        intro h'
        exact hc ⟨d, hd, fun e => h' (.inl e), fun e => h' (.inr e)⟩
      obtain ⟨d, hd, h1, h2⟩ := this
      have hle := Nat.le_of_dvd (by omega) hd
      have hd0 : d ≠ 0 := by rintro rfl; rw [Nat.zero_dvd] at hd; omega
      obtain ⟨p, hp', hpd⟩ := ih d (by omega) (by omega)
      exact ⟨p, hp', Nat.dvd_trans hpd hd⟩
theorem prime_of_big {n B : Nat} (h2 : 2 ≤ n) (hB : n < B * B) (h : ∀ p, IsPrime p → p ∣ n → B ≤ p) : IsPrime n := by
  refine ⟨h2, fun d hd => ?_⟩
  apply Classical.byContradiction
  intro hc
  have h1 : d ≠ 1 := fun e => hc (.inl e)
  have hn : d ≠ n := fun e => hc (.inr e)
  obtain ⟨e, he⟩ := hd
  have hd0 : d ≠ 0 := by rintro rfl; rw [Nat.zero_mul] at he; omega
  have he0 : e ≠ 0 := by rintro rfl; rw [Nat.mul_zero] at he; omega
  have he1 : e ≠ 1 := by rintro rfl; rw [Nat.mul_one] at he; exact hn he.symm
  obtain ⟨p, hp, hpd⟩ := prime_dvd d (by omega)
  obtain ⟨q, hq, hqe⟩ := prime_dvd e (by omega)
  have b1 := h p hp (Nat.dvd_trans hpd ⟨e, he⟩)
  have b2 := h q hq (Nat.dvd_trans hqe ⟨d, by rw [he, Nat.mul_comm]⟩)
  have l1 := Nat.le_of_dvd (by omega) hpd
  have l2 := Nat.le_of_dvd (by omega) hqe
  have := Nat.mul_le_mul (Nat.le_trans b1 l1) (Nat.le_trans b2 l2)
  omega
def noDiv (n : Nat) : Nat → Nat → Bool
  | 0, d => cond (Nat.ble (d * d) n) (!Nat.beq (n % d) 0) true
  | k + 1, d => cond (noDiv n k d) (noDiv n k (d + 2 ^ k)) false
theorem noDiv_all (n : Nat) : ∀ k d, noDiv n k d = true → ∀ i, d ≤ i → i < d + 2 ^ k → i * i ≤ n → n % i ≠ 0
  | 0, d, h, i, h1, h2, h3 => by
    obtain rfl : i = d := by simp at h2; omega
    unfold noDiv at h
    rw [Nat.ble_eq_true_of_le h3, cond_true] at h
    intro h0
    rw [h0] at h
    simp at h
  | k + 1, d, h, i, h1, h2, h3 => by
    unfold noDiv at h
    cases hn : noDiv n k d with
    | false => rw [hn] at h; simp at h
    | true =>
      rw [hn, cond_true] at h
      rcases Nat.lt_or_ge i (d + 2 ^ k) with h4 | h4
      · exact noDiv_all n k d hn i h1 h4 h3
      · exact noDiv_all n k _ h i h4 (by rw [Nat.pow_succ] at h2; omega) h3
theorem prime_trial {n k : Nat} (h2 : 2 ≤ n) (hk : n < 2 ^ k * 2 ^ k) (h : noDiv n k 2 = true) : IsPrime n := by
  have key : ∀ m, 2 ≤ m → m * m ≤ n → ¬ m ∣ n := fun m hm1 hm2 hd => by
    have hlt : m < 2 ^ k := by
      rcases Nat.lt_or_ge m (2 ^ k) with h1 | h1
      · exact h1
      · have := Nat.mul_le_mul h1 h1; omega
    exact noDiv_all n k 2 h m hm1 (by omega) hm2 (Nat.mod_eq_zero_of_dvd hd)
  refine ⟨h2, fun d hd => ?_⟩
  apply Classical.byContradiction
  intro hc
  have h1 : d ≠ 1 := fun e => hc (.inl e)
  have hn : d ≠ n := fun e => hc (.inr e)
  obtain ⟨e, he⟩ := hd
  have hd0 : d ≠ 0 := by rintro rfl; rw [Nat.zero_mul] at he; omega
  have he0 : e ≠ 0 := by rintro rfl; rw [Nat.mul_zero] at he; omega
  have he1 : e ≠ 1 := by rintro rfl; rw [Nat.mul_one] at he; exact hn he.symm
  rcases Nat.le_total d e with hle | hle
  · exact key d (by omega) (by rw [he]; exact Nat.mul_le_mul_left _ hle) ⟨e, he⟩
  · exact key e (by omega) (by rw [he]; exact Nat.mul_le_mul_right _ hle) ⟨d, by rw [he, Nat.mul_comm]⟩
end Go.Proofs.YtdmglajfmfjmlaaGreat
namespace Go.Proofs.YtdmglajfmfjmlaaGreat
set_option linter.unusedSimpArgs false
set_option linter.unusedVariables false
set_option maxRecDepth 100000
open Go.RowKit Go.Proofs.YtdmglajfmfjmlaaGreatW.PrintWords Go.Proofs.YtdmglajfmfjmlaaGreatW.PrintLast Go.Proofs.YtdmglajfmfjmlaaGreatW.PrintMore
theorem mayB_prime {p : Nat} (hp : IsPrime p) (hl : p < 2 ^ 512) : mayB p = true := by
  have h2 := hp.1
  unfold mayB
  rw [decide_eq_true (blen_le.2 hl), Bool.true_and]
  unfold primeN
  rw [if_neg (by omega), List.all_eq_true]
  intro b _
  rw [tells_prime hp b]; rfl
theorem makeR_two {p q e D N : Nat} (hp : IsPrime p) (hq : IsPrime q) (hne : p ≠ q) (hpl : p < 2 ^ 512) (hql : q < 2 ^ 512) (he : e % 2 = 1) (he3 : 3 ≤ e) (hD : D < (p - 1) * (q - 1)) (hed : e * D % ((p - 1) * (q - 1)) = 1) (hphi : 1 < (p - 1) * (q - 1)) (hN : p * q = N) (hk : keyR N e D = 0) :
    makeR p q e = ((ofN N, ofN e, ofN D), 0) := by
  have hg : Nat.gcd e ((p - 1) * (q - 1)) = 1 := by
    have d1 := Nat.gcd_dvd_left e ((p - 1) * (q - 1))
    have d2 := Nat.gcd_dvd_right e ((p - 1) * (q - 1))
    have d3 : Nat.gcd e ((p - 1) * (q - 1)) ∣ 1 := by
      have h1 := Nat.dvd_mul_right_of_dvd d1 D
      have := (Nat.dvd_mod_iff (k := Nat.gcd e ((p - 1) * (q - 1))) d2).2 h1
      rwa [hed] at this
    exact Nat.dvd_one.1 d3
  have hinv : invN e ((p - 1) * (q - 1)) = D := invN_eq hD (by rw [hed, Nat.mod_eq_of_lt hphi])
  unfold makeR
  rw [hinv, hN, if_pos ⟨mayB_prime hp hpl, mayB_prime hq hql, hne, he, he3, by rw [invR_pos (by omega) hg], hk⟩]
def N1 : Nat := 27606985387162255149739023449107931668458716142620601169954803000803329
def D1 : Nat := 15148310137902892372854494747293348982658810495089518801664574316425701
def N2 : Nat := 105312291668557186697918027513529248857806893649219117400977309697
def D2 : Nat := 52724439659078533542050878056119532687363428290303798353933435053
end Go.Proofs.YtdmglajfmfjmlaaGreat
namespace Go.Proofs.YtdmglajfmfjmlaaGreat
set_option linter.unusedSimpArgs false
set_option linter.unusedVariables false
set_option maxRecDepth 100000
open Go.RowKit Go.Proofs.YtdmglajfmfjmlaaGreatW.PrintWords Go.Proofs.YtdmglajfmfjmlaaGreatW.PrintLast Go.Proofs.YtdmglajfmfjmlaaGreatW.PrintMore
attribute [local go_sem] toldUpon_value toldUpon_skip toldUpon_enter
theorem pr_251 : IsPrime 251 := prime_trial (k := 5) (by decide) (by decide) (by decide +kernel)
theorem pr_257 : IsPrime 257 := prime_trial (k := 5) (by decide) (by decide) (by decide +kernel)
theorem mk_small : makeR 251 257 17 = ((ofN 64507, ofN 17, ofN 26353), 0) := makeR_two pr_251 pr_257 (by decide) (by decide +kernel) (by decide +kernel) (by decide) (by decide) (by decide +kernel) (by decide +kernel) (by decide +kernel) (by decide +kernel) (by decide +kernel)
theorem mk_same : makeR 251 251 17 = (([], [], []), 50) := if_neg (fun h => h.2.2.1 rfl)
theorem make_li {w : World} {v0 v1 : Value} {x y e : Nat} {N E D : List Int} {r : Int} (h0 : LI .u64 w v0 (ofN x)) (h1 : LI .u64 w v1 (ofN y)) (hx : okN 64 (ofN x)) (hy : okN 64 (ofN y)) (he : e < 18446744073709551616) (hf : makeR x y e = ((N, E, D), r)) (n0 : ∀ z ∈ N, 0 ≤ z) (n1 : ∀ z ∈ E, 0 ≤ z) (n2 : ∀ z ∈ D, 0 ≤ z) :
    Calls Tryz.prog 12 #[v0, v1, .int .u64 (e : Int)] w fun e_ w' => ∃ A1 c1 A2 c2 A3 c3, e_ = .returned (.tuple #[.agg #[.slice A1 N.length c1, .slice A2 E.length c2, .slice A3 D.length c3], .int .i64 r]) ∧
      LI .u64 w' (.slice A1 N.length c1) N ∧ LI .u64 w' (.slice A2 E.length c2) E ∧ LI .u64 w' (.slice A3 D.length c3) D ∧ Below w.heap.size w w' := by
  refine (make_lo (N := N) (E := E) (D := D) (r := r) h0 h1 hx hy he (by rw [nI_ofN, nI_ofN]; exact hf)).mono ?_
  rintro e_ w' ⟨A1, c1, A2, c2, A3, c3, rfl, o1, o2, o3, hb⟩
  exact ⟨A1, c1, A2, c2, A3, c3, rfl, LI.of_Rdl o1.rd n0, LI.of_Rdl o2.rd n1, LI.of_Rdl o3.rd n2, hb⟩
theorem sign_pad_li {w : World} {v0 v1 v2 : Value} {n e d : List Int} (h0 : LI .u64 w v0 n) (h1 : LI .u64 w v1 e) (h2 : LI .u64 w v2 d) (on : okN 64 n) (oe : okN 64 e) (od : okN 64 d) (hk : keyR (nI n) (nI e) (nI d) = 0) (hd : 0 < blen (nI d)) (hz : szN (nI n) < 27) (vt : Value) :
    Calls Tryz.prog 16 #[.agg #[v0, v1, v2], vt] w fun e_ w' => e_ = .returned (.tuple #[.slice none 0 0, .int .i64 51]) ∧ Below w.heap.size w w' := by
  obtain ⟨A0, c0, rfl, h0⟩ := h0.form
  obtain ⟨A1, c1, rfl, h1⟩ := h1.form
  obtain ⟨A2, c2, rfl, h2⟩ := h2.form
  have HN := Lib.hid (KB.new (t := 26) h0 h1 h2)
  obtain ⟨wa, hwa⟩ : ∃ z, w.alloc (.cells #[.slice A0 n.length c0, .slice A1 e.length c1, .slice A2 d.length c2] 26) = z := ⟨_, rfl⟩
  rw [hwa] at HN
  clear h0 h1 h2
  have hR := Lib.hid (right_li HN.out.h0 HN.out.h1 HN.out.h2 on oe od)
  rw [hk] at hR
  have HBI := Lib.hid (fun w' (h : Below wa.heap.size wa w') => bits_li (HN.out.below h).h2 (od.le (by omega)))
  have HZ := Lib.hid (fun w' (h : Below wa.heap.size wa w') => size_li (HN.out.below h).h0 (HN.out.below h).h1 (HN.out.below h).h2 on)
  obtain ⟨bz, hbz⟩ : ∃ z, blen (nI d) = z := ⟨_, rfl⟩
  obtain ⟨sz, hsz⟩ : ∃ z, szN (nI n) = z := ⟨_, rfl⟩
  rw [hbz] at HBI hd
  rw [hsz] at HZ hz
  have q1 : (((bz : Nat) : Int) == 0) = false := by rw [beq_eq_false_iff_ne]; omega
  have q2 : ((sz : Nat) : Int) < 27 := by omega
  have y0 := HN.out.c0
  have y1 := HN.out.c1
  have y2 := HN.out.c2
  have C0 := Lib.hid (fun w' (h : Below wa.heap.size wa w') => (HN.out.below h).c0)
  have C1 := Lib.hid (fun w' (h : Below wa.heap.size wa w') => (HN.out.below h).c1)
  have C2 := Lib.hid (fun w' (h : Below wa.heap.size wa w') => (HN.out.below h).c2)
  clear hk hbz hsz hd hz
  go_enter Tryz.func16, Tryz.ntmps16
  go_wp2_with (first
    | (go_at_call 64; refine hR.out.mono ?_; rintro e_ w1 ⟨rfl, hb1⟩; have H1 := Lib.hid hb1; have z2 := C2.out w1 hb1; clear hb1)
    | (go_at_call 74; refine (HBI.out _ H1.out).mono ?_; rintro e_ w2 ⟨rfl, hb2⟩; have H2 := Lib.hid (H1.out.trans (hb2.mono H1.out.size)); have x0 := C0.out w2 H2.out; have x1 := C1.out w2 H2.out; have x2 := C2.out w2 H2.out; clear hb2)
    | (go_at_call 59; refine (HZ.out _ H2.out).mono ?_; rintro e_ w3 ⟨rfl, hb3⟩; have H3 := Lib.hid (H2.out.trans (hb3.mono H2.out.size)); clear hb3))
  refine bodyPost_ret (v := .tuple #[.slice none 0 0, .int .i64 51]) (by simp [results, Tryz.results16, go_sem]) rfl ⟨rfl, HN.out.bel.trans (H3.out.mono HN.out.bel.size)⟩
set_option maxHeartbeats 4000000 in
theorem alive5_any (w : World) : Calls Tryz.prog 11 #[] w fun e w' => e = .returned (.bool true) ∧ Below w.heap.size w w' := by
  have o251 := of_li 251 (by omega)
  have o257 := of_li 257 (by omega)
  have oA := of_li 64507 (by omega)
  have oB := of_li 26353 (by omega)
  simp only [show ((251 : Nat) : Int) = 251 from rfl, show ((257 : Nat) : Int) = 257 from rfl, show ((64507 : Nat) : Int) = 64507 from rfl, show ((26353 : Nat) : Int) = 26353 from rfl] at o251 o257 oA oB
  have lf : ∀ a : Nat, a < 18446744073709551616 → okN 64 (ofN a) := fun a h => okN_ofN (Nat.le_trans (ln_small h) (by omega))
  have k1 := lf 64507 (by omega)
  have k2 := lf 17 (by omega)
  have k3 := lf 26353 (by omega)
  have hm := fun (w : World) v0 v1 (h0 : LI .u64 w v0 (ofN 251)) (h1 : LI .u64 w v1 (ofN 257)) => make_li (e := 17) h0 h1 (lf 251 (by omega)) (lf 257 (by omega)) (by omega) mk_small (ofN_nn _) (ofN_nn _) (ofN_nn _)
  have hm2 := fun (w : World) v0 v1 (h0 : LI .u64 w v0 (ofN 251)) (h1 : LI .u64 w v1 (ofN 251)) => make_li (e := 17) h0 h1 (lf 251 (by omega)) (lf 251 (by omega)) (by omega) mk_same (by simp) (by simp) (by simp)
  have hs := fun (w : World) v0 v1 v2 (h0 : LI .u64 w v0 (ofN 64507)) (h1 : LI .u64 w v1 (ofN 17)) (h2 : LI .u64 w v2 (ofN 26353)) => sign_pad_li h0 h1 h2 k1 k2 k3 (by rw [nI_ofN, nI_ofN, nI_ofN]; decide +kernel) (by rw [nI_ofN]; decide +kernel) (by rw [nI_ofN]; decide +kernel) (.slice none 0 0)
  have hz := fun (w : World) v0 v1 v2 (h0 : LI .u64 w v0 (ofN 64507)) (h1 : LI .u64 w v1 (ofN 17)) (h2 : LI .u64 w v2 (ofN 26353)) => size_li h0 h1 h2 k1
  rw [nI_ofN, show szN 64507 = 2 by decide +kernel, show ((2 : Nat) : Int) = 2 from rfl] at hz
  have hc1 := fun (w : World) v0 v1 (h0 : LI .u64 w v0 (ofN 64507)) (h1 : LI .u64 w v1 (ofN 64507)) => cmp_li h0 h1 (k1.le (by omega)) (k1.le (by omega))
  have hc2 := fun (w : World) v0 v1 (h0 : LI .u64 w v0 (ofN 26353)) (h1 : LI .u64 w v1 (ofN 26353)) => cmp_li h0 h1 (k3.le (by omega)) (k3.le (by omega))
  rw [nI_ofN, show cmpN 64507 64507 = 0 by decide] at hc1
  rw [nI_ofN, show cmpN 26353 26353 = 0 by decide] at hc2
  simp only [show ((17 : Nat) : Int) = 17 from rfl] at hm hm2
  clear lf k1 k2 k3
  simp only [List.length_nil] at hm2
  generalize ofN 251 = L1 at *
  generalize ofN 257 = L2 at *
  generalize ofN 64507 = L3 at *
  generalize ofN 17 = L4 at *
  generalize ofN 26353 = L5 at *
  obtain ⟨n3, hn3⟩ : ∃ n, L3.length = n := ⟨_, rfl⟩
  obtain ⟨n4, hn4⟩ : ∃ n, L4.length = n := ⟨_, rfl⟩
  obtain ⟨n5, hn5⟩ : ∃ n, L5.length = n := ⟨_, rfl⟩
  simp only [hn3, hn4, hn5] at hm
  clear hn3 hn4 hn5
  go_enter Tryz.func11, Tryz.ntmps11
  go_upto_region 2 with (first
    | (go_at_call 57; refine (o251 _).mono ?_; rintro e w1 ⟨u1, rfl, hb1, r1⟩)
    | (go_at_call 57; refine (o257 _).mono ?_; rintro e w2 ⟨u2, rfl, hb2, r2⟩)
    | (go_at_call 12; refine (hm _ _ _ (LI.below r1 hb2) r2).mono ?_; rintro e w3 ⟨B1, d1, B2, d2, B3, d3, rfl, q1, q2, q3, hb3⟩))
  have h13 := hb1.trans ((hb2.mono hb1.size).trans (hb3.mono (Nat.le_trans hb1.size hb2.size)))
  obtain ⟨g, hg⟩ : ∃ g, w3.heap.size = g := ⟨_, rfl⟩
  obtain ⟨wa, hwa⟩ : ∃ z, w3.alloc (.cells #[.slice B1 n3 d1, .slice B2 n4 d2, .slice B3 n5 d3] 26) = z := ⟨_, rfl⟩
  have hbk : Bk wa g 26 #[.slice B1 n3 d1, .slice B2 n4 d2, .slice B3 n5 d3] := by rw [← hwa, ← hg]; exact Bk.new w3 _ _
  have hba : Below w3.heap.size w3 wa := by rw [← hwa]; exact (Below.refl _ _).alloc (Nat.le_refl _) _
  rw [hwa, hg]
  have HB := Lib.hid (h13.trans (hba.mono h13.size))
  have HK := Lib.hid (And.intro (q1.below hba) (And.intro (q2.below hba) (q3.below hba)))
  have HBK := Lib.hid hbk
  have HG := Lib.hid hbk.lt
  have c0 := hbk.cell 0
  have c1 := hbk.cell 1
  have c2 := hbk.cell 2
  clear hwa hg hb1 hb2 hb3 r1 r2 q1 q2 q3 h13 hba hbk hm o257
  go_upto_region 3 with (go_at_call 16; refine (hs _ _ _ _ HK.out.1 HK.out.2.1 HK.out.2.2).mono ?_; rintro e w4 ⟨rfl, hb4⟩)
  clear c0 c1 c2 hs
  have o251b := o251
  go_upto_region 4 with (first
    | (go_at_call 57; refine (o251b _).mono ?_; rintro e w5 ⟨u1, rfl, hb5, r1⟩; have HR1 := Lib.hid r1; clear r1 o251b)
    | (go_at_call 57; refine (o251 _).mono ?_; rintro e w6 ⟨u2, rfl, hb6, r2⟩)
    | (go_at_call 12; refine (hm2 _ _ _ (LI.below HR1.out hb6) r2).mono ?_; rintro e w7 ⟨C1, e1, C2, e2, C3, e3, rfl, q1, q2, q3, hb7⟩))
  clear q1 q2 q3 r2 HR1
  obtain ⟨w8, hw8⟩ : ∃ z, w7.alloc (.cells #[.slice C1 0 e1, .slice C2 0 e2, .slice C3 0 e3] 26) = z := ⟨_, rfl⟩
  have hb8 : Below w7.heap.size w7 w8 := by rw [← hw8]; exact (Below.refl _ _).alloc (Nat.le_refl _) _
  obtain ⟨g2, hg2⟩ : ∃ g, w7.heap.size = g := ⟨_, rfl⟩
  rw [hw8, hg2]
  have b5 := hb4.trans (hb5.mono hb4.size)
  have b6 := b5.trans (hb6.mono b5.size)
  have b7 := b6.trans (hb7.mono b6.size)
  have b8 := b7.trans (hb8.mono b7.size)
  have HB8 := Lib.hid (HB.out.trans (b8.mono HB.out.size))
  have hK0 := HK.out.1.below b8
  have hK1 := HK.out.2.1.below b8
  have hK2 := HK.out.2.2.below b8
  have hBK := HBK.out.below b8 HG.out
  have hG := Nat.lt_of_lt_of_le HG.out b8.size
  clear hw8 hg2 hb4 hb5 hb6 hb7 hb8 b5 b6 b7 b8 HB HK HBK HG hm2 o251
  have z0 := fun w' (h : Below w8.heap.size w8 w') => (hBK.below h hG).cell 0
  have z1 := fun w' (h : Below w8.heap.size w8 w') => (hBK.below h hG).cell 1
  have z2 := fun w' (h : Below w8.heap.size w8 w') => (hBK.below h hG).cell 2
  have OA := Lib.hid oA
  have OB := Lib.hid oB
  have HC1 := Lib.hid hc1
  have HC2 := Lib.hid hc2
  have HZ := Lib.hid hz
  clear oA oB hc1 hc2 hz
  (refine region_told _ (by kernel_rfl) (by kernel_rfl) (by simp only [putAll, Act.put, List.setIfInBounds_toArray, List.set_cons_zero, List.set_cons_succ, Nat.reduceAdd]; rfl) ?_)
  repeat (refine told_step (fun v _ => v = _) (Stays.eq _) (by intro y w' hw' hd; simp only [depsOf, updG, Region.binds, Nat.reduceAdd, Nat.reduceEqDiff, if_false, if_true, and_true, true_and, forall_const, Array.toList, GTrue] at hd; (try go_split_ands); unfold toldAt; go_simp; exact ⟨Below.refl _ _, rfl⟩) ?_)
  (refine told_step (GLI .u64 L3) ( GLI.stays _ _) (by intro y w' hw' hd; simp only [depsOf, updG, Region.binds, Nat.reduceAdd, Nat.reduceEqDiff, if_false, if_true, and_true, true_and, forall_const, Array.toList, GTrue] at hd; (try go_split_ands); unfold toldAt; go_simp; refine ⟨Below.refl _ _, ?_⟩;  exact OA.out _) ?_)
  (refine told_step (fun v _ => v = .int .i64 0) ( Stays.eq _) (by intro y w' hw' hd; simp only [depsOf, updG, Region.binds, Nat.reduceAdd, Nat.reduceEqDiff, if_false, if_true, and_true, true_and, forall_const, Array.toList, GTrue] at hd;  obtain ⟨h4, h5, h6⟩ := hd; (try go_split_ands); unfold toldAt; go_simp; refine ⟨Below.refl _ _, ?_⟩; exact HC1.out _ _ _ (hK0.below hw') h5) ?_)
  repeat (refine told_step (fun v _ => v = _) (Stays.eq _) (by intro y w' hw' hd; simp only [depsOf, updG, Region.binds, Nat.reduceAdd, Nat.reduceEqDiff, if_false, if_true, and_true, true_and, forall_const, Array.toList, GTrue] at hd; (try go_split_ands); unfold toldAt; go_simp; exact ⟨Below.refl _ _, rfl⟩) ?_)
  (refine told_step (GLI .u64 L5) ( GLI.stays _ _) (by intro y w' hw' hd; simp only [depsOf, updG, Region.binds, Nat.reduceAdd, Nat.reduceEqDiff, if_false, if_true, and_true, true_and, forall_const, Array.toList, GTrue] at hd; (try go_split_ands); unfold toldAt; go_simp; refine ⟨Below.refl _ _, ?_⟩;  exact OB.out _) ?_)
  (refine told_step (fun v _ => v = .int .i64 0) ( Stays.eq _) (by intro y w' hw' hd; simp only [depsOf, updG, Region.binds, Nat.reduceAdd, Nat.reduceEqDiff, if_false, if_true, and_true, true_and, forall_const, Array.toList, GTrue] at hd;  obtain ⟨h4, h5, h6⟩ := hd; (try go_split_ands); unfold toldAt; go_simp; refine ⟨Below.refl _ _, ?_⟩; exact HC2.out _ _ _ (hK2.below hw') h5) ?_)
  repeat (refine told_step (fun v _ => v = _) (Stays.eq _) (by intro y w' hw' hd; simp only [depsOf, updG, Region.binds, Nat.reduceAdd, Nat.reduceEqDiff, if_false, if_true, and_true, true_and, forall_const, Array.toList, GTrue] at hd; (try go_split_ands); unfold toldAt; go_simp; exact ⟨Below.refl _ _, rfl⟩) ?_)
  (refine told_step (fun v _ => v = _) (Stays.eq _) (by intro y w' hw' hd; simp only [depsOf, updG, Region.binds, Nat.reduceAdd, Nat.reduceEqDiff, if_false, if_true, and_true, true_and, forall_const, Array.toList, GTrue] at hd; (try go_split_ands); unfold toldAt; go_simp; refine ⟨Below.refl _ _, ?_⟩; exact HZ.out _ _ _ _ (hK0.below hw') (hK1.below hw') (hK2.below hw')) ?_)
  repeat (refine told_step (fun v _ => v = _) (Stays.eq _) (by intro y w' hw' hd; simp only [depsOf, updG, Region.binds, Nat.reduceAdd, Nat.reduceEqDiff, if_false, if_true, and_true, true_and, forall_const, Array.toList, GTrue] at hd; (try go_split_ands); unfold toldAt; go_simp; exact ⟨Below.refl _ _, rfl⟩) ?_)

  (refine told_nil ?_; intro y w' hw' hd; replace hd := hd 29 (by decide); simp only [updG, Nat.reduceAdd, Nat.reduceEqDiff, if_false, if_true] at hd)
  have H29 : y 29 = .bool true := hd
  go_wp2_with fail
  go_ret
  exact ⟨congrArg Ending.returned H29, HB8.out.trans (hw'.mono HB8.out.size)⟩
end Go.Proofs.YtdmglajfmfjmlaaGreat
namespace Go.Proofs.YtdmglajfmfjmlaaGreat
set_option linter.unusedSimpArgs false
set_option linter.unusedVariables false
set_option maxRecDepth 100000
open Go.RowKit
def CutTo (xs : List Nat) (m : Nat) : Prop := m ≤ xs.length ∧ bvN (xs.take m) = bvN xs ∧ (m = 0 ∨ gd xs (m - 1) ≠ 0)
set_option maxHeartbeats 400000 in
theorem cut_any (w : World) {A : Option Addr} {n c : Nat} {xs : List Nat} (hx : Rd .i64 w A n c xs) (hn : n ≤ 1073741824) :
    Calls Tryz.prog 176 #[.slice A n c] w fun e w' => ∃ m, e = .returned (.slice A m c) ∧ CutTo xs m ∧ w = w' := by
  have hmax := hx.max
  have hcap := hx.cap
  have HX := Lib.hid hx
  clear hx
  go_enter Tryz.func176, Tryz.ntmps176
  go_wp2
  go_loop [3] (fun i => ∃ k : Nat, k ≤ n ∧ bvN (xs.take k) = bvN xs ∧ i = .int .i64 (k : Int)) (fun i => (intOf i).toNat)
  case atStart => exact ⟨n, Nat.le_refl _, by rw [List.take_of_length_le (by rw [HX.out.len]; exact Nat.le_refl _)], rfl⟩
  case round =>
    obtain ⟨k, hk, hv, rfl⟩ := hrel
    have HV := Lib.hid hv
    clear hv
    by_cases hk0 : k = 0
    · subst hk0
      go_wp2_with fail
      go_ret
      exact ⟨0, rfl, ⟨by omega, HV.out, .inl rfl⟩, rfl⟩
    · obtain ⟨k, rfl⟩ : ∃ j, k = j + 1 := ⟨k - 1, by omega⟩
      obtain ⟨ad, rfl, hb, hc⟩ := HX.out.form (by omega)
      have hxc := hc k (by omega)
      clear hc hk0
      by_cases h0 : gd xs k = 0
      · have HM := Lib.hid (show bvN (xs.take k) = bvN xs by rw [← HV.out, bvN_take_succ (by rw [HX.out.len]; omega), h0]; simp)
        rw [h0] at hxc
        clear h0
        go_wp2_with fail
        refine ⟨⟨k, by omega, HM.out, ?_⟩, ?_⟩
        · first | rfl | (congr 1; omega)
        · simp [intOf]
      · have h0' : (((gd xs k : Nat) : Int) == 0) = false := by simp; omega
        have H0 := Lib.hid h0
        have hl : k + 1 ≤ xs.length := by rw [HX.out.len]; omega
        clear h0
        go_wp2_with fail
        go_ret
        exact ⟨k + 1, rfl, ⟨hl, HV.out, .inr H0.out⟩, rfl⟩
end Go.Proofs.YtdmglajfmfjmlaaGreat
namespace Go.Proofs.YtdmglajfmfjmlaaGreat
set_option linter.unusedSimpArgs false
set_option linter.unusedVariables false
set_option maxRecDepth 100000
open Go.RowKit
structure NumSt (ds ws : List Nat) (i : Nat) : Prop where
  b : B64 ws
  len : ws.length = (i + 63) / 64
  val : nv ws = bvN (ds.take i)
theorem NumSt.zero (ds : List Nat) : NumSt ds [] 0 := ⟨B64.nil, rfl, rfl⟩
theorem NumSt.grow {ds ws : List Nat} {i : Nat} (h : NumSt ds ws i) (hi : i % 64 = 0) : B64 (ws ++ [0]) ∧ (ws ++ [0]).length = i / 64 + 1 ∧ nv (ws ++ [0]) = bvN (ds.take i) := by
  refine ⟨h.b.append (B64.cons (by omega) B64.nil), by rw [List.length_append, h.len]; simp; omega, ?_⟩
  rw [nv_append, h.val]; simp [nv]
theorem NumSt.keep {ds ws : List Nat} {i : Nat} (h : NumSt ds ws i) (hi : i % 64 ≠ 0) : ws.length = i / 64 + 1 := by rw [h.len]; omega
theorem num_zero {ds ws : List Nat} {i : Nat} (b : B64 ws) (hl : ws.length = i / 64 + 1) (hv : nv ws = bvN (ds.take i)) (hi : i < ds.length) (h0 : gd ds i = 0) : NumSt ds ws (i + 1) :=
  ⟨b, by rw [hl]; omega, by rw [bvN_take_succ hi, h0, hv]; simp⟩
theorem num_room {ds ws : List Nat} {i : Nat} (hd : Bin ds) (hv : nv ws = bvN (ds.take i)) : gd ws (i / 64) + 2 ^ (i % 64) < 18446744073709551616 := by
  have h1 := bvN_take_lt hd i
  rw [← hv] at h1
  have h2 : gd ws (i / 64) < 2 ^ (i % 64) := gd_small (by rw [wpow, ← Nat.pow_add, show 64 * (i / 64) + i % 64 = i by omega]; exact h1)
  have h3 : 2 ^ (i % 64) ≤ 2 ^ 63 := Nat.pow_le_pow_right (by omega) (by omega)
  omega
theorem num_one {ds ws : List Nat} {i : Nat} (hd : Bin ds) (b : B64 ws) (hl : ws.length = i / 64 + 1) (hv : nv ws = bvN (ds.take i)) (hi : i < ds.length) (h1 : gd ds i = 1) : NumSt ds (ws.set (i / 64) (gd ws (i / 64) + 2 ^ (i % 64))) (i + 1) := by
  refine ⟨b.set (num_room hd hv), by rw [List.length_set, hl]; omega, ?_⟩
  have e := nv_set (zs := ws) (j := i / 64) (gd ws (i / 64) + 2 ^ (i % 64)) (by omega)
  rw [Nat.mul_add, wpow, ← Nat.pow_add, show 64 * (i / 64) + i % 64 = i by omega] at e
  rw [bvN_take_succ hi, h1, ← hv]; omega
theorem num_done {xs ds ws : List Nat} {m : Nat} (hx : Bin xs) (hc : CutTo xs m) (hd : ds = xs.take m) (h : NumSt ds ws m) : ws = limbs (bvN xs) ∧ ws.length = ln (bvN xs) := by
  have hl : ds.length = m := by rw [hd, List.length_take]; have := hc.1; omega
  have hv : nv ws = bvN xs := by rw [h.val, List.take_of_length_le (by omega), hd, hc.2.1]
  have e : ln (bvN xs) = (m + 63) / 64 := by
    refine ln_bits ?_ ?_
    · rw [← hc.2.1]; exact bvN_take_lt hx m
    · rcases hc.2.2 with h0 | h0
      · exact .inl h0
      · rcases Nat.eq_zero_or_pos m with hm | hm
        · exact .inl hm
        · right
          have h1 : gd xs (m - 1) = 1 := by have := hx.gd (m - 1); omega
          have h2 := bvN_take_succ (xs := xs) (k := m - 1) (by have := hc.1; omega)
          rw [show m - 1 + 1 = m by omega, hc.2.1, h1] at h2; omega
  refine ⟨?_, by rw [h.len, e]⟩
  rw [← hv]; exact (limbs_of_len h.b (by rw [hv, e, h.len])).symm
set_option maxHeartbeats 1000000 in
theorem number_any (w : World) {A : Option Addr} {n c : Nat} {xs : List Nat} (hx : Rd .i64 w A n c xs) (hb : Bin xs) (hn : n ≤ 1073741824) :
    Calls Tryz.prog 147 #[.slice A n c] w (RetN (bvN xs) w) := by
  obtain ⟨i0, hi0, hz0, hz1, hz2⟩ := info_parts u64_info
  have HX := Lib.hid hx
  have HB := Lib.hid hb
  clear hx hb
  go_enter Tryz.func147, Tryz.ntmps147
  go_wp2_with fail
  refine (cut_any w HX.out hn).mono ?_
  rintro e w' ⟨m, rfl, hcut, hw'⟩
  obtain rfl : w = w' := hw'
  have hmn : m ≤ n := by have := hcut.1; rw [HX.out.len] at this; exact this
  have HR := Lib.hid (HX.out.take hmn)
  have hmc : m ≤ c := HR.out.cap
  have HC := Lib.hid hcut
  have HBD := Lib.hid (HB.out.take m)
  obtain ⟨ds, hds⟩ : ∃ ds, ds = xs.take m := ⟨_, rfl⟩
  rw [← hds] at HR HBD
  have HDS := Lib.hid hds
  clear hcut hds
  go_wp2_with fail
  go_loopw [3, 4] (fun v i wr => ∃ (k : Nat) (A1 : Option Addr) (c1 : Nat) (ws : List Nat), k ≤ m ∧ i = .int .i64 (k : Int) ∧ v = .slice A1 ((k + 63) / 64) c1 ∧ Own .u64 23 wr w.heap.size A1 ((k + 63) / 64) c1 ws ∧ Below w.heap.size w wr ∧ NumSt ds ws k) (fun _ i _ => m - (intOf i).toNat)
  case atStart => exact ⟨0, none, 0, [], by omega, rfl, rfl, Own.nil _ _ _ _, Below.refl _ _, NumSt.zero _⟩
  case round =>
    obtain ⟨k, A1, c1, ws, hk, rfl, rfl, how, hbl, hst⟩ := hrel
    have HO := Lib.hid how
    have HST := Lib.hid hst
    have hsz := hbl.size
    clear how hst
    obtain ⟨L, hL⟩ : ∃ L, (k + 63) / 64 = L := ⟨_, rfl⟩
    rw [hL] at HO ⊢
    have HL := Lib.hid hL
    have hLb : L ≤ 16777216 := by omega
    clear hL
    by_cases hlt : k < m
    · obtain ⟨ad, rfl, hb, hc⟩ := (HR.out.below hbl).form (by omega)
      have hdc := hc k hlt
      have hxd := HR.out.form (show 0 < m by omega)
      obtain ⟨ad', had', hbb, _⟩ := hxd
      obtain rfl := Option.some.inj had'
      clear hc had'
      obtain ⟨q, hq⟩ : ∃ q, k / 64 = q := ⟨_, rfl⟩
      obtain ⟨r, hr⟩ : ∃ r, k % 64 = r := ⟨_, rfl⟩
      have hr63 : r ≤ 63 := by omega
      have d1 : (k : Int) / 64 = (q : Int) := by omega
      have d2 : (k : Int).tdiv 64 = (q : Int) := by rw [Int.tdiv_eq_ediv_of_nonneg (by omega)]; omega
      have d3 : (k : Int) % 64 = (r : Int) := by omega
      have d4 : (k : Int).tmod 64 = (r : Int) := by rw [Int.tmod_eq_emod_of_nonneg (by omega)]; omega
      have d5 : IntKind.i64.wrap (q : Int) = (q : Int) := IntWalk.i64_in _ (by omega)
      have HQ := Lib.hid hq
      have HRR := Lib.hid hr
      have hds1 : gd ds k ≤ 1 := HBD.out.gd k
      have hdl : k < ds.length := by rw [HR.out.len]; exact hlt
      have hdg := YtdmglajfmfjmlaaGreat.num_room (i := k) HBD.out HST.out.val
      by_cases hr0 : r = 0
      · have hr0' : ((r : Int) == 0) = true := by simp; omega
        obtain ⟨gb, gl, gv⟩ := HST.out.grow (by rw [HRR.out]; exact hr0)
        have GB := Lib.hid gb
        have GL := Lib.hid gl
        have GV := Lib.hid gv
        have HO1 := Lib.hid (HO.out.below ((Below.refl _ _).alloc (Nat.le_refl _) (.cells #[.int .u64 0] 23)))
        have HR4 := Lib.hid ((Own.of_bk (k := .u64) (xs := [0]) (base := 0) (Bk.new wr 23 (va .u64 [0])) (by omega) rfl (by simp)).rd : Rd .u64 (wr.alloc (.cells #[.int .u64 0] 23)) (some ⟨wr.heap.size, 0, none⟩) 1 1 [0])
        have hb9 : w.heap.size ≤ (wr.alloc (.cells #[.int .u64 0] 23)).heap.size := by simp; omega
        have HB5 := Lib.hid (show Below w.heap.size w (wr.alloc (.cells #[.int .u64 0] 23)) from hbl.alloc hsz _)
        clear gb gl gv hr0
        go_wp2_with (at_builtin; refine wpList_append_rd _ rfl (.tmp 16) (.tmp 17) _ rfl .u64 w.heap.size 23 i0 (.int .u64 0) 8 Tryz.underlying22 hi0 hz0 hz1 hz2 rfl A1 L c1 _ rfl HO1.out _ _ _ _ rfl HR4.out (by simp only [maxLen]; omega) (by omega) hb9 ?_)
        intro A2 c2 w2 ho2 hb2 hs2 _
        have hLq : L + 1 = q + 1 := by have := GL.out; rw [List.length_append, HO.out.len, HQ.out] at this; simpa using this
        rw [hLq] at ho2 ⊢
        have hb2' : Below w.heap.size w w2 := HB5.out.trans hb2
        have hdc2 : w2.cell? (ad.add k) = some (.int .i64 ((gd ds k : Nat) : Int)) := by
          obtain ⟨ad2, had2, _, hc2⟩ := (HR.out.below hb2').form (by omega)
          obtain rfl := Option.some.inj had2
          exact hc2 k hlt
        clear hdc hb2 hs2
        obtain ⟨gx, hAx, hgx1, hgx2⟩ := ho2.blk (by omega)
        subst hAx
        have hk1 : (k + 1 + 63) / 64 = q + 1 := by have := HQ.out; omega
        have HK1 := Lib.hid hk1
        clear hk1
        rcases (show gd ds k = 0 ∨ gd ds k = 1 by omega) with hd0 | hd1
        · have HN := Lib.hid (num_zero GB.out GL.out GV.out hdl hd0)
          rw [hd0] at hdc2
          have HO3 := Lib.hid ho2
          have HB3 := Lib.hid hb2'
          clear hd0 ho2 hb2'
          go_wp2_with fail
          refine ⟨⟨k + 1, some ⟨gx, 0, none⟩, c2, (ws++[0]), by omega, by go_num, ?_, ?_, HB3.out, HN.out⟩, by simp [intOf]; omega⟩
          · rw [HK1.out]
          · rw [HK1.out]; exact HO3.out
        · have HN := Lib.hid (num_one HBD.out GB.out GL.out GV.out hdl hd1)
          rw [HQ.out, HRR.out] at HN
          rw [hd1] at hdc2
          have hroom := YtdmglajfmfjmlaaGreat.num_room (i := k) HBD.out GV.out
          rw [HQ.out, HRR.out] at hroom
          have hcell := ho2.cellAt (j := q) (by omega)
          have hfr := ho2.frozenAt q
          have hcap := ho2.rd.cap
          obtain ⟨x0, hx0⟩ : ∃ x0, gd (ws++[0]) q = x0 := ⟨_, rfl⟩
          rw [hx0] at hcell hroom HN
          obtain ⟨p, hp⟩ : ∃ p, 2 ^ r = p := ⟨_, rfl⟩
          rw [hp] at hroom HN
          have e1 : IntKind.u64.wrap ((2 : Int) ^ r) = (p : Int) := by rw [show (2 : Int) ^ r = ((2 ^ r : Nat) : Int) by push_cast; rfl, hp]; exact wrap_of (by omega)
          have e2 : IntKind.u64.wrap ((x0 : Int) + (p : Int)) = ((x0 + p : Nat) : Int) := wrap_of (by omega)
          have e3 : IntKind.u64.wrap (r : Int) = (r : Int) := wrap_of (by omega)
          have HST3 := Lib.hid (ho2.store q (x0 + p))
          have HB3 := Lib.hid (hb2'.setCell (p := ⟨gx, q, none⟩) hgx1 (.int .u64 ((x0 + p : Nat) : Int)))
          clear hd1 hx0 hp ho2 hb2'
          go_wp2_with fail
          refine ⟨⟨k + 1, some ⟨gx, 0, none⟩, c2, ((ws++[0])).set q (x0 + p), by omega, by go_num, ?_, ?_, HB3.out, HN.out⟩, by simp [intOf]; omega⟩
          · rw [HK1.out]
          · rw [HK1.out]; exact HST3.out
      · have hLq : L = q + 1 := by have := HST.out.keep (by rw [HRR.out]; exact hr0); rw [HO.out.len, HQ.out] at this; exact this
        subst hLq
        have GB := Lib.hid HST.out.b
        have GL := Lib.hid (show ws.length = k / 64 + 1 by rw [HO.out.len, HQ.out])
        have GV := Lib.hid HST.out.val
        have ho2 := HO.out
        have hb2' := hbl
        have hdc2 := hdc
        have hr0' : ((r : Int) == 0) = false := by simp; omega
        clear hdc
        obtain ⟨gx, hAx, hgx1, hgx2⟩ := ho2.blk (by omega)
        subst hAx
        have hk1 : (k + 1 + 63) / 64 = q + 1 := by have := HQ.out; omega
        have HK1 := Lib.hid hk1
        clear hk1
        rcases (show gd ds k = 0 ∨ gd ds k = 1 by omega) with hd0 | hd1
        · have HN := Lib.hid (num_zero GB.out GL.out GV.out hdl hd0)
          rw [hd0] at hdc2
          have HO3 := Lib.hid ho2
          have HB3 := Lib.hid hb2'
          clear hd0 ho2 hb2'
          go_wp2_with fail
          refine ⟨⟨k + 1, some ⟨gx, 0, none⟩, c1, ws, by omega, by go_num, ?_, ?_, HB3.out, HN.out⟩, by simp [intOf]; omega⟩
          · rw [HK1.out]
          · rw [HK1.out]; exact HO3.out
        · have HN := Lib.hid (num_one HBD.out GB.out GL.out GV.out hdl hd1)
          rw [HQ.out, HRR.out] at HN
          rw [hd1] at hdc2
          have hroom := YtdmglajfmfjmlaaGreat.num_room (i := k) HBD.out GV.out
          rw [HQ.out, HRR.out] at hroom
          have hcell := ho2.cellAt (j := q) (by omega)
          have hfr := ho2.frozenAt q
          have hcap := ho2.rd.cap
          obtain ⟨x0, hx0⟩ : ∃ x0, gd ws q = x0 := ⟨_, rfl⟩
          rw [hx0] at hcell hroom HN
          obtain ⟨p, hp⟩ : ∃ p, 2 ^ r = p := ⟨_, rfl⟩
          rw [hp] at hroom HN
          have e1 : IntKind.u64.wrap ((2 : Int) ^ r) = (p : Int) := by rw [show (2 : Int) ^ r = ((2 ^ r : Nat) : Int) by push_cast; rfl, hp]; exact wrap_of (by omega)
          have e2 : IntKind.u64.wrap ((x0 : Int) + (p : Int)) = ((x0 + p : Nat) : Int) := wrap_of (by omega)
          have e3 : IntKind.u64.wrap (r : Int) = (r : Int) := wrap_of (by omega)
          have HST3 := Lib.hid (ho2.store q (x0 + p))
          have HB3 := Lib.hid (hb2'.setCell (p := ⟨gx, q, none⟩) hgx1 (.int .u64 ((x0 + p : Nat) : Int)))
          clear hd1 hx0 hp ho2 hb2'
          go_wp2_with fail
          refine ⟨⟨k + 1, some ⟨gx, 0, none⟩, c1, (ws).set q (x0 + p), by omega, by go_num, ?_, ?_, HB3.out, HN.out⟩, by simp [intOf]; omega⟩
          · rw [HK1.out]
          · rw [HK1.out]; exact HST3.out
    · obtain rfl : m = k := by omega
      have HF := Lib.hid (num_done HB.out HC.out HDS.out HST.out)
      go_wp2_with fail
      go_ret
      refine ⟨A1, c1, ?_, ?_, hbl⟩
      · rw [← HF.out.2, HO.out.len]; rfl
      · have := HO.out
        rw [← HO.out.len, HF.out.2] at this
        rw [← HF.out.1]; exact this
end Go.Proofs.YtdmglajfmfjmlaaGreat
namespace Go.Proofs.YtdmglajfmfjmlaaGreat
set_option linter.unusedSimpArgs false
set_option linter.unusedVariables false
set_option maxRecDepth 100000
open Go.RowKit Go.Proofs.YtdmglajfmfjmlaaGreatW.PrintWords Go.Proofs.YtdmglajfmfjmlaaGreatW.PrintLast
theorem number_giv {A0 : Option Addr} {c0 : Nat} {l0 : List Int} {w : World} {r : List Int} (hr0 : Kd.C (Kd.int .i64) w A0 l0.length l0) (hc0 : l0.length ≤ c0) (h : (if binI 1073741824 l0 then some (ofN (bvN (toN l0))) else none) = some r) :
    Calls Tryz.prog 147 #[.slice A0 l0.length c0] w fun e w' => ∃ v0_ : Value, e = .returned (v0_) ∧ Kd.R (Kd.int .u64) 23 w' w.heap.size (fun _ => True) v0_ r ∧ Below w.heap.size w w' := by
  obtain ⟨h0, rfl⟩ := of_ite h
  exact (number_any w (rd_of_C' hr0 hc0 fun x hx => by have := h0.2 x hx; omega) h0.bin h0.1).mono fun _ _ h => retN_R h
end Go.Proofs.YtdmglajfmfjmlaaGreat
namespace Go.Proofs.YtdmglajfmfjmlaaGreat
set_option linter.unusedSimpArgs false
set_option linter.unusedVariables false
set_option maxRecDepth 100000
open Go.RowKit Go.Proofs.YtdmglajfmfjmlaaGreatW.PrintWords Go.Proofs.YtdmglajfmfjmlaaGreatW.PrintLast
theorem bvN_digit {xs : List Nat} (h : Bin xs) (j : Nat) : gd xs j = bvN xs / 2 ^ j % 2 := by
  induction xs generalizing j with
  | nil => rw [gd_ge (by simp)]; simp [bvN]
  | cons x xs ih =>
    have hx := h x (by simp)
    cases j with
    | zero => simp [gd, bvN]; omega
    | succ j =>
      have := ih h.tail j
      rw [show gd (x :: xs) (j + 1) = gd xs j by simp [gd], this, Nat.pow_succ, Nat.mul_comm, ← Nat.div_div_eq_div_mul]
      congr 2
      simp only [bvN]; omega
set_option maxHeartbeats 400000 in
theorem at_any (w : World) {A : Option Addr} {n c : Nat} {xs : List Nat} (h : Rd .i64 w A n c xs) (i : Nat) (hi : i ≤ 4611686018427387904) :
    Calls Tryz.prog 177 #[.slice A n c, .int .i64 i] w fun e w' => e = .returned (.int .i64 ((gd xs i : Nat) : Int)) ∧ w = w' := by
  by_cases hlt : i < n
  · obtain ⟨ad, rfl, hb, hc⟩ := h.form (by omega)
    have hx := hc i hlt
    have hm := h.max
    have hcap := h.cap
    clear hc h
    go_enter Tryz.func177, Tryz.ntmps177
    go_wp2
    go_ret
    exact ⟨rfl, rfl⟩
  · have H := Lib.hid (show gd xs i = 0 from gd_ge (by rw [h.len]; omega))
    have hm := h.max
    have hcap := h.cap
    clear h
    go_enter Tryz.func177, Tryz.ntmps177
    go_wp2
    go_ret
    exact ⟨by rw [H.out]; rfl, rfl⟩
set_option maxHeartbeats 400000 in
theorem less_any (w : World) {A B : Option Addr} {n c m d : Nat} {xs ys : List Nat} (hx : Rd .i64 w A n c xs) (hy : Rd .i64 w B m d ys) (bx : Bin xs) (by' : Bin ys) (hn : n ≤ 1073741824) (hm : m ≤ 1073741824) :
    Calls Tryz.prog 135 #[.slice A n c, .slice B m d] w fun e w' => e = .returned (.bool (decide (bvN xs < bvN ys))) ∧ w = w' := by
  have hlx := bvN_lt bx
  have hly := bvN_lt by'
  rw [hx.len] at hlx
  rw [hy.len] at hly
  have HX := Lib.hid hx
  have HY := Lib.hid hy
  have BX := Lib.hid bx
  have BY := Lib.hid by'
  by_cases hnm : n < m
  · have hal : bvN xs / 2 ^ m = bvN ys / 2 ^ m := by
      rw [Nat.div_eq_of_lt hly, Nat.div_eq_of_lt (Nat.lt_of_lt_of_le hlx (Nat.pow_le_pow_right (by omega) (by omega)))]
    have hd : decide ((n : Int) < m) = true := by simp; omega
    clear hx hy bx by' hlx hly
    go_enter Tryz.func135, Tryz.ntmps135
    go_wp2
    go_loop [6] (fun i => ∃ k : Nat, k ≤ 1073741824 ∧ bvN xs / 2 ^ k = bvN ys / 2 ^ k ∧ i = .int .i64 ((k : Int) - 1)) (fun i => (intOf i + 1).toNat)
    case atStart => exact ⟨_, by omega, hal, rfl⟩
    case round =>
      obtain ⟨k, hk, hal', rfl⟩ := hrel
      by_cases hk0 : k = 0
      · subst hk0
        have HF := Lib.hid (show (false : Bool) = decide (bvN xs < bvN ys) by simp at hal'; simp [hal'])
        clear hal'
        go_wp2
        go_ret
        exact ⟨by rw [← HF.out]; rfl, rfl⟩
      · obtain ⟨k, rfl⟩ : ∃ j, k = j + 1 := ⟨k - 1, by omega⟩
        have ek : ((k + 1 : Nat) : Int) - 1 = (k : Int) := by omega
        rw [ek]
        have HA := Lib.hid hal'
        have gx := bvN_digit BX.out k
        have gy := bvN_digit BY.out k
        have dx := div_next (bvN xs) k
        have dy := div_next (bvN ys) k
        rw [HA.out] at dx
        clear hal' ek hk0
        rcases Nat.lt_trichotomy (gd xs k) (gd ys k) with ht | ht | ht
        · have HF := Lib.hid (show (true : Bool) = decide (bvN xs < bvN ys) by
            have h : bvN xs / 2 ^ k < bvN ys / 2 ^ k := by omega
            have h2 := Nat.lt_of_div_lt_div h
            simp [h2])
          have Ht : ((gd xs k : Nat) : Int) < ((gd ys k : Nat) : Int) := by omega
          have Hn : (((gd xs k : Nat) : Int) != ((gd ys k : Nat) : Int)) = true := by simp; omega
          clear ht gx gy dx dy
          go_wp2_with fail
          refine (at_any w HX.out k (by omega)).mono ?_
          rintro e w' ⟨rfl, rfl⟩
          go_wp2_with fail
          refine (at_any w HY.out k (by omega)).mono ?_
          rintro e w' ⟨rfl, rfl⟩
          go_wp2_with fail
          refine (at_any w HX.out k (by omega)).mono ?_
          rintro e w' ⟨rfl, rfl⟩
          go_wp2_with fail
          refine (at_any w HY.out k (by omega)).mono ?_
          rintro e w' ⟨rfl, rfl⟩
          go_wp2_with fail
          go_ret
          exact ⟨by rw [← HF.out]; rfl, rfl⟩
        · have HN := Lib.hid (show bvN xs / 2 ^ k = bvN ys / 2 ^ k by omega)
          clear gx gy dx dy
          go_wp2_with fail
          refine (at_any w HX.out k (by omega)).mono ?_
          rintro e w' ⟨rfl, rfl⟩
          go_wp2_with fail
          refine (at_any w HY.out k (by omega)).mono ?_
          rintro e w' ⟨rfl, rfl⟩
          clear ht
          go_wp2_with fail
          refine ⟨⟨k, by omega, HN.out, rfl⟩, by simp [intOf]⟩
        · have HF := Lib.hid (show (false : Bool) = decide (bvN xs < bvN ys) by
            have h : bvN ys / 2 ^ k < bvN xs / 2 ^ k := by omega
            have h2 := Nat.lt_of_div_lt_div h
            simp; omega)
          have Hd : decide (((gd xs k : Nat) : Int) < ((gd ys k : Nat) : Int)) = false := by simp only [decide_eq_false_iff_not]; omega
          have Hn : (((gd xs k : Nat) : Int) != ((gd ys k : Nat) : Int)) = true := by simp; omega
          have Hd2 : decide (gd xs k < gd ys k) = false := by simp only [decide_eq_false_iff_not]; omega
          clear ht gx gy dx dy
          go_wp2_with fail
          refine (at_any w HX.out k (by omega)).mono ?_
          rintro e w' ⟨rfl, rfl⟩
          go_wp2_with fail
          refine (at_any w HY.out k (by omega)).mono ?_
          rintro e w' ⟨rfl, rfl⟩
          go_wp2_with fail
          refine (at_any w HX.out k (by omega)).mono ?_
          rintro e w' ⟨rfl, rfl⟩
          go_wp2_with fail
          refine (at_any w HY.out k (by omega)).mono ?_
          rintro e w' ⟨rfl, rfl⟩
          go_wp2_with fail
          go_ret
          exact ⟨by rw [← HF.out]; rfl, rfl⟩
  · have hal : bvN xs / 2 ^ n = bvN ys / 2 ^ n := by
      rw [Nat.div_eq_of_lt hlx, Nat.div_eq_of_lt (Nat.lt_of_lt_of_le hly (Nat.pow_le_pow_right (by omega) (by omega)))]
    have hd : decide ((n : Int) < m) = false := by simp; omega
    clear hx hy bx by' hlx hly
    go_enter Tryz.func135, Tryz.ntmps135
    go_wp2
    go_loop [6] (fun i => ∃ k : Nat, k ≤ 1073741824 ∧ bvN xs / 2 ^ k = bvN ys / 2 ^ k ∧ i = .int .i64 ((k : Int) - 1)) (fun i => (intOf i + 1).toNat)
    case atStart => exact ⟨_, by omega, hal, rfl⟩
    case round =>
      obtain ⟨k, hk, hal', rfl⟩ := hrel
      by_cases hk0 : k = 0
      · subst hk0
        have HF := Lib.hid (show (false : Bool) = decide (bvN xs < bvN ys) by simp at hal'; simp [hal'])
        clear hal'
        go_wp2
        go_ret
        exact ⟨by rw [← HF.out]; rfl, rfl⟩
      · obtain ⟨k, rfl⟩ : ∃ j, k = j + 1 := ⟨k - 1, by omega⟩
        have ek : ((k + 1 : Nat) : Int) - 1 = (k : Int) := by omega
        rw [ek]
        have HA := Lib.hid hal'
        have gx := bvN_digit BX.out k
        have gy := bvN_digit BY.out k
        have dx := div_next (bvN xs) k
        have dy := div_next (bvN ys) k
        rw [HA.out] at dx
        clear hal' ek hk0
        rcases Nat.lt_trichotomy (gd xs k) (gd ys k) with ht | ht | ht
        · have HF := Lib.hid (show (true : Bool) = decide (bvN xs < bvN ys) by
            have h : bvN xs / 2 ^ k < bvN ys / 2 ^ k := by omega
            have h2 := Nat.lt_of_div_lt_div h
            simp [h2])
          have Ht : ((gd xs k : Nat) : Int) < ((gd ys k : Nat) : Int) := by omega
          have Hn : (((gd xs k : Nat) : Int) != ((gd ys k : Nat) : Int)) = true := by simp; omega
          clear ht gx gy dx dy
          go_wp2_with fail
          refine (at_any w HX.out k (by omega)).mono ?_
          rintro e w' ⟨rfl, rfl⟩
          go_wp2_with fail
          refine (at_any w HY.out k (by omega)).mono ?_
          rintro e w' ⟨rfl, rfl⟩
          go_wp2_with fail
          refine (at_any w HX.out k (by omega)).mono ?_
          rintro e w' ⟨rfl, rfl⟩
          go_wp2_with fail
          refine (at_any w HY.out k (by omega)).mono ?_
          rintro e w' ⟨rfl, rfl⟩
          go_wp2_with fail
          go_ret
          exact ⟨by rw [← HF.out]; rfl, rfl⟩
        · have HN := Lib.hid (show bvN xs / 2 ^ k = bvN ys / 2 ^ k by omega)
          clear gx gy dx dy
          go_wp2_with fail
          refine (at_any w HX.out k (by omega)).mono ?_
          rintro e w' ⟨rfl, rfl⟩
          go_wp2_with fail
          refine (at_any w HY.out k (by omega)).mono ?_
          rintro e w' ⟨rfl, rfl⟩
          clear ht
          go_wp2_with fail
          refine ⟨⟨k, by omega, HN.out, rfl⟩, by simp [intOf]⟩
        · have HF := Lib.hid (show (false : Bool) = decide (bvN xs < bvN ys) by
            have h : bvN ys / 2 ^ k < bvN xs / 2 ^ k := by omega
            have h2 := Nat.lt_of_div_lt_div h
            simp; omega)
          have Hd : decide (((gd xs k : Nat) : Int) < ((gd ys k : Nat) : Int)) = false := by simp only [decide_eq_false_iff_not]; omega
          have Hn : (((gd xs k : Nat) : Int) != ((gd ys k : Nat) : Int)) = true := by simp; omega
          have Hd2 : decide (gd xs k < gd ys k) = false := by simp only [decide_eq_false_iff_not]; omega
          clear ht gx gy dx dy
          go_wp2_with fail
          refine (at_any w HX.out k (by omega)).mono ?_
          rintro e w' ⟨rfl, rfl⟩
          go_wp2_with fail
          refine (at_any w HY.out k (by omega)).mono ?_
          rintro e w' ⟨rfl, rfl⟩
          go_wp2_with fail
          refine (at_any w HX.out k (by omega)).mono ?_
          rintro e w' ⟨rfl, rfl⟩
          go_wp2_with fail
          refine (at_any w HY.out k (by omega)).mono ?_
          rintro e w' ⟨rfl, rfl⟩
          go_wp2_with fail
          go_ret
          exact ⟨by rw [← HF.out]; rfl, rfl⟩
theorem less_giv {A0 A1 : Option Addr} {c0 c1 : Nat} {l0 l1 : List Int} {w : World} {r : Bool} (hr0 : Kd.C (Kd.int .i64) w A0 l0.length l0) (hc0 : l0.length ≤ c0) (hr1 : Kd.C (Kd.int .i64) w A1 l1.length l1) (hc1 : l1.length ≤ c1) (h : (if binI 1073741824 l0 ∧ binI 1073741824 l1 then some (decide (bz l0 < bz l1)) else none) = some r) :
    Calls Tryz.prog 135 #[.slice A0 l0.length c0, .slice A1 l1.length c1] w fun e w' => e = .returned (.bool r) ∧ Drawn0 w w' := by
  obtain ⟨⟨h0, h1⟩, rfl⟩ := of_ite h
  refine (less_any w (rd_of_C' hr0 hc0 fun x hx => by have := h0.2 x hx; omega) (rd_of_C' hr1 hc1 fun x hx => by have := h1.2 x hx; omega) h0.bin h1.bin h0.1 h1.1).mono ?_
  rintro e w' ⟨rfl, rfl⟩
  exact ⟨rfl, Drawn0.refl _⟩
end Go.Proofs.YtdmglajfmfjmlaaGreat
namespace Go.Proofs.YtdmglajfmfjmlaaGreat.Cn
open Go.RowKit Go.Proofs.YtdmglajfmfjmlaaGreatW.PrintWords Go.Proofs.YtdmglajfmfjmlaaGreatW.PrintLast Go.Proofs.YtdmglajfmfjmlaaGreatW.PrintMore
attribute [local go_sem] max2_int min2_int max_two min_two max_three min_three max_four min_four   -- for this text's walks alone
set_option linter.unusedVariables false
set_option linter.unusedSimpArgs false
theorem info3 : (Tryz.prog.info? 3).map (fun i => (i.zero, i.size, i.bytes)) = some (some (.int .i64 0), 1, 8) := by kernel_rfl
end Go.Proofs.YtdmglajfmfjmlaaGreat.Cn
namespace Go.Proofs.YtdmglajfmfjmlaaGreat.Cn
open Go.RowKit Go.Proofs.YtdmglajfmfjmlaaGreatW.PrintWords Go.Proofs.YtdmglajfmfjmlaaGreatW.PrintLast Go.Proofs.YtdmglajfmfjmlaaGreatW.PrintMore
attribute [local go_sem] max2_int min2_int max_two min_two max_three min_three max_four min_four   -- for this text's walks alone
set_option linter.unusedVariables false
set_option linter.unusedSimpArgs false
def clepsydraref01_cut.l0 : Nat → List Int → Int → Option (List Int)
 | 0, _, _ => none
 | k + 1, x0, x3 => if x3 > 0 then (if 0 ≤ (wrap64 (x3 - 1)) then (if (wrap64 (x3 - 1)) < (x0.length : Int) then (if (rd x0 (wrap64 (x3 - 1))) = 0 then (clepsydraref01_cut.l0 k x0 (wrap64 (x3 - 1))) else (if 0 ≤ x3 then (if x3 ≤ (x0.length : Int) then (some (x0.take (x3 : Int).toNat)) else (none)) else (none))) else (none)) else (none)) else (if 0 ≤ x3 then (if x3 ≤ (x0.length : Int) then (some (x0.take (x3 : Int).toNat)) else (none)) else (none))
def clepsydraref01_cut.f (k : Nat) (l0 : List Int) : Option (List Int) := clepsydraref01_cut.l0 k l0 (l0.length : Int)
set_option maxHeartbeats 8000000 in
set_option maxRecDepth 100000 in
theorem clepsydraref01_cut.calls (k : Nat) (P0_ : Nat → Prop) (u9000_ : Value) (l0 : List Int) (r : List Int) (w0 w : World) (hB : Below w0.heap.size w0 w) (ho0 : Kd.R (Kd.int .i64) 3 w w0.heap.size P0_ u9000_ l0) (h : clepsydraref01_cut.f k l0 = some r) :
  Calls Tryz.prog 176 #[u9000_] w fun e w' => ∃ v0_ : Value, e = .returned (v0_) ∧ Kd.R (Kd.int .i64) 3 w' w0.heap.size (fun k_ => (P0_ k_ ∨ w.heap.size ≤ k_)) v0_ r ∧ Below w0.heap.size w0 w' ∧ Kept w w' (fun k_ => P0_ k_) := by
 have HO0 := Aside0.mk (show Kd.R (Kd.int .i64) 3 w w0.heap.size (fun k_ => (P0_ k_ ∨ w.heap.size ≤ k_)) u9000_ l0 from Kd.R_mono ho0 (fun k_ hk => (.inl hk)))
 have HK := Aside0.mk (Kept.refl w (fun k_ => P0_ k_))
 have HW0 := Aside0.mk hB.size
 have HB := Aside0.mk hB
 clear hB
 have H : (clepsydraref01_cut.l0 k l0 (l0.length : Int)) = some r := h
 clear h
 have H' := Aside0.mk H
 clear H
 obtain ⟨Ao2, co2, eo2⟩ := Kd.R_slice HO0.out
 subst eo2
 go_enter Tryz.func176, Tryz.ntmps176
 go_wp2
 go_loopg [3] k (fun kq v3 w' => ∃ (x3_1 : Int), v3 = .int .i64 x3_1 ∧ Aside0 (clepsydraref01_cut.l0 kq l0 x3_1 = some r) ∧ Aside0 (kq ≤ k) ∧ Aside0 (Kd.R (Kd.int .i64) 3 w' w0.heap.size (fun k_ => (P0_ k_ ∨ w.heap.size ≤ k_)) (.slice Ao2 l0.length co2) l0) ∧ Aside0 (Kept w w' (fun k_ => P0_ k_)) ∧ Aside0 (Below w0.heap.size w0 w'))
 case atStart => exact ⟨((l0.length : Int)), (by rfl), H', ⟨Nat.le_refl _⟩, ⟨by exact HO0.out⟩, ⟨HK.out⟩, ⟨HB.out⟩⟩
 case round =>
  clear H'
  try clear c1
  try clear p2
  obtain ⟨x3_1, rfl, HA, HK1, HO_0, HK, HB⟩ := hrel
  cases gk with
  | zero => exact absurd HA.out (by simp [clepsydraref01_cut.l0])
  | succ k1 =>
   have H := HA.out
   clear HA
   simp only [clepsydraref01_cut.l0] at H
   by_cases c3 : x3_1 > 0
   ·rw [if_pos c3] at H
    have c3b0 : decide (0 < x3_1) = true := decide_eq_true c3
    clear c3
    obtain ⟨ji4, hji4⟩ : ∃ j_ : Int, (wrap64 (x3_1 - 1)) = j_ := ⟨_, rfl⟩
    rw [hji4] at H
    have hji4w : (IntKind.i64.wrap (x3_1 - 1)) = ji4 := (i64_w _).trans hji4
    by_cases c5 : 0 ≤ (ji4)
    ·rw [if_pos c5] at H
     have c5b0 : decide (0 ≤ (ji4)) = true := decide_eq_true c5
     clear c5
     by_cases c6 : (ji4) < (l0.length : Int)
     ·rw [if_pos c6] at H
      have c6b0 : decide ((ji4) < (l0.length : Int)) = true := decide_eq_true c6
      clear c6
      by_cases c7 : (rd l0 (ji4)) = 0
      ·rw [if_pos c7] at H
       have c7b0 : ((rd l0 (ji4)) == 0) = true := beq_iff_eq.mpr c7
       have c7b1 : ((rd l0 (ji4)) != 0) = false := bne_eq_false_iff_eq.mpr c7
       clear c7
       have H' := Aside0.mk H
       clear H
       have p101 : 0 ≤ ((ji4) : Int) := of_decide_eq_true (by (with_reducible assumption))
       have q101 : (ji4) < (l0.length : Int) := of_decide_eq_true (by (with_reducible assumption))
       obtain ⟨ad101, e101, hx101_0⟩ := Kd.at_int (Kd.R_reads' HO_0.out).2.2 (ji4) p101 q101
       cases e101
       replace p101 := eq_true p101
       replace q101 := eq_true q101
       go_wp2
       go_roundg k1
       case measure => have := HK1.out; omega
       case rel => exact ⟨(ji4), (by rfl), H', ⟨by have := HK1.out; omega⟩, ⟨by exact HO_0.out⟩, ⟨HK.out⟩, ⟨HB.out⟩⟩
      ·rw [if_neg c7] at H
       have c7b0 : ((rd l0 (ji4)) == 0) = false := beq_eq_false_iff_ne.mpr c7
       have c7b1 : ((rd l0 (ji4)) != 0) = true := bne_iff_ne.mpr c7
       by_cases c8 : 0 ≤ x3_1
       ·rw [if_pos c8] at H
        have c8b0 := eq_true c8
        have c8b1 : decide (0 ≤ x3_1) = true := decide_eq_true c8
        clear c8
        by_cases c9 : x3_1 ≤ (l0.length : Int)
        ·rw [if_pos c9] at H
         have c9b0 := eq_true c9
         have c9b1 : decide (x3_1 ≤ (l0.length : Int)) = true := decide_eq_true c9
         clear c9
         obtain ⟨y102, hy102⟩ : ∃ y_ : List Int, y_ = (l0.take (x3_1 : Int).toNat) := ⟨_, rfl⟩
         rw [← hy102] at H
         have Ny102 := Aside0.mk hy102
         clear hy102
         obtain rfl := Option.some.inj H
         simp only [Option.some.injEq, Prod.mk.injEq] at H
         obtain ⟨rfl⟩ := H
         have p101 : 0 ≤ ((ji4) : Int) := of_decide_eq_true (by (with_reducible assumption))
         have q101 : (ji4) < (l0.length : Int) := of_decide_eq_true (by (with_reducible assumption))
         obtain ⟨ad101, e101, hx101_0⟩ := Kd.at_int (Kd.R_reads' HO_0.out).2.2 (ji4) p101 q101
         cases e101
         replace p101 := eq_true p101
         replace q101 := eq_true q101
         have q10 : (x3_1 : Int) ≤ ((l0.length : Int) : Int) := of_decide_eq_true (by (with_reducible assumption))
         obtain ⟨i010, hi010, _, hsz10, _⟩ := info_parts info3
         have hcut10 := cut_to (P := Tryz.prog) 120 3 .i64 Tryz.underlying120 hi010 (some ad101) l0.length co2 x3_1 (of_decide_eq_true (by (with_reducible assumption))) q10 (Kd.R_reads' HO_0.out).2.1
         have hr10 := Kd.R_take (m := (x3_1 : Int).toNat) HO_0.out (by omega)
         have hy10 : y102.length = (x3_1 : Int).toNat := (by rw [Ny102.out, List.length_take]; omega)
         rw [← Ny102.out] at hr10
         rw [← hy10] at hr10 hcut10
         clear hy10 hi010 hsz10 HO_0
         have HO104 := Aside0.mk hr10
         clear hr10
         replace q10 := eq_true q10
         go_wp2
         go_ret
         exact ⟨_, by rfl, by exact HO104.out, HB.out, HK.out⟩
        ·rw [if_neg c9] at H
         exact absurd H (by simp)
       ·rw [if_neg c8] at H
        exact absurd H (by simp)
     ·rw [if_neg c6] at H
      exact absurd H (by simp)
    ·rw [if_neg c5] at H
     exact absurd H (by simp)
   ·rw [if_neg c3] at H
    have c3b0 : decide (0 < x3_1) = false := decide_eq_false c3
    clear c3
    by_cases c11 : 0 ≤ x3_1
    ·rw [if_pos c11] at H
     have c11b0 := eq_true c11
     have c11b1 : decide (0 ≤ x3_1) = true := decide_eq_true c11
     clear c11
     by_cases c12 : x3_1 ≤ (l0.length : Int)
     ·rw [if_pos c12] at H
      have c12b0 := eq_true c12
      have c12b1 : decide (x3_1 ≤ (l0.length : Int)) = true := decide_eq_true c12
      clear c12
      obtain ⟨y105, hy105⟩ : ∃ y_ : List Int, y_ = (l0.take (x3_1 : Int).toNat) := ⟨_, rfl⟩
      rw [← hy105] at H
      have Ny105 := Aside0.mk hy105
      clear hy105
      obtain rfl := Option.some.inj H
      simp only [Option.some.injEq, Prod.mk.injEq] at H
      obtain ⟨rfl⟩ := H
      have q13 : (x3_1 : Int) ≤ ((l0.length : Int) : Int) := of_decide_eq_true (by (with_reducible assumption))
      obtain ⟨i013, hi013, _, hsz13, _⟩ := info_parts info3
      have hcut13 := cut_to (P := Tryz.prog) 120 3 .i64 Tryz.underlying120 hi013 Ao2 l0.length co2 x3_1 (of_decide_eq_true (by (with_reducible assumption))) q13 (Kd.R_reads' HO_0.out).2.1
      have hr13 := Kd.R_take (m := (x3_1 : Int).toNat) HO_0.out (by omega)
      have hy13 : y105.length = (x3_1 : Int).toNat := (by rw [Ny105.out, List.length_take]; omega)
      rw [← Ny105.out] at hr13
      rw [← hy13] at hr13 hcut13
      clear hy13 hi013 hsz13 HO_0
      have HO107 := Aside0.mk hr13
      clear hr13
      replace q13 := eq_true q13
      go_wp2
      go_ret
      exact ⟨_, by rfl, by exact HO107.out, HB.out, HK.out⟩
     ·rw [if_neg c12] at H
      exact absurd H (by simp)
    ·rw [if_neg c11] at H
     exact absurd H (by simp)
mutual
def clepsydraref01_digits.l0 : Nat → List Int → List Int → Int → Option (List Int)
 | 0, _, _, _ => none
 | k + 1, x0, x3, x4 => if x4 < (x0.length : Int) then (clepsydraref01_digits.l1 k x0 x3 x4 0) else ((clepsydraref01_cut.f k x3).bind fun t108 => (some t108))
def clepsydraref01_digits.l1 : Nat → List Int → List Int → Int → Int → Option (List Int)
 | 0, _, _, _, _ => none
 | k + 1, x0, x3, x4, x5 => if x5 < 64 then (if 0 ≤ x4 then (if x4 < (x0.length : Int) then (if 0 ≤ (IntKind.u64.wrap (x5)) then (if x3.length < 17592186044416 then (clepsydraref01_digits.l1 k x0 (x3 ++ [wrap64 (Go.bits .and .u64 (shr .u64 (rd x0 x4) (IntKind.u64.wrap (x5))) 1)]) x4 (wrap64 (x5 + 1))) else (none)) else (none)) else (none)) else (none)) else (clepsydraref01_digits.l0 k x0 x3 (wrap64 (x4 + 1)))
end
def clepsydraref01_digits.f (k : Nat) (l0 : List Int) : Option (List Int) := clepsydraref01_digits.l0 k l0 ([] : List Int) 0
set_option maxHeartbeats 8000000 in
set_option maxRecDepth 100000 in
theorem clepsydraref01_digits.calls (k : Nat) (A0 : Option Addr) (c0 : Nat) (l0 : List Int) (r : List Int) (w : World) (hr0 : Kd.C (Kd.int .u64) w A0 l0.length l0) (hc0 : l0.length ≤ c0) (h : clepsydraref01_digits.f k l0 = some r) :
  Calls Tryz.prog 134 #[.slice A0 l0.length c0] w fun e w' => ∃ v0_ : Value, e = .returned (v0_) ∧ Kd.R (Kd.int .i64) 3 w' w.heap.size (fun _ => True) v0_ r ∧ Below w.heap.size w w' := by
 have HR0 := Aside0.mk hr0
 have HC0 := Aside0.mk hc0
 clear hr0 hc0
 have HB := Aside0.mk (Below.refl w.heap.size w)
 have H : (clepsydraref01_digits.l0 k l0 ([] : List Int) 0) = some r := h
 clear h
 have H' := Aside0.mk H
 clear H
 go_enter Tryz.func134, Tryz.ntmps134
 go_wp2
 go_loopg [3, 4] k (fun kq v3 v4 w' => ∃ (x3_1 : List Int) (x4_1 : Int), v4 = .int .i64 x4_1 ∧ Aside0 (clepsydraref01_digits.l0 kq l0 x3_1 x4_1 = some r) ∧ Aside0 (kq ≤ k) ∧ Aside0 (Kd.R (Kd.int .i64) 3 w' w.heap.size (fun _ => True) v3 x3_1) ∧ Aside0 (Below w.heap.size w w'))
 case atStart => exact ⟨(([] : List Int)), (0), (by rfl), H', ⟨Nat.le_refl _⟩, ⟨by (exact Kd.R_nil _ _ _ _ _)⟩, ⟨HB.out⟩⟩
 case round =>
  clear H'
  try clear c1
  obtain ⟨x3_1, x4_1, rfl, HA, HK1, HO_3, HB⟩ := hrel
  cases gk with
  | zero => exact absurd HA.out (by simp [clepsydraref01_digits.l0])
  | succ k1 =>
   have H := HA.out
   clear HA
   simp only [clepsydraref01_digits.l0] at H
   by_cases c2 : x4_1 < (l0.length : Int)
   ·rw [if_pos c2] at H
    have c2b0 : decide (x4_1 < (l0.length : Int)) = true := decide_eq_true c2
    clear c2
    have H' := Aside0.mk H
    clear H
    go_wp2
    go_loopg [3, 5] k1 (fun kq v3 v5 w' => ∃ (x3_2 : List Int) (x5_2 : Int), v5 = .int .i64 x5_2 ∧ Aside0 (clepsydraref01_digits.l1 kq l0 x3_2 x4_1 x5_2 = some r) ∧ Aside0 (kq ≤ k1) ∧ Aside0 (Kd.R (Kd.int .i64) 3 w' w.heap.size (fun _ => True) v3 x3_2) ∧ Aside0 (Below w.heap.size w w'))
    case atStart => exact ⟨(x3_1), (0), (by rfl), H', ⟨Nat.le_refl _⟩, ⟨by exact HO_3.out⟩, ⟨HB.out⟩⟩
    case round =>
     clear H'
     try clear c1
     try clear c2
     try clear c2b0
     try clear p2
     obtain ⟨x3_2, x5_2, rfl, HA, HK2, HO_3, HB⟩ := hrel
     cases gk with
     | zero => exact absurd HA.out (by simp [clepsydraref01_digits.l1])
     | succ k2 =>
      have H := HA.out
      clear HA
      simp only [clepsydraref01_digits.l1] at H
      by_cases c3 : x5_2 < 64
      ·rw [if_pos c3] at H
       have c3b0 : decide (x5_2 < 64) = true := decide_eq_true c3
       clear c3
       by_cases c4 : 0 ≤ x4_1
       ·rw [if_pos c4] at H
        have c4b0 : decide (0 ≤ x4_1) = true := decide_eq_true c4
        clear c4
        by_cases c5 : x4_1 < (l0.length : Int)
        ·rw [if_pos c5] at H
         have c5b0 : decide (x4_1 < (l0.length : Int)) = true := decide_eq_true c5
         clear c5
         obtain ⟨ji6, hji6⟩ : ∃ j_ : Int, (IntKind.u64.wrap (x5_2)) = j_ := ⟨_, rfl⟩
         rw [hji6] at H
         by_cases c7 : 0 ≤ (ji6)
         ·rw [if_pos c7] at H
          have c7b0 := eq_true c7
          have c7b1 : decide (0 ≤ (ji6)) = true := decide_eq_true c7
          clear c7
          obtain ⟨ji8, hji8⟩ : ∃ j_ : Int, (shr .u64 (rd l0 x4_1) (ji6)) = j_ := ⟨_, rfl⟩
          rw [hji8] at H
          have hji8_ : ((rd l0 x4_1) / 2 ^ min (ji6).toNat 64) = ji8 := hji8
          have hji8z : (ji6) ≤ 64 → ((rd l0 x4_1) / 2 ^ (ji6).toNat) = ji8 := shr_small hji8
          by_cases c9 : x3_2.length < 17592186044416
          ·rw [if_pos c9] at H
           have LMc9 := Aside0.mk c9
           clear c9
           obtain ⟨y112, hy112⟩ : ∃ y_ : List Int, y_ = (x3_2 ++ [wrap64 (Go.bits .and .u64 (ji8) 1)]) := ⟨_, rfl⟩
           rw [← hy112] at H
           have Ny112 := Aside0.mk hy112
           clear hy112
           have H' := Aside0.mk H
           clear H
           have p111 : 0 ≤ (x4_1 : Int) := of_decide_eq_true (by (with_reducible assumption))
           have q111 : x4_1 < (l0.length : Int) := of_decide_eq_true (by (with_reducible assumption))
           obtain ⟨ad111, e111, hx111_0⟩ := Kd.at_int HR0.out x4_1 p111 q111
           cases e111
           replace hx111_0 := (HB.out.cell (World.block_lt_of_cell? w _ hx111_0)).trans hx111_0
           replace p111 := eq_true p111
           replace q111 := eq_true q111
           go_wp2_with ((((with_reducible refine gate_builtin (b := .append) (xs := #[.tmp 16, .tmp 26]) rfl ?_); at_builtin; refine Kd.R_append (Kd.int .i64) (w0 := w) w.heap.size rfl (.tmp 16) (.tmp 26) 120 3 (.int .i64 0) 8 rfl Tryz.underlying120 info3 rfl (by decide) (by omega) u3 x3_2 (wrap64 (Go.bits .and .u64 (ji8) 1)) [.int .i64 (wrap64 (Go.bits .and .u64 (ji8) 1))] (fun _ => True) (fun _ => False) rfl rfl ?aP (fun _ hk => hk.elim) ?aF ?aO ?aB ?aS ?aL ?_; (case aP => exact rfl); (case aB => exact HB.out); (case aF => exact (fun _ _ => trivial)); (case aO => exact HO_3.out); (case aS => exact (below_size HB.out)); (case aL => have := LMc9.out; omega); intro v113 w10 ho hb hg hat; rw [← Ny112.out] at ho; replace HB := Aside0.mk (hb); have HO114 := Aside0.mk (ho); clear HO_3; clear ho hb hg hat)))
           go_roundg k2
           case measure => have := HK1.out; have := HK2.out; omega
           case rel => exact ⟨(y112), (wrap64 (x5_2 + 1)), (by rfl), H', ⟨by have := HK1.out; have := HK2.out; omega⟩, ⟨by exact HO114.out⟩, ⟨HB.out⟩⟩
          ·rw [if_neg c9] at H
           exact absurd H (by simp)
         ·rw [if_neg c7] at H
          exact absurd H (by simp)
        ·rw [if_neg c5] at H
         exact absurd H (by simp)
       ·rw [if_neg c4] at H
        exact absurd H (by simp)
      ·rw [if_neg c3] at H
       have c3b0 : decide (x5_2 < 64) = false := decide_eq_false c3
       clear c3
       have H' := Aside0.mk H
       clear H
       go_wp2
       go_roundg k2
       case measure => have := HK1.out; have := HK2.out; omega
       case rel => exact ⟨(x3_2), (wrap64 (x4_1 + 1)), (by rfl), H', ⟨by have := HK1.out; have := HK2.out; omega⟩, ⟨by exact HO_3.out⟩, ⟨HB.out⟩⟩
   ·rw [if_neg c2] at H
    have c2b0 : decide (x4_1 < (l0.length : Int)) = false := decide_eq_false c2
    clear c2
    replace H := Option.bind_eq_some_iff.mp H
    obtain ⟨t108, A110, H⟩ := H
    try dsimp only at H
    have A11 := Aside0.mk A110
    clear A110
    obtain rfl := Option.some.inj H
    simp only [Option.some.injEq, Prod.mk.injEq] at H
    obtain ⟨rfl⟩ := H
    obtain ⟨Ao12, co12, eo12⟩ := Kd.R_slice HO_3.out
    subst eo12
    go_wp2_with ((((with_reducible refine gate_callee (f := 176) rfl ?_); refine goesL_ (some 29) rfl rfl Tryz.func176 (by kernel_rfl) rfl #[.slice Ao12 x3_1.length co12] rfl (by (try simp only [List.map_toArray, List.map_cons, List.map_nil]); rfl) ?_; (with_reducible refine (clepsydraref01_cut.calls k1 (fun k_ => some k_ = (.slice Ao12 x3_1.length co12 : Value).ownBlock) (.slice Ao12 x3_1.length co12) x3_1 t108 w _ ?side1 ?side2 A11.out).mono ?_); (case side1 => exact HB.out); (case side2 => exact Kd.R_tight rfl HO_3.out); rintro e w13 ⟨v109, rfl, ho0, hb, hkp⟩; refine ⟨_, rfl, ?_⟩; have HO110 := Aside0.mk (Kd.R_mono (ok' := fun k_ => True) ho0 (fun k_ hk_ => trivial)); replace HB := Aside0.mk (hb); clear HO_3; clear hb hkp ho0)))
    go_ret
    exact ⟨_, by rfl, by exact HO110.out, HB.out⟩
def clepsydraref01_number.f (l0 : List Int) : Option (List Int) := if binI 1073741824 l0 then some (ofN (bvN (toN l0))) else none
theorem clepsydraref01_number.calls (A0 : Option Addr) (c0 : Nat) (l0 : List Int) (r : List Int) (w : World) (hr0 : Kd.C (Kd.int .i64) w A0 l0.length l0) (hc0 : l0.length ≤ c0) (h : clepsydraref01_number.f l0 = some r) :
  Calls Tryz.prog 147 #[.slice A0 l0.length c0] w fun e w' => ∃ v0_ : Value, e = .returned (v0_) ∧ Kd.R (Kd.int .u64) 23 w' w.heap.size (fun _ => True) v0_ r ∧ Below w.heap.size w w' := by
 exact number_giv hr0 hc0 h
def clepsydraref01_Trim.f (k : Nat) (l0 : List Int) : Option (List Int) := (clepsydraref01_digits.f k l0).bind fun t115 => ((clepsydraref01_number.f t115).bind fun t118 => (some t118))
set_option maxHeartbeats 8000000 in
set_option maxRecDepth 100000 in
theorem clepsydraref01_Trim.calls (k : Nat) (A0 : Option Addr) (c0 : Nat) (l0 : List Int) (r : List Int) (w : World) (hr0 : Kd.C (Kd.int .u64) w A0 l0.length l0) (hc0 : l0.length ≤ c0) (h : clepsydraref01_Trim.f k l0 = some r) :
  Calls Tryz.prog 185 #[.slice A0 l0.length c0] w fun e w' => ∃ v0_ : Value, e = .returned (v0_) ∧ Kd.R (Kd.int .u64) 23 w' w.heap.size (fun _ => True) v0_ r ∧ Below w.heap.size w w' := by
 have HR0 := Aside0.mk hr0
 have HC0 := Aside0.mk hc0
 clear hr0 hc0
 have HB := Aside0.mk (Below.refl w.heap.size w)
 have H : ((clepsydraref01_digits.f k l0).bind fun t115 => ((clepsydraref01_number.f t115).bind fun t118 => (some t118))) = some r := h
 clear h
 replace H := Option.bind_eq_some_iff.mp H
 obtain ⟨t115, A20, H⟩ := H
 try dsimp only at H
 have A2 := Aside0.mk A20
 clear A20
 replace H := Option.bind_eq_some_iff.mp H
 obtain ⟨t118, A30, H⟩ := H
 try dsimp only at H
 have A3 := Aside0.mk A30
 clear A30
 obtain rfl := Option.some.inj H
 simp only [Option.some.injEq, Prod.mk.injEq] at H
 obtain ⟨rfl⟩ := H
 go_enter Tryz.func185, Tryz.ntmps185
 go_wp2_with (first | ((with_reducible refine gate_callee (f := 134) rfl ?_); refine goesL_ (some 4) rfl rfl Tryz.func134 (by kernel_rfl) rfl #[.slice A0 l0.length c0] rfl (by (try simp only [List.map_toArray, List.map_cons, List.map_nil]); rfl) ?_; (with_reducible refine (clepsydraref01_digits.calls k _ _ l0 t115 _ ?side1 ?side2 A2.out).mono ?_); (case side1 => exact HR0.out); (case side2 => exact HC0.out); rintro e w4 ⟨v116, rfl, ho0, hb⟩; refine ⟨_, rfl, ?_⟩; have HO117 := Aside0.mk (Kd.R_lower ho0 (below_size HB.out)); replace HB := Aside0.mk (below_step HB.out hb); clear hb ho0; obtain ⟨Ao5, co5, eo5⟩ := Kd.R_slice HO117.out; subst eo5) | ((with_reducible refine gate_callee (f := 147) rfl ?_); refine goesL_ (some 5) rfl rfl Tryz.func147 (by kernel_rfl) rfl #[.slice Ao5 t115.length co5] rfl (by (try simp only [List.map_toArray, List.map_cons, List.map_nil]); rfl) ?_; (with_reducible refine (clepsydraref01_number.calls _ _ t115 t118 _ ?side1 ?side2 A3.out).mono ?_); (case side1 => exact (Kd.R_reads' HO117.out).2.2); (case side2 => exact (Kd.R_reads' HO117.out).2.1); rintro e w6 ⟨v119, rfl, ho0, hb⟩; refine ⟨_, rfl, ?_⟩; replace HO117 := Aside0.mk (Kd.R_below HO117.out hb); have HO120 := Aside0.mk (Kd.R_lower ho0 (below_size HB.out)); replace HB := Aside0.mk (below_step HB.out hb); clear hb ho0))
 go_ret
 exact ⟨_, by rfl, by exact HO120.out, HB.out⟩
def clepsydraref01_less.f (l0 : List Int) (l1 : List Int) : Option (Bool) := if binI 1073741824 l0 ∧ binI 1073741824 l1 then some (decide (bz l0 < bz l1)) else none
theorem clepsydraref01_less.calls (A0 : Option Addr) (c0 : Nat) (l0 : List Int) (A1 : Option Addr) (c1 : Nat) (l1 : List Int) (r : Bool) (w : World) (hr0 : Kd.C (Kd.int .i64) w A0 l0.length l0) (hc0 : l0.length ≤ c0) (hr1 : Kd.C (Kd.int .i64) w A1 l1.length l1) (hc1 : l1.length ≤ c1) (h : clepsydraref01_less.f l0 l1 = some r) :
  Calls Tryz.prog 135 #[.slice A0 l0.length c0, .slice A1 l1.length c1] w fun e w' => e = .returned (.bool r) ∧ Drawn0 w w' := by
 exact less_giv hr0 hc0 hr1 hc1 h
def clepsydraref01_Cmp.f (k : Nat) (l0 : List Int) (l1 : List Int) : Option (Int) := (clepsydraref01_digits.f k l0).bind fun t121 => ((clepsydraref01_digits.f k l1).bind fun t124 => ((clepsydraref01_less.f t121 t124).bind fun t127 => (if t127 = true then (some (-1)) else ((clepsydraref01_less.f t124 t121).bind fun t128 => (if t128 = true then (some 1) else (some 0))))))
set_option maxHeartbeats 8000000 in
set_option maxRecDepth 100000 in
theorem clepsydraref01_Cmp.calls (k : Nat) (A0 : Option Addr) (c0 : Nat) (l0 : List Int) (A1 : Option Addr) (c1 : Nat) (l1 : List Int) (r : Int) (w : World) (hr0 : Kd.C (Kd.int .u64) w A0 l0.length l0) (hc0 : l0.length ≤ c0) (hr1 : Kd.C (Kd.int .u64) w A1 l1.length l1) (hc1 : l1.length ≤ c1) (h : clepsydraref01_Cmp.f k l0 l1 = some r) :
  Calls Tryz.prog 66 #[.slice A0 l0.length c0, .slice A1 l1.length c1] w fun e w' => e = .returned (.int .i64 r) ∧ Below w.heap.size w w' := by
 have HR0 := Aside0.mk hr0
 have HC0 := Aside0.mk hc0
 clear hr0 hc0
 have HR1 := Aside0.mk hr1
 have HC1 := Aside0.mk hc1
 clear hr1 hc1
 have HB := Aside0.mk (Below.refl w.heap.size w)
 have H : ((clepsydraref01_digits.f k l0).bind fun t121 => ((clepsydraref01_digits.f k l1).bind fun t124 => ((clepsydraref01_less.f t121 t124).bind fun t127 => (if t127 = true then (some (-1)) else ((clepsydraref01_less.f t124 t121).bind fun t128 => (if t128 = true then (some 1) else (some 0))))))) = some r := h
 clear h
 replace H := Option.bind_eq_some_iff.mp H
 obtain ⟨t121, A30, H⟩ := H
 try dsimp only at H
 have A3 := Aside0.mk A30
 clear A30
 replace H := Option.bind_eq_some_iff.mp H
 obtain ⟨t124, A40, H⟩ := H
 try dsimp only at H
 have A4 := Aside0.mk A40
 clear A40
 replace H := Option.bind_eq_some_iff.mp H
 obtain ⟨t127, A50, H⟩ := H
 try dsimp only at H
 have A5 := Aside0.mk A50
 clear A50
 by_cases c6 : t127 = true
 ·subst c6
  rw [if_pos rfl] at H
  obtain rfl := Option.some.inj H
  simp only [Option.some.injEq, Prod.mk.injEq] at H
  obtain ⟨rfl⟩ := H
  go_enter Tryz.func66, Tryz.ntmps66
  go_wp2_with (first | ((with_reducible refine gate_callee (f := 134) rfl ?_); refine goesL_ (some 8) rfl rfl Tryz.func134 (by kernel_rfl) rfl #[.slice A0 l0.length c0] rfl (by (try simp only [List.map_toArray, List.map_cons, List.map_nil]); rfl) ?_; (with_reducible refine (clepsydraref01_digits.calls k _ _ l0 t121 _ ?side1 ?side2 A3.out).mono ?_); (case side1 => exact HR0.out); (case side2 => exact HC0.out); rintro e w7 ⟨v122, rfl, ho0, hb⟩; refine ⟨_, rfl, ?_⟩; have HO123 := Aside0.mk (Kd.R_lower ho0 (below_size HB.out)); replace HB := Aside0.mk (below_step HB.out hb); clear hb ho0) | ((with_reducible refine gate_callee (f := 134) rfl ?_); refine goesL_ (some 10) rfl rfl Tryz.func134 (by kernel_rfl) rfl #[.slice A1 l1.length c1] rfl (by (try simp only [List.map_toArray, List.map_cons, List.map_nil]); rfl) ?_; (with_reducible refine (clepsydraref01_digits.calls k _ _ l1 t124 _ ?side1 ?side2 A4.out).mono ?_); (case side1 => exact (Kd.C_below HR1.out HB.out)); (case side2 => exact HC1.out); rintro e w8 ⟨v125, rfl, ho0, hb⟩; refine ⟨_, rfl, ?_⟩; have HO126 := Aside0.mk (Kd.R_lower (Kd.R_new' ho0 (Kd.R_lt HO123.out)) (below_size HB.out)); replace HO123 := Aside0.mk (Kd.R_elder' HO123.out (Kd.R_base ho0) hb); replace HB := Aside0.mk (below_step HB.out hb); clear hb ho0; obtain ⟨Ao9, co9, eo9⟩ := Kd.R_slice HO123.out; subst eo9; obtain ⟨Ao10, co10, eo10⟩ := Kd.R_slice HO126.out; subst eo10) | ((with_reducible refine gate_callee (f := 135) rfl ?_); refine goesL_ (some 13) rfl rfl Tryz.func135 (by kernel_rfl) rfl #[.slice Ao9 t121.length co9, .slice Ao10 t124.length co10] rfl (by (try simp only [List.map_toArray, List.map_cons, List.map_nil]); rfl) ?_; (with_reducible refine (clepsydraref01_less.calls _ _ t121 _ _ t124 true _ ?side1 ?side2 ?side3 ?side4 A5.out).mono ?_); (case side1 => exact (Kd.R_reads' HO123.out).2.2); (case side2 => exact (Kd.R_reads' HO123.out).2.1); (case side3 => exact (Kd.R_reads' HO126.out).2.2); (case side4 => exact (Kd.R_reads' HO126.out).2.1); rintro e w' ⟨rfl, ⟨nd, rfl⟩⟩; refine ⟨_, rfl, ?_⟩))
  go_ret
  exact ⟨by rfl, by repeat ((with_reducible first | exact HB.out | apply pw_below_drewN))⟩
 ·replace c6 := Bool.eq_false_iff.mpr c6
  subst c6
  rw [if_neg (show ¬ (false = true) by decide)] at H
  replace H := Option.bind_eq_some_iff.mp H
  obtain ⟨t128, A110, H⟩ := H
  try dsimp only at H
  have A11 := Aside0.mk A110
  clear A110
  by_cases c12 : t128 = true
  ·subst c12
   rw [if_pos rfl] at H
   obtain rfl := Option.some.inj H
   simp only [Option.some.injEq, Prod.mk.injEq] at H
   obtain ⟨rfl⟩ := H
   go_enter Tryz.func66, Tryz.ntmps66
   go_wp2_with (first | ((with_reducible refine gate_callee (f := 134) rfl ?_); refine goesL_ (some 8) rfl rfl Tryz.func134 (by kernel_rfl) rfl #[.slice A0 l0.length c0] rfl (by (try simp only [List.map_toArray, List.map_cons, List.map_nil]); rfl) ?_; (with_reducible refine (clepsydraref01_digits.calls k _ _ l0 t121 _ ?side1 ?side2 A3.out).mono ?_); (case side1 => exact HR0.out); (case side2 => exact HC0.out); rintro e w13 ⟨v122, rfl, ho0, hb⟩; refine ⟨_, rfl, ?_⟩; have HO123 := Aside0.mk (Kd.R_lower ho0 (below_size HB.out)); replace HB := Aside0.mk (below_step HB.out hb); clear hb ho0) | ((with_reducible refine gate_callee (f := 134) rfl ?_); refine goesL_ (some 10) rfl rfl Tryz.func134 (by kernel_rfl) rfl #[.slice A1 l1.length c1] rfl (by (try simp only [List.map_toArray, List.map_cons, List.map_nil]); rfl) ?_; (with_reducible refine (clepsydraref01_digits.calls k _ _ l1 t124 _ ?side1 ?side2 A4.out).mono ?_); (case side1 => exact (Kd.C_below HR1.out HB.out)); (case side2 => exact HC1.out); rintro e w14 ⟨v125, rfl, ho0, hb⟩; refine ⟨_, rfl, ?_⟩; have HO126 := Aside0.mk (Kd.R_lower (Kd.R_new' ho0 (Kd.R_lt HO123.out)) (below_size HB.out)); replace HO123 := Aside0.mk (Kd.R_elder' HO123.out (Kd.R_base ho0) hb); replace HB := Aside0.mk (below_step HB.out hb); clear hb ho0; obtain ⟨Ao15, co15, eo15⟩ := Kd.R_slice HO123.out; subst eo15; obtain ⟨Ao16, co16, eo16⟩ := Kd.R_slice HO126.out; subst eo16) | ((with_reducible refine gate_callee (f := 135) rfl ?_); refine goesL_ (some 13) rfl rfl Tryz.func135 (by kernel_rfl) rfl #[.slice Ao15 t121.length co15, .slice Ao16 t124.length co16] rfl (by (try simp only [List.map_toArray, List.map_cons, List.map_nil]); rfl) ?_; (with_reducible refine (clepsydraref01_less.calls _ _ t121 _ _ t124 false _ ?side1 ?side2 ?side3 ?side4 A5.out).mono ?_); (case side1 => exact (Kd.R_reads' HO123.out).2.2); (case side2 => exact (Kd.R_reads' HO123.out).2.1); (case side3 => exact (Kd.R_reads' HO126.out).2.2); (case side4 => exact (Kd.R_reads' HO126.out).2.1); rintro e w' ⟨rfl, ⟨nd, rfl⟩⟩; refine ⟨_, rfl, ?_⟩) | ((with_reducible refine gate_callee (f := 135) rfl ?_); refine goesL_ (some 16) rfl rfl Tryz.func135 (by kernel_rfl) rfl #[.slice Ao16 t124.length co16, .slice Ao15 t121.length co15] rfl (by (try simp only [List.map_toArray, List.map_cons, List.map_nil]); rfl) ?_; (with_reducible refine (clepsydraref01_less.calls _ _ t124 _ _ t121 true _ ?side1 ?side2 ?side3 ?side4 A11.out).mono ?_); (case side1 => exact (Kd.R_reads' HO126.out).2.2); (case side2 => exact (Kd.R_reads' HO126.out).2.1); (case side3 => exact (Kd.R_reads' HO123.out).2.2); (case side4 => exact (Kd.R_reads' HO123.out).2.1); rintro e w' ⟨rfl, ⟨nd, rfl⟩⟩; refine ⟨_, rfl, ?_⟩))
   go_ret
   exact ⟨by rfl, by repeat ((with_reducible first | exact HB.out | apply pw_below_drewN))⟩
  ·replace c12 := Bool.eq_false_iff.mpr c12
   subst c12
   rw [if_neg (show ¬ (false = true) by decide)] at H
   obtain rfl := Option.some.inj H
   simp only [Option.some.injEq, Prod.mk.injEq] at H
   obtain ⟨rfl⟩ := H
   go_enter Tryz.func66, Tryz.ntmps66
   go_wp2_with (first | ((with_reducible refine gate_callee (f := 134) rfl ?_); refine goesL_ (some 8) rfl rfl Tryz.func134 (by kernel_rfl) rfl #[.slice A0 l0.length c0] rfl (by (try simp only [List.map_toArray, List.map_cons, List.map_nil]); rfl) ?_; (with_reducible refine (clepsydraref01_digits.calls k _ _ l0 t121 _ ?side1 ?side2 A3.out).mono ?_); (case side1 => exact HR0.out); (case side2 => exact HC0.out); rintro e w17 ⟨v122, rfl, ho0, hb⟩; refine ⟨_, rfl, ?_⟩; have HO123 := Aside0.mk (Kd.R_lower ho0 (below_size HB.out)); replace HB := Aside0.mk (below_step HB.out hb); clear hb ho0) | ((with_reducible refine gate_callee (f := 134) rfl ?_); refine goesL_ (some 10) rfl rfl Tryz.func134 (by kernel_rfl) rfl #[.slice A1 l1.length c1] rfl (by (try simp only [List.map_toArray, List.map_cons, List.map_nil]); rfl) ?_; (with_reducible refine (clepsydraref01_digits.calls k _ _ l1 t124 _ ?side1 ?side2 A4.out).mono ?_); (case side1 => exact (Kd.C_below HR1.out HB.out)); (case side2 => exact HC1.out); rintro e w18 ⟨v125, rfl, ho0, hb⟩; refine ⟨_, rfl, ?_⟩; have HO126 := Aside0.mk (Kd.R_lower (Kd.R_new' ho0 (Kd.R_lt HO123.out)) (below_size HB.out)); replace HO123 := Aside0.mk (Kd.R_elder' HO123.out (Kd.R_base ho0) hb); replace HB := Aside0.mk (below_step HB.out hb); clear hb ho0; obtain ⟨Ao19, co19, eo19⟩ := Kd.R_slice HO123.out; subst eo19; obtain ⟨Ao20, co20, eo20⟩ := Kd.R_slice HO126.out; subst eo20) | ((with_reducible refine gate_callee (f := 135) rfl ?_); refine goesL_ (some 13) rfl rfl Tryz.func135 (by kernel_rfl) rfl #[.slice Ao19 t121.length co19, .slice Ao20 t124.length co20] rfl (by (try simp only [List.map_toArray, List.map_cons, List.map_nil]); rfl) ?_; (with_reducible refine (clepsydraref01_less.calls _ _ t121 _ _ t124 false _ ?side1 ?side2 ?side3 ?side4 A5.out).mono ?_); (case side1 => exact (Kd.R_reads' HO123.out).2.2); (case side2 => exact (Kd.R_reads' HO123.out).2.1); (case side3 => exact (Kd.R_reads' HO126.out).2.2); (case side4 => exact (Kd.R_reads' HO126.out).2.1); rintro e w' ⟨rfl, ⟨nd, rfl⟩⟩; refine ⟨_, rfl, ?_⟩) | ((with_reducible refine gate_callee (f := 135) rfl ?_); refine goesL_ (some 16) rfl rfl Tryz.func135 (by kernel_rfl) rfl #[.slice Ao20 t124.length co20, .slice Ao19 t121.length co19] rfl (by (try simp only [List.map_toArray, List.map_cons, List.map_nil]); rfl) ?_; (with_reducible refine (clepsydraref01_less.calls _ _ t124 _ _ t121 false _ ?side1 ?side2 ?side3 ?side4 A11.out).mono ?_); (case side1 => exact (Kd.R_reads' HO126.out).2.2); (case side2 => exact (Kd.R_reads' HO126.out).2.1); (case side3 => exact (Kd.R_reads' HO123.out).2.2); (case side4 => exact (Kd.R_reads' HO123.out).2.1); rintro e w' ⟨rfl, ⟨nd, rfl⟩⟩; refine ⟨_, rfl, ?_⟩))
   go_ret
   exact ⟨by rfl, by repeat ((with_reducible first | exact HB.out | apply pw_below_drewN))⟩
def clepsydraref01_at.f (l0 : List Int) (a1 : Int) : Option (Int) := if a1 < 0 then (some 0) else (if a1 ≥ (l0.length : Int) then (some 0) else (if 0 ≤ a1 then (if a1 < (l0.length : Int) then (some (rd l0 a1)) else (none)) else (none)))
set_option maxHeartbeats 8000000 in
set_option maxRecDepth 100000 in
theorem clepsydraref01_at.calls (A0 : Option Addr) (c0 : Nat) (l0 : List Int) (a1 : Int) (r : Int) (w : World) (hr0 : Kd.C (Kd.int .i64) w A0 l0.length l0) (hc0 : l0.length ≤ c0) (h : clepsydraref01_at.f l0 a1 = some r) :
  Calls Tryz.prog 177 #[.slice A0 l0.length c0, .int .i64 a1] w fun e w' => e = .returned (.int .i64 r) ∧ Drawn0 w w' := by
 have HR0 := Aside0.mk hr0
 have HC0 := Aside0.mk hc0
 clear hr0 hc0
 have H : (if a1 < 0 then (some 0) else (if a1 ≥ (l0.length : Int) then (some 0) else (if 0 ≤ a1 then (if a1 < (l0.length : Int) then (some (rd l0 a1)) else (none)) else (none)))) = some r := h
 clear h
 by_cases c3 : a1 < 0
 ·rw [if_pos c3] at H
  have c3b0 : decide (a1 < 0) = true := decide_eq_true c3
  clear c3
  obtain rfl := Option.some.inj H
  simp only [Option.some.injEq, Prod.mk.injEq] at H
  obtain ⟨rfl⟩ := H
  go_enter Tryz.func177, Tryz.ntmps177
  go_wp2
  go_ret
  exact ⟨by rfl, by repeat ((exact Drawn0.refl _))⟩
 ·rw [if_neg c3] at H
  have c3b0 : decide (a1 < 0) = false := decide_eq_false c3
  clear c3
  by_cases c4 : a1 ≥ (l0.length : Int)
  ·rw [if_pos c4] at H
   have c4b0 : decide ((l0.length : Int) ≤ a1) = true := decide_eq_true c4
   clear c4
   obtain rfl := Option.some.inj H
   simp only [Option.some.injEq, Prod.mk.injEq] at H
   obtain ⟨rfl⟩ := H
   go_enter Tryz.func177, Tryz.ntmps177
   go_wp2
   go_ret
   exact ⟨by rfl, by repeat ((exact Drawn0.refl _))⟩
  ·rw [if_neg c4] at H
   have c4b0 : decide ((l0.length : Int) ≤ a1) = false := decide_eq_false c4
   clear c4
   by_cases c5 : 0 ≤ a1
   ·rw [if_pos c5] at H
    have c5b0 : decide (0 ≤ a1) = true := decide_eq_true c5
    clear c5
    by_cases c6 : a1 < (l0.length : Int)
    ·rw [if_pos c6] at H
     have c6b0 : decide (a1 < (l0.length : Int)) = true := decide_eq_true c6
     clear c6
     obtain rfl := Option.some.inj H
     simp only [Option.some.injEq, Prod.mk.injEq] at H
     obtain ⟨rfl⟩ := H
     have p129 : 0 ≤ (a1 : Int) := of_decide_eq_true (by (with_reducible assumption))
     have q129 : a1 < (l0.length : Int) := of_decide_eq_true (by (with_reducible assumption))
     obtain ⟨ad129, e129, hx129_0⟩ := Kd.at_int HR0.out a1 p129 q129
     cases e129
     replace p129 := eq_true p129
     replace q129 := eq_true q129
     go_enter Tryz.func177, Tryz.ntmps177
     go_wp2
     go_ret
     exact ⟨by rfl, by repeat ((exact Drawn0.refl _))⟩
    ·rw [if_neg c6] at H
     exact absurd H (by simp)
   ·rw [if_neg c5] at H
    exact absurd H (by simp)
mutual
def clepsydraref01_sum.l0 : Nat → List Int → List Int → List Int → Int → Int → Option (List Int)
 | 0, _, _, _, _, _ => none
 | k + 1, x0, x1, x5, x6, x7 => if x7 < (x0.length : Int) then (clepsydraref01_sum.j1 k x0 x1 x5 x6 x7 true) else (if x7 < (x1.length : Int) then (clepsydraref01_sum.j1 k x0 x1 x5 x6 x7 true) else (clepsydraref01_sum.j1 k x0 x1 x5 x6 x7 (decide (x6 > 0))))
def clepsydraref01_sum.j1 : Nat → List Int → List Int → List Int → Int → Int → Bool → Option (List Int)
 | 0, _, _, _, _, _, _ => none
 | k + 1, x0, x1, x5, x6, x7, x22 => if x22 = true then ((clepsydraref01_at.f x0 x7).bind fun t130 => ((clepsydraref01_at.f x1 x7).bind fun t131 => (if x5.length < 17592186044416 then (clepsydraref01_sum.l0 k x0 x1 (x5 ++ [Int.tmod (wrap64 ((wrap64 (t130 + t131)) + x6)) 2]) (wrap64 (Int.tdiv (wrap64 ((wrap64 (t130 + t131)) + x6)) 2)) (wrap64 (x7 + 1))) else (none)))) else (some x5)
end
def clepsydraref01_sum.f (k : Nat) (l0 : List Int) (l1 : List Int) : Option (List Int) := clepsydraref01_sum.l0 k l0 l1 ([] : List Int) 0 0
set_option maxHeartbeats 8000000 in
set_option maxRecDepth 100000 in
theorem clepsydraref01_sum.calls (k : Nat) (A0 : Option Addr) (c0 : Nat) (l0 : List Int) (A1 : Option Addr) (c1 : Nat) (l1 : List Int) (r : List Int) (w : World) (hr0 : Kd.C (Kd.int .i64) w A0 l0.length l0) (hc0 : l0.length ≤ c0) (hr1 : Kd.C (Kd.int .i64) w A1 l1.length l1) (hc1 : l1.length ≤ c1) (h : clepsydraref01_sum.f k l0 l1 = some r) :
  Calls Tryz.prog 145 #[.slice A0 l0.length c0, .slice A1 l1.length c1] w fun e w' => ∃ v0_ : Value, e = .returned (v0_) ∧ Kd.R (Kd.int .i64) 3 w' w.heap.size (fun _ => True) v0_ r ∧ Below w.heap.size w w' := by
 have HR0 := Aside0.mk hr0
 have HC0 := Aside0.mk hc0
 clear hr0 hc0
 have HR1 := Aside0.mk hr1
 have HC1 := Aside0.mk hc1
 clear hr1 hc1
 have HB := Aside0.mk (Below.refl w.heap.size w)
 have H : (clepsydraref01_sum.l0 k l0 l1 ([] : List Int) 0 0) = some r := h
 clear h
 have H' := Aside0.mk H
 clear H
 go_enter Tryz.func145, Tryz.ntmps145
 go_wp2
 go_loopg [5, 6, 7] k (fun kq v5 v6 v7 w' => ∃ (x5_1 : List Int) (x6_1 : Int) (x7_1 : Int), v6 = .int .i64 x6_1 ∧ v7 = .int .i64 x7_1 ∧ Aside0 (clepsydraref01_sum.l0 kq l0 l1 x5_1 x6_1 x7_1 = some r) ∧ Aside0 (kq ≤ k) ∧ Aside0 (Kd.R (Kd.int .i64) 3 w' w.heap.size (fun _ => True) v5 x5_1) ∧ Aside0 (Below w.heap.size w w'))
 case atStart => exact ⟨(([] : List Int)), (0), (0), (by rfl), (by rfl), H', ⟨Nat.le_refl _⟩, ⟨by (exact Kd.R_nil _ _ _ _ _)⟩, ⟨HB.out⟩⟩
 case round =>
  clear H'
  try clear c1
  try clear p2
  obtain ⟨x5_1, x6_1, x7_1, rfl, rfl, HA, HK1, HO_5, HB⟩ := hrel
  cases gk with
  | zero => exact absurd HA.out (by simp [clepsydraref01_sum.l0])
  | succ k1 =>
   have H := HA.out
   clear HA
   simp only [clepsydraref01_sum.l0] at H
   have HC3 := Aside0.mk H
   clear H
   go_upto_region 4 with (fail)
   go_cut [22] (fun v22 wc => ∃ (kq : Nat) (x22_2 : Bool), v22 = .bool x22_2 ∧ Aside0 (clepsydraref01_sum.j1 kq l0 l1 x5_1 x6_1 x7_1 x22_2 = some r) ∧ Aside0 (kq ≤ k1) ∧ Aside0 (Kd.R (Kd.int .i64) 3 wc w.heap.size (fun _ => True) u5 x5_1) ∧ Aside0 (Below w.heap.size w wc))
   case first =>
    have H := HC3.out
    clear HC3
    by_cases c4 : x7_1 < (l0.length : Int)
    ·rw [if_pos c4] at H
     have c4b0 : decide (x7_1 < (l0.length : Int)) = true := decide_eq_true c4
     clear c4
     (skip)
     have H' := Aside0.mk H
     clear H
     go_wp2
     go_meet
     case rel => exact ⟨_, (true), (by rfl), H', ⟨by have := HK1.out; omega⟩, ⟨by exact HO_5.out⟩, ⟨HB.out⟩⟩
    ·rw [if_neg c4] at H
     have c4b0 : decide (x7_1 < (l0.length : Int)) = false := decide_eq_false c4
     clear c4
     (skip)
     by_cases c5 : x7_1 < (l1.length : Int)
     ·rw [if_pos c5] at H
      have c5b0 : decide (x7_1 < (l1.length : Int)) = true := decide_eq_true c5
      clear c5
      have H' := Aside0.mk H
      clear H
      go_wp2
      go_meet
      case rel => exact ⟨_, (true), (by rfl), H', ⟨by have := HK1.out; omega⟩, ⟨by exact HO_5.out⟩, ⟨HB.out⟩⟩
     ·rw [if_neg c5] at H
      have c5b0 : decide (x7_1 < (l1.length : Int)) = false := decide_eq_false c5
      clear c5
      have H' := Aside0.mk H
      clear H
      go_wp2
      go_meet
      case rel => exact ⟨_, (decide (x6_1 > 0)), (by rfl), H', ⟨by have := HK1.out; omega⟩, ⟨by exact HO_5.out⟩, ⟨HB.out⟩⟩
   case rest =>
    clear HC3
    try clear c1
    try clear p2
    try clear c4
    try clear c4b0
    try clear c5
    try clear c5b0
    try clear p2
    obtain ⟨kq, x22_2, rfl, HA, HJ2, HO_5, HB⟩ := hcut
    cases kq with
    | zero => exact absurd HA.out (by simp [clepsydraref01_sum.j1])
    | succ kj2 =>
     have H := HA.out
     clear HA
     simp only [clepsydraref01_sum.j1] at H
     by_cases c6 : x22_2 = true
     ·subst c6
      rw [if_pos rfl] at H
      replace H := Option.bind_eq_some_iff.mp H
      obtain ⟨t130, A70, H⟩ := H
      try dsimp only at H
      have A7 := Aside0.mk A70
      clear A70
      replace H := Option.bind_eq_some_iff.mp H
      obtain ⟨t131, A80, H⟩ := H
      try dsimp only at H
      have A8 := Aside0.mk A80
      clear A80
      by_cases c9 : x5_1.length < 17592186044416
      ·rw [if_pos c9] at H
       have LMc9 := Aside0.mk c9
       clear c9
       obtain ⟨y132, hy132⟩ : ∃ y_ : List Int, y_ = (x5_1 ++ [Int.tmod (wrap64 ((wrap64 (t130 + t131)) + x6_1)) 2]) := ⟨_, rfl⟩
       rw [← hy132] at H
       have Ny132 := Aside0.mk hy132
       clear hy132
       have H' := Aside0.mk H
       clear H
       go_wp2_with (first | ((with_reducible refine gate_callee (f := 177) rfl ?_); refine goesL_ (some 27) rfl rfl Tryz.func177 (by kernel_rfl) rfl #[.slice A0 l0.length c0, .int .i64 x7_1] rfl (by (try simp only [List.map_toArray, List.map_cons, List.map_nil]); rfl) ?_; (with_reducible refine (clepsydraref01_at.calls _ _ l0 x7_1 t130 _ ?side1 ?side2 A7.out).mono ?_); (case side1 => exact (Kd.C_below HR0.out HB.out)); (case side2 => exact HC0.out); rintro e w' ⟨rfl, ⟨nd, rfl⟩⟩; refine ⟨_, rfl, ?_⟩) | ((with_reducible refine gate_callee (f := 177) rfl ?_); refine goesL_ (some 30) rfl rfl Tryz.func177 (by kernel_rfl) rfl #[.slice A1 l1.length c1, .int .i64 x7_1] rfl (by (try simp only [List.map_toArray, List.map_cons, List.map_nil]); rfl) ?_; (with_reducible refine (clepsydraref01_at.calls _ _ l1 x7_1 t131 _ ?side1 ?side2 A8.out).mono ?_); (case side1 => repeat ((exact (Kd.C_below HR1.out (by repeat ((with_reducible first | exact HB.out | apply pw_below_drewN))))))); (case side2 => exact HC1.out); rintro e w' ⟨rfl, ⟨nd, rfl⟩⟩; refine ⟨_, rfl, ?_⟩) | ((with_reducible refine gate_builtin (b := .append) (xs := #[.tmp 34, .tmp 37]) rfl ?_); (try (refine gate_guard (by rfl) ?_; dsimp only)); at_builtin; refine Kd.R_append (Kd.int .i64) (w0 := w) w.heap.size rfl (.tmp 34) (.tmp 37) 120 3 (.int .i64 0) 8 rfl Tryz.underlying120 info3 rfl (by decide) (by omega) u5 x5_1 (Int.tmod (wrap64 ((wrap64 (t130 + t131)) + x6_1)) 2) [.int .i64 (Int.tmod (wrap64 ((wrap64 (t130 + t131)) + x6_1)) 2)] (fun _ => True) (fun _ => False) rfl rfl ?aP (fun _ hk => hk.elim) ?aF ?aO ?aB ?aS ?aL ?_; (case aP => exact rfl); (case aB => exact (by repeat ((with_reducible first | exact HB.out | apply pw_below_drewN)))); (case aF => exact (fun _ _ => trivial)); (case aO => exact (by (with_reducible repeat ((apply Kd.R_drewN))); exact HO_5.out)); (case aS => exact (below_size (by repeat ((with_reducible first | exact HB.out | apply pw_below_drewN))))); (case aL => have := LMc9.out; omega); intro v133 w10 ho hb hg hat; rw [← Ny132.out] at ho; replace HB := Aside0.mk (hb); have HO134 := Aside0.mk (ho); clear HO_5; clear ho hb hg hat))
       go_roundg kj2
       case measure => have := HK1.out; have := HJ2.out; omega
       case rel => exact ⟨(y132), (wrap64 (Int.tdiv (wrap64 ((wrap64 (t130 + t131)) + x6_1)) 2)), (wrap64 (x7_1 + 1)), (by rfl), (by rfl), H', ⟨by have := HK1.out; have := HJ2.out; omega⟩, ⟨by exact HO134.out⟩, ⟨HB.out⟩⟩
      ·rw [if_neg c9] at H
       exact absurd H (by simp)
     ·replace c6 := Bool.eq_false_iff.mpr c6
      subst c6
      rw [if_neg (show ¬ (false = true) by decide)] at H
      obtain rfl := Option.some.inj H
      simp only [Option.some.injEq, Prod.mk.injEq] at H
      obtain ⟨rfl⟩ := H
      go_wp2
      go_ret
      exact ⟨_, by rfl, by exact HO_5.out, HB.out⟩
def clepsydraref01_Add.f (k : Nat) (l0 : List Int) (l1 : List Int) : Option (List Int) := (clepsydraref01_digits.f k l0).bind fun t135 => ((clepsydraref01_digits.f k l1).bind fun t138 => ((clepsydraref01_sum.f k t135 t138).bind fun t141 => ((clepsydraref01_number.f t141).bind fun t144 => (some t144))))
end Go.Proofs.YtdmglajfmfjmlaaGreat.Cn
namespace Go.Proofs.YtdmglajfmfjmlaaGreat.Cn
open Go.RowKit Go.Proofs.YtdmglajfmfjmlaaGreatW.PrintWords Go.Proofs.YtdmglajfmfjmlaaGreatW.PrintLast Go.Proofs.YtdmglajfmfjmlaaGreatW.PrintMore
attribute [local go_sem] max2_int min2_int max_two min_two max_three min_three max_four min_four   -- for this text's walks alone
set_option linter.unusedVariables false
set_option linter.unusedSimpArgs false
def clepsydraref01_take.l0 : Nat → List Int → List Int → List Int → Int → Int → Option (List Int)
 | 0, _, _, _, _, _ => none
 | k + 1, x0, x1, x5, x6, x7 => if x7 < (x0.length : Int) then ((clepsydraref01_at.f x0 x7).bind fun t150 => ((clepsydraref01_at.f x1 x7).bind fun t151 => (if (wrap64 ((wrap64 (t150 - t151)) - x6)) < 0 then (if x5.length < 17592186044416 then (clepsydraref01_take.l0 k x0 x1 (x5 ++ [wrap64 ((wrap64 ((wrap64 (t150 - t151)) - x6)) + 2)]) 1 (wrap64 (x7 + 1))) else (none)) else (if x5.length < 17592186044416 then (clepsydraref01_take.l0 k x0 x1 (x5 ++ [wrap64 ((wrap64 (t150 - t151)) - x6)]) 0 (wrap64 (x7 + 1))) else (none))))) else ((clepsydraref01_cut.f k x5).bind fun t147 => (some t147))
def clepsydraref01_take.f (k : Nat) (l0 : List Int) (l1 : List Int) : Option (List Int) := clepsydraref01_take.l0 k l0 l1 ([] : List Int) 0 0
set_option maxHeartbeats 8000000 in
set_option maxRecDepth 100000 in
theorem clepsydraref01_take.calls (k : Nat) (A0 : Option Addr) (c0 : Nat) (l0 : List Int) (A1 : Option Addr) (c1 : Nat) (l1 : List Int) (r : List Int) (w : World) (hr0 : Kd.C (Kd.int .i64) w A0 l0.length l0) (hc0 : l0.length ≤ c0) (hr1 : Kd.C (Kd.int .i64) w A1 l1.length l1) (hc1 : l1.length ≤ c1) (h : clepsydraref01_take.f k l0 l1 = some r) :
  Calls Tryz.prog 170 #[.slice A0 l0.length c0, .slice A1 l1.length c1] w fun e w' => ∃ v0_ : Value, e = .returned (v0_) ∧ Kd.R (Kd.int .i64) 3 w' w.heap.size (fun _ => True) v0_ r ∧ Below w.heap.size w w' := by
 have HR0 := Aside0.mk hr0
 have HC0 := Aside0.mk hc0
 clear hr0 hc0
 have HR1 := Aside0.mk hr1
 have HC1 := Aside0.mk hc1
 clear hr1 hc1
 have HB := Aside0.mk (Below.refl w.heap.size w)
 have H : (clepsydraref01_take.l0 k l0 l1 ([] : List Int) 0 0) = some r := h
 clear h
 have H' := Aside0.mk H
 clear H
 go_enter Tryz.func170, Tryz.ntmps170
 go_wp2
 go_loopg [5, 6, 7] k (fun kq v5 v6 v7 w' => ∃ (x5_1 : List Int) (x6_1 : Int) (x7_1 : Int), v6 = .int .i64 x6_1 ∧ v7 = .int .i64 x7_1 ∧ Aside0 (clepsydraref01_take.l0 kq l0 l1 x5_1 x6_1 x7_1 = some r) ∧ Aside0 (kq ≤ k) ∧ Aside0 (Kd.R (Kd.int .i64) 3 w' w.heap.size (fun _ => True) v5 x5_1) ∧ Aside0 (Below w.heap.size w w'))
 case atStart => exact ⟨(([] : List Int)), (0), (0), (by rfl), (by rfl), H', ⟨Nat.le_refl _⟩, ⟨by (exact Kd.R_nil _ _ _ _ _)⟩, ⟨HB.out⟩⟩
 case round =>
  clear H'
  try clear c1
  try clear p2
  obtain ⟨x5_1, x6_1, x7_1, rfl, rfl, HA, HK1, HO_5, HB⟩ := hrel
  cases gk with
  | zero => exact absurd HA.out (by simp [clepsydraref01_take.l0])
  | succ k1 =>
   have H := HA.out
   clear HA
   simp only [clepsydraref01_take.l0] at H
   by_cases c3 : x7_1 < (l0.length : Int)
   ·rw [if_pos c3] at H
    have c3b0 : decide (x7_1 < (l0.length : Int)) = true := decide_eq_true c3
    clear c3
    replace H := Option.bind_eq_some_iff.mp H
    obtain ⟨t150, A40, H⟩ := H
    try dsimp only at H
    have A4 := Aside0.mk A40
    clear A40
    replace H := Option.bind_eq_some_iff.mp H
    obtain ⟨t151, A50, H⟩ := H
    try dsimp only at H
    have A5 := Aside0.mk A50
    clear A50
    by_cases c6 : (wrap64 ((wrap64 (t150 - t151)) - x6_1)) < 0
    ·rw [if_pos c6] at H
     have c6b0 : decide ((wrap64 ((wrap64 (t150 - t151)) - x6_1)) < 0) = true := decide_eq_true c6
     clear c6
     by_cases c7 : x5_1.length < 17592186044416
     ·rw [if_pos c7] at H
      have LMc7 := Aside0.mk c7
      clear c7
      obtain ⟨y152, hy152⟩ : ∃ y_ : List Int, y_ = (x5_1 ++ [wrap64 ((wrap64 ((wrap64 (t150 - t151)) - x6_1)) + 2)]) := ⟨_, rfl⟩
      rw [← hy152] at H
      have Ny152 := Aside0.mk hy152
      clear hy152
      have H' := Aside0.mk H
      clear H
      go_wp2_with (first | ((with_reducible refine gate_callee (f := 177) rfl ?_); refine goesL_ (some 17) rfl rfl Tryz.func177 (by kernel_rfl) rfl #[.slice A0 l0.length c0, .int .i64 x7_1] rfl (by (try simp only [List.map_toArray, List.map_cons, List.map_nil]); rfl) ?_; (with_reducible refine (clepsydraref01_at.calls _ _ l0 x7_1 t150 _ ?side1 ?side2 A4.out).mono ?_); (case side1 => exact (Kd.C_below HR0.out HB.out)); (case side2 => exact HC0.out); rintro e w' ⟨rfl, ⟨nd, rfl⟩⟩; refine ⟨_, rfl, ?_⟩) | ((with_reducible refine gate_callee (f := 177) rfl ?_); refine goesL_ (some 20) rfl rfl Tryz.func177 (by kernel_rfl) rfl #[.slice A1 l1.length c1, .int .i64 x7_1] rfl (by (try simp only [List.map_toArray, List.map_cons, List.map_nil]); rfl) ?_; (with_reducible refine (clepsydraref01_at.calls _ _ l1 x7_1 t151 _ ?side1 ?side2 A5.out).mono ?_); (case side1 => repeat ((exact (Kd.C_below HR1.out (by repeat ((with_reducible first | exact HB.out | apply pw_below_drewN))))))); (case side2 => exact HC1.out); rintro e w' ⟨rfl, ⟨nd, rfl⟩⟩; refine ⟨_, rfl, ?_⟩) | ((with_reducible refine gate_builtin (b := .append) (xs := #[.tmp 28, .tmp 30]) rfl ?_); at_builtin; refine Kd.R_append (Kd.int .i64) (w0 := w) w.heap.size rfl (.tmp 28) (.tmp 30) 120 3 (.int .i64 0) 8 rfl Tryz.underlying120 info3 rfl (by decide) (by omega) u5 x5_1 (wrap64 ((wrap64 ((wrap64 (t150 - t151)) - x6_1)) + 2)) [.int .i64 (wrap64 ((wrap64 ((wrap64 (t150 - t151)) - x6_1)) + 2))] (fun _ => True) (fun _ => False) rfl rfl ?aP (fun _ hk => hk.elim) ?aF ?aO ?aB ?aS ?aL ?_; (case aP => exact rfl); (case aB => exact (by repeat ((with_reducible first | exact HB.out | apply pw_below_drewN)))); (case aF => exact (fun _ _ => trivial)); (case aO => exact (by (with_reducible repeat ((apply Kd.R_drewN))); exact HO_5.out)); (case aS => exact (below_size (by repeat ((with_reducible first | exact HB.out | apply pw_below_drewN))))); (case aL => have := LMc7.out; omega); intro v153 w8 ho hb hg hat; rw [← Ny152.out] at ho; replace HB := Aside0.mk (hb); have HO154 := Aside0.mk (ho); clear HO_5; clear ho hb hg hat))
      go_roundg k1
      case measure => have := HK1.out; omega
      case rel => exact ⟨(y152), (1), (wrap64 (x7_1 + 1)), (by rfl), (by rfl), H', ⟨by have := HK1.out; omega⟩, ⟨by exact HO154.out⟩, ⟨HB.out⟩⟩
     ·rw [if_neg c7] at H
      exact absurd H (by simp)
    ·rw [if_neg c6] at H
     have c6b0 : decide ((wrap64 ((wrap64 (t150 - t151)) - x6_1)) < 0) = false := decide_eq_false c6
     clear c6
     by_cases c9 : x5_1.length < 17592186044416
     ·rw [if_pos c9] at H
      have LMc9 := Aside0.mk c9
      clear c9
      obtain ⟨y155, hy155⟩ : ∃ y_ : List Int, y_ = (x5_1 ++ [wrap64 ((wrap64 (t150 - t151)) - x6_1)]) := ⟨_, rfl⟩
      rw [← hy155] at H
      have Ny155 := Aside0.mk hy155
      clear hy155
      have H' := Aside0.mk H
      clear H
      go_wp2_with (first | ((with_reducible refine gate_callee (f := 177) rfl ?_); refine goesL_ (some 17) rfl rfl Tryz.func177 (by kernel_rfl) rfl #[.slice A0 l0.length c0, .int .i64 x7_1] rfl (by (try simp only [List.map_toArray, List.map_cons, List.map_nil]); rfl) ?_; (with_reducible refine (clepsydraref01_at.calls _ _ l0 x7_1 t150 _ ?side1 ?side2 A4.out).mono ?_); (case side1 => exact (Kd.C_below HR0.out HB.out)); (case side2 => exact HC0.out); rintro e w' ⟨rfl, ⟨nd, rfl⟩⟩; refine ⟨_, rfl, ?_⟩) | ((with_reducible refine gate_callee (f := 177) rfl ?_); refine goesL_ (some 20) rfl rfl Tryz.func177 (by kernel_rfl) rfl #[.slice A1 l1.length c1, .int .i64 x7_1] rfl (by (try simp only [List.map_toArray, List.map_cons, List.map_nil]); rfl) ?_; (with_reducible refine (clepsydraref01_at.calls _ _ l1 x7_1 t151 _ ?side1 ?side2 A5.out).mono ?_); (case side1 => repeat ((exact (Kd.C_below HR1.out (by repeat ((with_reducible first | exact HB.out | apply pw_below_drewN))))))); (case side2 => exact HC1.out); rintro e w' ⟨rfl, ⟨nd, rfl⟩⟩; refine ⟨_, rfl, ?_⟩) | ((with_reducible refine gate_builtin (b := .append) (xs := #[.tmp 28, .tmp 30]) rfl ?_); at_builtin; refine Kd.R_append (Kd.int .i64) (w0 := w) w.heap.size rfl (.tmp 28) (.tmp 30) 120 3 (.int .i64 0) 8 rfl Tryz.underlying120 info3 rfl (by decide) (by omega) u5 x5_1 (wrap64 ((wrap64 (t150 - t151)) - x6_1)) [.int .i64 (wrap64 ((wrap64 (t150 - t151)) - x6_1))] (fun _ => True) (fun _ => False) rfl rfl ?aP (fun _ hk => hk.elim) ?aF ?aO ?aB ?aS ?aL ?_; (case aP => exact rfl); (case aB => exact (by repeat ((with_reducible first | exact HB.out | apply pw_below_drewN)))); (case aF => exact (fun _ _ => trivial)); (case aO => exact (by (with_reducible repeat ((apply Kd.R_drewN))); exact HO_5.out)); (case aS => exact (below_size (by repeat ((with_reducible first | exact HB.out | apply pw_below_drewN))))); (case aL => have := LMc9.out; omega); intro v156 w10 ho hb hg hat; rw [← Ny155.out] at ho; replace HB := Aside0.mk (hb); have HO157 := Aside0.mk (ho); clear HO_5; clear ho hb hg hat))
      go_roundg k1
      case measure => have := HK1.out; omega
      case rel => exact ⟨(y155), (0), (wrap64 (x7_1 + 1)), (by rfl), (by rfl), H', ⟨by have := HK1.out; omega⟩, ⟨by exact HO157.out⟩, ⟨HB.out⟩⟩
     ·rw [if_neg c9] at H
      exact absurd H (by simp)
   ·rw [if_neg c3] at H
    have c3b0 : decide (x7_1 < (l0.length : Int)) = false := decide_eq_false c3
    clear c3
    replace H := Option.bind_eq_some_iff.mp H
    obtain ⟨t147, A110, H⟩ := H
    try dsimp only at H
    have A11 := Aside0.mk A110
    clear A110
    obtain rfl := Option.some.inj H
    simp only [Option.some.injEq, Prod.mk.injEq] at H
    obtain ⟨rfl⟩ := H
    obtain ⟨Ao12, co12, eo12⟩ := Kd.R_slice HO_5.out
    subst eo12
    go_wp2_with ((((with_reducible refine gate_callee (f := 176) rfl ?_); refine goesL_ (some 33) rfl rfl Tryz.func176 (by kernel_rfl) rfl #[.slice Ao12 x5_1.length co12] rfl (by (try simp only [List.map_toArray, List.map_cons, List.map_nil]); rfl) ?_; (with_reducible refine (clepsydraref01_cut.calls k1 (fun k_ => some k_ = (.slice Ao12 x5_1.length co12 : Value).ownBlock) (.slice Ao12 x5_1.length co12) x5_1 t147 w _ ?side1 ?side2 A11.out).mono ?_); (case side1 => exact HB.out); (case side2 => exact Kd.R_tight rfl HO_5.out); rintro e w13 ⟨v148, rfl, ho0, hb, hkp⟩; refine ⟨_, rfl, ?_⟩; have HO149 := Aside0.mk (Kd.R_mono (ok' := fun k_ => True) ho0 (fun k_ hk_ => trivial)); replace HB := Aside0.mk (hb); clear HO_5; clear hb hkp ho0)))
    go_ret
    exact ⟨_, by rfl, by exact HO149.out, HB.out⟩
def clepsydraref01_Sub.f (k : Nat) (l0 : List Int) (l1 : List Int) : Option (List Int × Int) := (clepsydraref01_digits.f k l0).bind fun t158 => ((clepsydraref01_digits.f k l1).bind fun t161 => ((clepsydraref01_less.f t158 t161).bind fun t164 => (if t164 = true then (some (([] : List Int), 10)) else ((clepsydraref01_take.f k t158 t161).bind fun t165 => ((clepsydraref01_number.f t165).bind fun t168 => (some (t168, 0)))))))
set_option maxHeartbeats 8000000 in
set_option maxRecDepth 100000 in
theorem clepsydraref01_Sub.calls (k : Nat) (A0 : Option Addr) (c0 : Nat) (l0 : List Int) (A1 : Option Addr) (c1 : Nat) (l1 : List Int) (r1 : List Int) (r2 : Int) (w : World) (hr0 : Kd.C (Kd.int .u64) w A0 l0.length l0) (hc0 : l0.length ≤ c0) (hr1 : Kd.C (Kd.int .u64) w A1 l1.length l1) (hc1 : l1.length ≤ c1) (h : clepsydraref01_Sub.f k l0 l1 = some (r1, r2)) :
  Calls Tryz.prog 113 #[.slice A0 l0.length c0, .slice A1 l1.length c1] w fun e w' => ∃ v0_ : Value, e = .returned (.tuple #[v0_, .int .i64 r2]) ∧ Kd.R (Kd.int .u64) 23 w' w.heap.size (fun _ => True) v0_ r1 ∧ Below w.heap.size w w' := by
 have HR0 := Aside0.mk hr0
 have HC0 := Aside0.mk hc0
 clear hr0 hc0
 have HR1 := Aside0.mk hr1
 have HC1 := Aside0.mk hc1
 clear hr1 hc1
 have HB := Aside0.mk (Below.refl w.heap.size w)
 have H : ((clepsydraref01_digits.f k l0).bind fun t158 => ((clepsydraref01_digits.f k l1).bind fun t161 => ((clepsydraref01_less.f t158 t161).bind fun t164 => (if t164 = true then (some (([] : List Int), 10)) else ((clepsydraref01_take.f k t158 t161).bind fun t165 => ((clepsydraref01_number.f t165).bind fun t168 => (some (t168, 0)))))))) = some (r1, r2) := h
 clear h
 replace H := Option.bind_eq_some_iff.mp H
 obtain ⟨t158, A30, H⟩ := H
 try dsimp only at H
 have A3 := Aside0.mk A30
 clear A30
 replace H := Option.bind_eq_some_iff.mp H
 obtain ⟨t161, A40, H⟩ := H
 try dsimp only at H
 have A4 := Aside0.mk A40
 clear A40
 replace H := Option.bind_eq_some_iff.mp H
 obtain ⟨t164, A50, H⟩ := H
 try dsimp only at H
 have A5 := Aside0.mk A50
 clear A50
 by_cases c6 : t164 = true
 ·subst c6
  rw [if_pos rfl] at H
  simp only [Option.some.injEq, Prod.mk.injEq] at H
  obtain ⟨rfl, rfl⟩ := H
  go_enter Tryz.func113, Tryz.ntmps113
  go_wp2_with (first | ((with_reducible refine gate_callee (f := 134) rfl ?_); refine goesL_ (some 9) rfl rfl Tryz.func134 (by kernel_rfl) rfl #[.slice A0 l0.length c0] rfl (by (try simp only [List.map_toArray, List.map_cons, List.map_nil]); rfl) ?_; (with_reducible refine (clepsydraref01_digits.calls k _ _ l0 t158 _ ?side1 ?side2 A3.out).mono ?_); (case side1 => exact HR0.out); (case side2 => exact HC0.out); rintro e w7 ⟨v159, rfl, ho0, hb⟩; refine ⟨_, rfl, ?_⟩; have HO160 := Aside0.mk (Kd.R_lower ho0 (below_size HB.out)); replace HB := Aside0.mk (below_step HB.out hb); clear hb ho0) | ((with_reducible refine gate_callee (f := 134) rfl ?_); refine goesL_ (some 11) rfl rfl Tryz.func134 (by kernel_rfl) rfl #[.slice A1 l1.length c1] rfl (by (try simp only [List.map_toArray, List.map_cons, List.map_nil]); rfl) ?_; (with_reducible refine (clepsydraref01_digits.calls k _ _ l1 t161 _ ?side1 ?side2 A4.out).mono ?_); (case side1 => exact (Kd.C_below HR1.out HB.out)); (case side2 => exact HC1.out); rintro e w8 ⟨v162, rfl, ho0, hb⟩; refine ⟨_, rfl, ?_⟩; have HO163 := Aside0.mk (Kd.R_lower (Kd.R_new' ho0 (Kd.R_lt HO160.out)) (below_size HB.out)); replace HO160 := Aside0.mk (Kd.R_elder' HO160.out (Kd.R_base ho0) hb); replace HB := Aside0.mk (below_step HB.out hb); clear hb ho0; obtain ⟨Ao9, co9, eo9⟩ := Kd.R_slice HO160.out; subst eo9; obtain ⟨Ao10, co10, eo10⟩ := Kd.R_slice HO163.out; subst eo10) | ((with_reducible refine gate_callee (f := 135) rfl ?_); refine goesL_ (some 14) rfl rfl Tryz.func135 (by kernel_rfl) rfl #[.slice Ao9 t158.length co9, .slice Ao10 t161.length co10] rfl (by (try simp only [List.map_toArray, List.map_cons, List.map_nil]); rfl) ?_; (with_reducible refine (clepsydraref01_less.calls _ _ t158 _ _ t161 true _ ?side1 ?side2 ?side3 ?side4 A5.out).mono ?_); (case side1 => exact (Kd.R_reads' HO160.out).2.2); (case side2 => exact (Kd.R_reads' HO160.out).2.1); (case side3 => exact (Kd.R_reads' HO163.out).2.2); (case side4 => exact (Kd.R_reads' HO163.out).2.1); rintro e w' ⟨rfl, ⟨nd, rfl⟩⟩; refine ⟨_, rfl, ?_⟩))
  go_ret2
  exact ⟨_, by rfl, by (exact Kd.R_nil _ _ _ _ _), by repeat ((with_reducible first | exact HB.out | apply pw_below_drewN))⟩
 ·replace c6 := Bool.eq_false_iff.mpr c6
  subst c6
  rw [if_neg (show ¬ (false = true) by decide)] at H
  replace H := Option.bind_eq_some_iff.mp H
  obtain ⟨t165, A110, H⟩ := H
  try dsimp only at H
  have A11 := Aside0.mk A110
  clear A110
  replace H := Option.bind_eq_some_iff.mp H
  obtain ⟨t168, A120, H⟩ := H
  try dsimp only at H
  have A12 := Aside0.mk A120
  clear A120
  simp only [Option.some.injEq, Prod.mk.injEq] at H
  obtain ⟨rfl, rfl⟩ := H
  go_enter Tryz.func113, Tryz.ntmps113
  go_wp2_with (first | ((with_reducible refine gate_callee (f := 134) rfl ?_); refine goesL_ (some 9) rfl rfl Tryz.func134 (by kernel_rfl) rfl #[.slice A0 l0.length c0] rfl (by (try simp only [List.map_toArray, List.map_cons, List.map_nil]); rfl) ?_; (with_reducible refine (clepsydraref01_digits.calls k _ _ l0 t158 _ ?side1 ?side2 A3.out).mono ?_); (case side1 => exact HR0.out); (case side2 => exact HC0.out); rintro e w13 ⟨v159, rfl, ho0, hb⟩; refine ⟨_, rfl, ?_⟩; have HO160 := Aside0.mk (Kd.R_lower ho0 (below_size HB.out)); replace HB := Aside0.mk (below_step HB.out hb); clear hb ho0) | ((with_reducible refine gate_callee (f := 134) rfl ?_); refine goesL_ (some 11) rfl rfl Tryz.func134 (by kernel_rfl) rfl #[.slice A1 l1.length c1] rfl (by (try simp only [List.map_toArray, List.map_cons, List.map_nil]); rfl) ?_; (with_reducible refine (clepsydraref01_digits.calls k _ _ l1 t161 _ ?side1 ?side2 A4.out).mono ?_); (case side1 => exact (Kd.C_below HR1.out HB.out)); (case side2 => exact HC1.out); rintro e w14 ⟨v162, rfl, ho0, hb⟩; refine ⟨_, rfl, ?_⟩; have HO163 := Aside0.mk (Kd.R_lower (Kd.R_new' ho0 (Kd.R_lt HO160.out)) (below_size HB.out)); replace HO160 := Aside0.mk (Kd.R_elder' HO160.out (Kd.R_base ho0) hb); replace HB := Aside0.mk (below_step HB.out hb); clear hb ho0; obtain ⟨Ao15, co15, eo15⟩ := Kd.R_slice HO160.out; subst eo15; obtain ⟨Ao16, co16, eo16⟩ := Kd.R_slice HO163.out; subst eo16) | ((with_reducible refine gate_callee (f := 135) rfl ?_); refine goesL_ (some 14) rfl rfl Tryz.func135 (by kernel_rfl) rfl #[.slice Ao15 t158.length co15, .slice Ao16 t161.length co16] rfl (by (try simp only [List.map_toArray, List.map_cons, List.map_nil]); rfl) ?_; (with_reducible refine (clepsydraref01_less.calls _ _ t158 _ _ t161 false _ ?side1 ?side2 ?side3 ?side4 A5.out).mono ?_); (case side1 => exact (Kd.R_reads' HO160.out).2.2); (case side2 => exact (Kd.R_reads' HO160.out).2.1); (case side3 => exact (Kd.R_reads' HO163.out).2.2); (case side4 => exact (Kd.R_reads' HO163.out).2.1); rintro e w' ⟨rfl, ⟨nd, rfl⟩⟩; refine ⟨_, rfl, ?_⟩) | ((with_reducible refine gate_callee (f := 170) rfl ?_); refine goesL_ (some 17) rfl rfl Tryz.func170 (by kernel_rfl) rfl #[.slice Ao15 t158.length co15, .slice Ao16 t161.length co16] rfl (by (try simp only [List.map_toArray, List.map_cons, List.map_nil]); rfl) ?_; (with_reducible refine (clepsydraref01_take.calls k _ _ t158 _ _ t161 t165 _ ?side1 ?side2 ?side3 ?side4 A11.out).mono ?_); (case side1 => exact (Kd.R_reads' HO160.out).2.2); (case side2 => exact (Kd.R_reads' HO160.out).2.1); (case side3 => exact (Kd.R_reads' HO163.out).2.2); (case side4 => exact (Kd.R_reads' HO163.out).2.1); rintro e w17 ⟨v166, rfl, ho0, hb⟩; refine ⟨_, rfl, ?_⟩; have HO167 := Aside0.mk (Kd.R_lower (Kd.R_new' (Kd.R_new' ho0 (Kd.R_lt (by (with_reducible repeat ((apply Kd.R_drewN))); exact HO160.out))) (Kd.R_lt (by (with_reducible repeat ((apply Kd.R_drewN))); exact HO163.out))) (below_size (by repeat ((with_reducible first | exact HB.out | apply pw_below_drewN))))); replace HO160 := Aside0.mk (Kd.R_elder' (by (with_reducible repeat ((apply Kd.R_drewN))); exact HO160.out) (Kd.R_base ho0) hb); replace HO163 := Aside0.mk (Kd.R_elder' (by (with_reducible repeat ((apply Kd.R_drewN))); exact HO163.out) (Kd.R_base ho0) hb); replace HB := Aside0.mk (below_step (by repeat ((with_reducible first | exact HB.out | apply pw_below_drewN))) hb); clear hb ho0; obtain ⟨Ao18, co18, eo18⟩ := Kd.R_slice HO167.out; subst eo18) | ((with_reducible refine gate_callee (f := 147) rfl ?_); refine goesL_ (some 18) rfl rfl Tryz.func147 (by kernel_rfl) rfl #[.slice Ao18 t165.length co18] rfl (by (try simp only [List.map_toArray, List.map_cons, List.map_nil]); rfl) ?_; (with_reducible refine (clepsydraref01_number.calls _ _ t165 t168 _ ?side1 ?side2 A12.out).mono ?_); (case side1 => exact (Kd.R_reads' HO167.out).2.2); (case side2 => exact (Kd.R_reads' HO167.out).2.1); rintro e w19 ⟨v169, rfl, ho0, hb⟩; refine ⟨_, rfl, ?_⟩; replace HO160 := Aside0.mk (Kd.R_below HO160.out hb); replace HO163 := Aside0.mk (Kd.R_below HO163.out hb); replace HO167 := Aside0.mk (Kd.R_below HO167.out hb); have HO170 := Aside0.mk (Kd.R_lower ho0 (below_size HB.out)); replace HB := Aside0.mk (below_step HB.out hb); clear hb ho0))
  go_ret2
  exact ⟨_, by rfl, by exact HO170.out, HB.out⟩
def clepsydraref01_moved.l0 : Nat → List Int → Int → List Int → Int → Option (List Int)
 | 0, _, _, _, _ => none
 | k + 1, x0, x1, x5, x6 => if x6 < x1 then (if (x0.length : Int) > 0 then (if x5.length < 17592186044416 then (clepsydraref01_moved.l0 k x0 x1 (x5 ++ [0]) (wrap64 (x6 + 1))) else (none)) else (if x5.length + x0.length < 17592186044416 then (some (x5 ++ x0)) else (none))) else (if x5.length + x0.length < 17592186044416 then (some (x5 ++ x0)) else (none))
def clepsydraref01_moved.f (k : Nat) (l0 : List Int) (a1 : Int) : Option (List Int) := clepsydraref01_moved.l0 k l0 a1 ([] : List Int) 0
set_option maxHeartbeats 8000000 in
set_option maxRecDepth 100000 in
theorem clepsydraref01_moved.calls (k : Nat) (A0 : Option Addr) (c0 : Nat) (l0 : List Int) (a1 : Int) (r : List Int) (w : World) (hr0 : Kd.C (Kd.int .i64) w A0 l0.length l0) (hc0 : l0.length ≤ c0) (h : clepsydraref01_moved.f k l0 a1 = some r) :
  Calls Tryz.prog 146 #[.slice A0 l0.length c0, .int .i64 a1] w fun e w' => ∃ v0_ : Value, e = .returned (v0_) ∧ Kd.R (Kd.int .i64) 3 w' w.heap.size (fun _ => True) v0_ r ∧ Below w.heap.size w w' := by
 have HR0 := Aside0.mk hr0
 have HC0 := Aside0.mk hc0
 clear hr0 hc0
 have HB := Aside0.mk (Below.refl w.heap.size w)
 have H : (clepsydraref01_moved.l0 k l0 a1 ([] : List Int) 0) = some r := h
 clear h
 have H' := Aside0.mk H
 clear H
 go_enter Tryz.func146, Tryz.ntmps146
 go_wp2
 go_loopg [5, 6] k (fun kq v5 v6 w' => ∃ (x5_1 : List Int) (x6_1 : Int), v6 = .int .i64 x6_1 ∧ Aside0 (clepsydraref01_moved.l0 kq l0 a1 x5_1 x6_1 = some r) ∧ Aside0 (kq ≤ k) ∧ Aside0 (Kd.R (Kd.int .i64) 3 w' w.heap.size (fun _ => True) v5 x5_1) ∧ Aside0 (Below w.heap.size w w'))
 case atStart => exact ⟨(([] : List Int)), (0), (by rfl), H', ⟨Nat.le_refl _⟩, ⟨by (exact Kd.R_nil _ _ _ _ _)⟩, ⟨HB.out⟩⟩
 case round =>
  clear H'
  try clear c1
  try clear p2
  obtain ⟨x5_1, x6_1, rfl, HA, HK1, HO_5, HB⟩ := hrel
  cases gk with
  | zero => exact absurd HA.out (by simp [clepsydraref01_moved.l0])
  | succ k1 =>
   have H := HA.out
   clear HA
   simp only [clepsydraref01_moved.l0] at H
   by_cases c3 : x6_1 < a1
   ·rw [if_pos c3] at H
    have c3b0 : decide (x6_1 < a1) = true := decide_eq_true c3
    clear c3
    by_cases c4 : (l0.length : Int) > 0
    ·rw [if_pos c4] at H
     have c4b0 : decide (0 < (l0.length : Int)) = true := decide_eq_true c4
     have c4b1 : decide (0 < l0.length) = true := decide_eq_true (by omega)
     clear c4
     by_cases c5 : x5_1.length < 17592186044416
     ·rw [if_pos c5] at H
      have LMc5 := Aside0.mk c5
      clear c5
      obtain ⟨y171, hy171⟩ : ∃ y_ : List Int, y_ = (x5_1 ++ [0]) := ⟨_, rfl⟩
      rw [← hy171] at H
      have Ny171 := Aside0.mk hy171
      clear hy171
      have H' := Aside0.mk H
      clear H
      go_wp2_with ((((with_reducible refine gate_builtin (b := .append) (xs := #[.tmp 17, .tmp 18]) rfl ?_); (try (refine gate_guard (by rfl) ?_; dsimp only)); at_builtin; refine Kd.R_append (Kd.int .i64) (w0 := w) w.heap.size rfl (.tmp 17) (.tmp 18) 120 3 (.int .i64 0) 8 rfl Tryz.underlying120 info3 rfl (by decide) (by omega) u5 x5_1 0 [.int .i64 0] (fun _ => True) (fun _ => False) rfl rfl ?aP (fun _ hk => hk.elim) ?aF ?aO ?aB ?aS ?aL ?_; (case aP => exact rfl); (case aB => exact HB.out); (case aF => exact (fun _ _ => trivial)); (case aO => exact HO_5.out); (case aS => exact (below_size HB.out)); (case aL => have := LMc5.out; omega); intro v172 w6 ho hb hg hat; rw [← Ny171.out] at ho; replace HB := Aside0.mk (hb); have HO173 := Aside0.mk (ho); clear HO_5; clear ho hb hg hat)))
      go_roundg k1
      case measure => have := HK1.out; omega
      case rel => exact ⟨(y171), (wrap64 (x6_1 + 1)), (by rfl), H', ⟨by have := HK1.out; omega⟩, ⟨by exact HO173.out⟩, ⟨HB.out⟩⟩
     ·rw [if_neg c5] at H
      exact absurd H (by simp)
    ·rw [if_neg c4] at H
     have c4b0 : decide (0 < (l0.length : Int)) = false := decide_eq_false c4
     have c4b1 : decide (0 < l0.length) = false := decide_eq_false (by omega)
     clear c4
     by_cases c7 : x5_1.length + l0.length < 17592186044416
     ·rw [if_pos c7] at H
      have LMc7 := Aside0.mk c7
      clear c7
      obtain ⟨y174, hy174⟩ : ∃ y_ : List Int, y_ = (x5_1 ++ l0) := ⟨_, rfl⟩
      rw [← hy174] at H
      have Ny174 := Aside0.mk hy174
      clear hy174
      obtain rfl := Option.some.inj H
      simp only [Option.some.injEq, Prod.mk.injEq] at H
      obtain ⟨rfl⟩ := H
      go_wp2_with ((((with_reducible refine gate_builtin (b := .append) (xs := #[.tmp 20, .tmp 21]) rfl ?_); (try (refine gate_guard (by rfl) ?_; dsimp only)); at_builtin; refine Kd.R_append_rows (Kd.int .i64) (w0 := w) w.heap.size rfl (.tmp 20) (.tmp 21) 120 3 (.int .i64 0) 8 rfl Tryz.underlying120 info3 rfl (by decide) (by omega) u5 x5_1 l0 _ _ _ (fun _ => True) (fun _ => False) rfl rfl ?aO ?aR (fun _ _ h => h) (fun _ h => h.elim) ?aF ?aB ?aS ?aL ?_; (case aR => exact (Kd.C_below HR0.out HB.out)); (case aB => exact HB.out); (case aF => exact (fun _ _ => trivial)); (case aO => exact HO_5.out); (case aS => exact (below_size HB.out)); (case aL => have := LMc7.out; omega); intro v175 w8 ho hb hg hat; rw [← Ny174.out] at ho; replace HB := Aside0.mk (hb); have HO176 := Aside0.mk (ho); clear HO_5; clear ho hb hg hat)))
      go_ret
      exact ⟨_, by rfl, by exact HO176.out, HB.out⟩
     ·rw [if_neg c7] at H
      exact absurd H (by simp)
   ·rw [if_neg c3] at H
    have c3b0 : decide (x6_1 < a1) = false := decide_eq_false c3
    clear c3
    by_cases c9 : x5_1.length + l0.length < 17592186044416
    ·rw [if_pos c9] at H
     have LMc9 := Aside0.mk c9
     clear c9
     obtain ⟨y177, hy177⟩ : ∃ y_ : List Int, y_ = (x5_1 ++ l0) := ⟨_, rfl⟩
     rw [← hy177] at H
     have Ny177 := Aside0.mk hy177
     clear hy177
     obtain rfl := Option.some.inj H
     simp only [Option.some.injEq, Prod.mk.injEq] at H
     obtain ⟨rfl⟩ := H
     go_wp2_with ((((with_reducible refine gate_builtin (b := .append) (xs := #[.tmp 20, .tmp 21]) rfl ?_); (try (refine gate_guard (by rfl) ?_; dsimp only)); at_builtin; refine Kd.R_append_rows (Kd.int .i64) (w0 := w) w.heap.size rfl (.tmp 20) (.tmp 21) 120 3 (.int .i64 0) 8 rfl Tryz.underlying120 info3 rfl (by decide) (by omega) u5 x5_1 l0 _ _ _ (fun _ => True) (fun _ => False) rfl rfl ?aO ?aR (fun _ _ h => h) (fun _ h => h.elim) ?aF ?aB ?aS ?aL ?_; (case aR => exact (Kd.C_below HR0.out HB.out)); (case aB => exact HB.out); (case aF => exact (fun _ _ => trivial)); (case aO => exact HO_5.out); (case aS => exact (below_size HB.out)); (case aL => have := LMc9.out; omega); intro v178 w10 ho hb hg hat; rw [← Ny177.out] at ho; replace HB := Aside0.mk (hb); have HO179 := Aside0.mk (ho); clear HO_5; clear ho hb hg hat)))
     go_ret
     exact ⟨_, by rfl, by exact HO179.out, HB.out⟩
    ·rw [if_neg c9] at H
     exact absurd H (by simp)
def clepsydraref01_Mul.l0 : Nat → List Int → List Int → List Int → Int → Option (List Int)
 | 0, _, _, _, _ => none
 | k + 1, x5, x6, x7, x8 => if x8 < (x6.length : Int) then (if 0 ≤ x8 then (if (rd x6 x8) = 1 then ((clepsydraref01_moved.f k x5 x8).bind fun t190 => ((clepsydraref01_sum.f k x7 t190).bind fun t193 => (clepsydraref01_Mul.l0 k x5 x6 t193 (wrap64 (x8 + 1))))) else (clepsydraref01_Mul.l0 k x5 x6 x7 (wrap64 (x8 + 1)))) else (none)) else ((clepsydraref01_number.f x7).bind fun t186 => (some t186))
def clepsydraref01_Mul.f (k : Nat) (l0 : List Int) (l1 : List Int) : Option (List Int) := (clepsydraref01_digits.f k l0).bind fun t180 => ((clepsydraref01_digits.f k l1).bind fun t183 => (clepsydraref01_Mul.l0 k t180 t183 ([] : List Int) 0))
set_option maxHeartbeats 8000000 in
set_option maxRecDepth 100000 in
theorem clepsydraref01_Mul.calls (k : Nat) (A0 : Option Addr) (c0 : Nat) (l0 : List Int) (A1 : Option Addr) (c1 : Nat) (l1 : List Int) (r : List Int) (w : World) (hr0 : Kd.C (Kd.int .u64) w A0 l0.length l0) (hc0 : l0.length ≤ c0) (hr1 : Kd.C (Kd.int .u64) w A1 l1.length l1) (hc1 : l1.length ≤ c1) (h : clepsydraref01_Mul.f k l0 l1 = some r) :
  Calls Tryz.prog 71 #[.slice A0 l0.length c0, .slice A1 l1.length c1] w fun e w' => ∃ v0_ : Value, e = .returned (v0_) ∧ Kd.R (Kd.int .u64) 23 w' w.heap.size (fun _ => True) v0_ r ∧ Below w.heap.size w w' := by
 have HR0 := Aside0.mk hr0
 have HC0 := Aside0.mk hc0
 clear hr0 hc0
 have HR1 := Aside0.mk hr1
 have HC1 := Aside0.mk hc1
 clear hr1 hc1
 have HB := Aside0.mk (Below.refl w.heap.size w)
 have H : ((clepsydraref01_digits.f k l0).bind fun t180 => ((clepsydraref01_digits.f k l1).bind fun t183 => (clepsydraref01_Mul.l0 k t180 t183 ([] : List Int) 0))) = some r := h
 clear h
 replace H := Option.bind_eq_some_iff.mp H
 obtain ⟨t180, A30, H⟩ := H
 try dsimp only at H
 have A3 := Aside0.mk A30
 clear A30
 replace H := Option.bind_eq_some_iff.mp H
 obtain ⟨t183, A40, H⟩ := H
 try dsimp only at H
 have A4 := Aside0.mk A40
 clear A40
 have H' := Aside0.mk H
 clear H
 go_enter Tryz.func71, Tryz.ntmps71
 go_wp2_with (first | ((with_reducible refine gate_callee (f := 134) rfl ?_); refine goesL_ (some 10) rfl rfl Tryz.func134 (by kernel_rfl) rfl #[.slice A0 l0.length c0] rfl (by (try simp only [List.map_toArray, List.map_cons, List.map_nil]); rfl) ?_; (with_reducible refine (clepsydraref01_digits.calls k _ _ l0 t180 _ ?side1 ?side2 A3.out).mono ?_); (case side1 => exact HR0.out); (case side2 => exact HC0.out); rintro e w5 ⟨v181, rfl, ho0, hb⟩; refine ⟨_, rfl, ?_⟩; have HO182 := Aside0.mk (Kd.R_lower ho0 (below_size HB.out)); replace HB := Aside0.mk (below_step HB.out hb); clear hb ho0) | ((with_reducible refine gate_callee (f := 134) rfl ?_); refine goesL_ (some 12) rfl rfl Tryz.func134 (by kernel_rfl) rfl #[.slice A1 l1.length c1] rfl (by (try simp only [List.map_toArray, List.map_cons, List.map_nil]); rfl) ?_; (with_reducible refine (clepsydraref01_digits.calls k _ _ l1 t183 _ ?side1 ?side2 A4.out).mono ?_); (case side1 => exact (Kd.C_below HR1.out HB.out)); (case side2 => exact HC1.out); rintro e w6 ⟨v184, rfl, ho0, hb⟩; refine ⟨_, rfl, ?_⟩; have HO185 := Aside0.mk (Kd.R_lower (Kd.R_new' ho0 (Kd.R_lt HO182.out)) (below_size HB.out)); replace HO182 := Aside0.mk (Kd.R_elder' HO182.out (Kd.R_base ho0) hb); replace HB := Aside0.mk (below_step HB.out hb); clear hb ho0))
 go_loopg [7, 8] k (fun kq v7 v8 w' => ∃ (x7_1 : List Int) (x8_1 : Int), v8 = .int .i64 x8_1 ∧ Aside0 (clepsydraref01_Mul.l0 kq t180 t183 x7_1 x8_1 = some r) ∧ Aside0 (kq ≤ k) ∧ Aside0 (Kd.R (Kd.int .i64) 3 w' w.heap.size (fun k_ => some k_ ≠ (v184 : Value).ownBlock ∧ some k_ ≠ (v7 : Value).ownBlock) v181 t180) ∧ Aside0 (Kd.R (Kd.int .i64) 3 w' w.heap.size (fun k_ => some k_ ≠ (v181 : Value).ownBlock ∧ some k_ ≠ (v7 : Value).ownBlock) v184 t183) ∧ Aside0 (Kd.R (Kd.int .i64) 3 w' w.heap.size (fun k_ => some k_ ≠ (v181 : Value).ownBlock ∧ some k_ ≠ (v184 : Value).ownBlock) v7 x7_1) ∧ Aside0 (Below w.heap.size w w'))
 case atStart => exact ⟨(([] : List Int)), (0), (by rfl), H', ⟨Nat.le_refl _⟩, ⟨by exact Kd.R_mono HO182.out (fun _ hk => ⟨hk.2, (by simp [Value.ownBlock])⟩)⟩, ⟨by exact Kd.R_mono HO185.out (fun _ hk => ⟨hk.2, (by simp [Value.ownBlock])⟩)⟩, ⟨by (exact Kd.R_nil _ _ _ _ _)⟩, ⟨HB.out⟩⟩
 case round =>
  clear H'
  try clear c1
  try clear p2
  obtain ⟨x7_1, x8_1, rfl, HA, HK1, HO_5, HO_6, HO_7, HB⟩ := hrel
  cases gk with
  | zero => exact absurd HA.out (by simp [clepsydraref01_Mul.l0])
  | succ k1 =>
   have H := HA.out
   clear HA
   simp only [clepsydraref01_Mul.l0] at H
   by_cases c7 : x8_1 < (t183.length : Int)
   ·rw [if_pos c7] at H
    have c7b0 : decide (x8_1 < (t183.length : Int)) = true := decide_eq_true c7
    clear c7
    by_cases c8 : 0 ≤ x8_1
    ·rw [if_pos c8] at H
     have c8b0 : decide (0 ≤ x8_1) = true := decide_eq_true c8
     clear c8
     by_cases c9 : (rd t183 x8_1) = 1
     ·rw [if_pos c9] at H
      have c9b0 : ((rd t183 x8_1) == 1) = true := beq_iff_eq.mpr c9
      have c9b1 : ((rd t183 x8_1) != 1) = false := bne_eq_false_iff_eq.mpr c9
      clear c9
      replace H := Option.bind_eq_some_iff.mp H
      obtain ⟨t190, A100, H⟩ := H
      try dsimp only at H
      have A10 := Aside0.mk A100
      clear A100
      replace H := Option.bind_eq_some_iff.mp H
      obtain ⟨t193, A110, H⟩ := H
      try dsimp only at H
      have A11 := Aside0.mk A110
      clear A110
      have H' := Aside0.mk H
      clear H
      obtain ⟨Ao12, co12, eo12⟩ := Kd.R_slice HO_6.out
      subst eo12
      have p189 : 0 ≤ (x8_1 : Int) := of_decide_eq_true (by (with_reducible assumption))
      have q189 : x8_1 < (t183.length : Int) := of_decide_eq_true (by (with_reducible assumption))
      obtain ⟨ad189, e189, hx189_0⟩ := Kd.at_int (Kd.R_reads' HO_6.out).2.2 x8_1 p189 q189
      cases e189
      replace p189 := eq_true p189
      replace q189 := eq_true q189
      obtain ⟨Ao13, co13, eo13⟩ := Kd.R_slice HO_5.out
      subst eo13
      go_wp2_with (first | ((with_reducible refine gate_callee (f := 146) rfl ?_); refine goesL_ (some 27) rfl rfl Tryz.func146 (by kernel_rfl) rfl #[.slice Ao13 t180.length co13, .int .i64 x8_1] rfl (by (try simp only [List.map_toArray, List.map_cons, List.map_nil]); rfl) ?_; (with_reducible refine (clepsydraref01_moved.calls k1 _ _ t180 x8_1 t190 _ ?side1 ?side2 A10.out).mono ?_); (case side1 => exact (Kd.R_reads' HO_5.out).2.2); (case side2 => exact (Kd.R_reads' HO_5.out).2.1); rintro e w14 ⟨v191, rfl, ho0, hb⟩; refine ⟨_, rfl, ?_⟩; have HO192 := Aside0.mk (Kd.R_lower (Kd.R_new' (Kd.R_new' (Kd.R_new' ho0 (Kd.R_lt HO_5.out)) (Kd.R_lt HO_6.out)) (Kd.R_lt HO_7.out)) (below_size HB.out)); replace HO_5 := Aside0.mk (Kd.R_elder' HO_5.out (Kd.R_base ho0) hb); replace HO_6 := Aside0.mk (Kd.R_elder' HO_6.out (Kd.R_base ho0) hb); replace HO_7 := Aside0.mk (Kd.R_elder' HO_7.out (Kd.R_base ho0) hb); replace HB := Aside0.mk (below_step HB.out hb); clear hb ho0; obtain ⟨Ao15, co15, eo15⟩ := Kd.R_slice HO_7.out; subst eo15; obtain ⟨Ao16, co16, eo16⟩ := Kd.R_slice HO192.out; subst eo16) | ((with_reducible refine gate_callee (f := 145) rfl ?_); refine goesL_ (some 28) rfl rfl Tryz.func145 (by kernel_rfl) rfl #[.slice Ao15 x7_1.length co15, .slice Ao16 t190.length co16] rfl (by (try simp only [List.map_toArray, List.map_cons, List.map_nil]); rfl) ?_; (with_reducible refine (clepsydraref01_sum.calls k1 _ _ x7_1 _ _ t190 t193 _ ?side1 ?side2 ?side3 ?side4 A11.out).mono ?_); (case side1 => exact (Kd.R_reads' HO_7.out).2.2); (case side2 => exact (Kd.R_reads' HO_7.out).2.1); (case side3 => exact (Kd.R_reads' HO192.out).2.2); (case side4 => exact (Kd.R_reads' HO192.out).2.1); rintro e w17 ⟨v194, rfl, ho0, hb⟩; refine ⟨_, rfl, ?_⟩; have HO195 := Aside0.mk (Kd.R_lower (Kd.R_new' (Kd.R_new' (Kd.R_new' (Kd.R_new' ho0 (Kd.R_lt HO_5.out)) (Kd.R_lt HO_6.out)) (Kd.R_lt HO_7.out)) (Kd.R_lt HO192.out)) (below_size HB.out)); replace HO_5 := Aside0.mk (Kd.R_elder' HO_5.out (Kd.R_base ho0) hb); replace HO_6 := Aside0.mk (Kd.R_elder' HO_6.out (Kd.R_base ho0) hb); replace HO_7 := Aside0.mk (Kd.R_elder' HO_7.out (Kd.R_base ho0) hb); replace HO192 := Aside0.mk (Kd.R_elder' HO192.out (Kd.R_base ho0) hb); replace HB := Aside0.mk (below_step HB.out hb); clear hb ho0))
      go_roundg k1
      case measure => have := HK1.out; omega
      case rel => exact ⟨(t193), (wrap64 (x8_1 + 1)), (by rfl), H', ⟨by have := HK1.out; omega⟩, ⟨by exact Kd.R_mono HO_5.out (fun _ hk => ⟨hk.1.1.1, hk.2⟩)⟩, ⟨by exact Kd.R_mono HO_6.out (fun _ hk => ⟨hk.1.1.1, hk.2⟩)⟩, ⟨by exact Kd.R_mono HO195.out (fun _ hk => ⟨hk.1.1.1.2, hk.1.1.2⟩)⟩, ⟨HB.out⟩⟩
     ·rw [if_neg c9] at H
      have c9b0 : ((rd t183 x8_1) == 1) = false := beq_eq_false_iff_ne.mpr c9
      have c9b1 : ((rd t183 x8_1) != 1) = true := bne_iff_ne.mpr c9
      have H' := Aside0.mk H
      clear H
      obtain ⟨Ao18, co18, eo18⟩ := Kd.R_slice HO_6.out
      subst eo18
      have p189 : 0 ≤ (x8_1 : Int) := of_decide_eq_true (by (with_reducible assumption))
      have q189 : x8_1 < (t183.length : Int) := of_decide_eq_true (by (with_reducible assumption))
      obtain ⟨ad189, e189, hx189_0⟩ := Kd.at_int (Kd.R_reads' HO_6.out).2.2 x8_1 p189 q189
      cases e189
      replace p189 := eq_true p189
      replace q189 := eq_true q189
      go_wp2
      go_roundg k1
      case measure => have := HK1.out; omega
      case rel => exact ⟨(x7_1), (wrap64 (x8_1 + 1)), (by rfl), H', ⟨by have := HK1.out; omega⟩, ⟨by exact HO_5.out⟩, ⟨by exact HO_6.out⟩, ⟨by exact HO_7.out⟩, ⟨HB.out⟩⟩
    ·rw [if_neg c8] at H
     exact absurd H (by simp)
   ·rw [if_neg c7] at H
    have c7b0 : decide (x8_1 < (t183.length : Int)) = false := decide_eq_false c7
    clear c7
    replace H := Option.bind_eq_some_iff.mp H
    obtain ⟨t186, A190, H⟩ := H
    try dsimp only at H
    have A19 := Aside0.mk A190
    clear A190
    obtain rfl := Option.some.inj H
    simp only [Option.some.injEq, Prod.mk.injEq] at H
    obtain ⟨rfl⟩ := H
    obtain ⟨Ao20, co20, eo20⟩ := Kd.R_slice HO_6.out
    subst eo20
    obtain ⟨Ao21, co21, eo21⟩ := Kd.R_slice HO_7.out
    subst eo21
    go_wp2_with ((((with_reducible refine gate_callee (f := 147) rfl ?_); refine goesL_ (some 30) rfl rfl Tryz.func147 (by kernel_rfl) rfl #[.slice Ao21 x7_1.length co21] rfl (by (try simp only [List.map_toArray, List.map_cons, List.map_nil]); rfl) ?_; (with_reducible refine (clepsydraref01_number.calls _ _ x7_1 t186 _ ?side1 ?side2 A19.out).mono ?_); (case side1 => exact (Kd.R_reads' HO_7.out).2.2); (case side2 => exact (Kd.R_reads' HO_7.out).2.1); rintro e w22 ⟨v187, rfl, ho0, hb⟩; refine ⟨_, rfl, ?_⟩; replace HO_5 := Aside0.mk (Kd.R_below HO_5.out hb); replace HO_6 := Aside0.mk (Kd.R_below HO_6.out hb); replace HO_7 := Aside0.mk (Kd.R_below HO_7.out hb); have HO188 := Aside0.mk (Kd.R_lower ho0 (below_size HB.out)); replace HB := Aside0.mk (below_step HB.out hb); clear hb ho0)))
    go_ret
    exact ⟨_, by rfl, by exact HO188.out, HB.out⟩
def clepsydraref01_Bits.f (k : Nat) (l0 : List Int) : Option (Int) := (clepsydraref01_digits.f k l0).bind fun t196 => (some (t196.length : Int))
set_option maxHeartbeats 8000000 in
set_option maxRecDepth 100000 in
theorem clepsydraref01_Bits.calls (k : Nat) (A0 : Option Addr) (c0 : Nat) (l0 : List Int) (r : Int) (w : World) (hr0 : Kd.C (Kd.int .u64) w A0 l0.length l0) (hc0 : l0.length ≤ c0) (h : clepsydraref01_Bits.f k l0 = some r) :
  Calls Tryz.prog 65 #[.slice A0 l0.length c0] w fun e w' => e = .returned (.int .i64 r) ∧ Below w.heap.size w w' := by
 have HR0 := Aside0.mk hr0
 have HC0 := Aside0.mk hc0
 clear hr0 hc0
 have HB := Aside0.mk (Below.refl w.heap.size w)
 have H : ((clepsydraref01_digits.f k l0).bind fun t196 => (some (t196.length : Int))) = some r := h
 clear h
 replace H := Option.bind_eq_some_iff.mp H
 obtain ⟨t196, A20, H⟩ := H
 try dsimp only at H
 have A2 := Aside0.mk A20
 clear A20
 obtain rfl := Option.some.inj H
 simp only [Option.some.injEq, Prod.mk.injEq] at H
 obtain ⟨rfl⟩ := H
 go_enter Tryz.func65, Tryz.ntmps65
 go_wp2_with ((((with_reducible refine gate_callee (f := 134) rfl ?_); refine goesL_ (some 4) rfl rfl Tryz.func134 (by kernel_rfl) rfl #[.slice A0 l0.length c0] rfl (by (try simp only [List.map_toArray, List.map_cons, List.map_nil]); rfl) ?_; (with_reducible refine (clepsydraref01_digits.calls k _ _ l0 t196 _ ?side1 ?side2 A2.out).mono ?_); (case side1 => exact HR0.out); (case side2 => exact HC0.out); rintro e w3 ⟨v197, rfl, ho0, hb⟩; refine ⟨_, rfl, ?_⟩; have HO198 := Aside0.mk (Kd.R_lower ho0 (below_size HB.out)); replace HB := Aside0.mk (below_step HB.out hb); clear hb ho0; obtain ⟨Ao4, co4, eo4⟩ := Kd.R_slice HO198.out; subst eo4)))
 go_ret
 exact ⟨by rfl, HB.out⟩
def clepsydraref01_Bit.f (k : Nat) (l0 : List Int) (a1 : Int) : Option (Int) := (clepsydraref01_digits.f k l0).bind fun t199 => ((clepsydraref01_at.f t199 a1).bind fun t202 => (some t202))
set_option maxHeartbeats 8000000 in
set_option maxRecDepth 100000 in
theorem clepsydraref01_Bit.calls (k : Nat) (A0 : Option Addr) (c0 : Nat) (l0 : List Int) (a1 : Int) (r : Int) (w : World) (hr0 : Kd.C (Kd.int .u64) w A0 l0.length l0) (hc0 : l0.length ≤ c0) (h : clepsydraref01_Bit.f k l0 a1 = some r) :
  Calls Tryz.prog 148 #[.slice A0 l0.length c0, .int .i64 a1] w fun e w' => e = .returned (.int .i64 r) ∧ Below w.heap.size w w' := by
 have HR0 := Aside0.mk hr0
 have HC0 := Aside0.mk hc0
 clear hr0 hc0
 have HB := Aside0.mk (Below.refl w.heap.size w)
 have H : ((clepsydraref01_digits.f k l0).bind fun t199 => ((clepsydraref01_at.f t199 a1).bind fun t202 => (some t202))) = some r := h
 clear h
 replace H := Option.bind_eq_some_iff.mp H
 obtain ⟨t199, A30, H⟩ := H
 try dsimp only at H
 have A3 := Aside0.mk A30
 clear A30
 replace H := Option.bind_eq_some_iff.mp H
 obtain ⟨t202, A40, H⟩ := H
 try dsimp only at H
 have A4 := Aside0.mk A40
 clear A40
 obtain rfl := Option.some.inj H
 simp only [Option.some.injEq, Prod.mk.injEq] at H
 obtain ⟨rfl⟩ := H
 go_enter Tryz.func148, Tryz.ntmps148
 go_wp2_with (first | ((with_reducible refine gate_callee (f := 134) rfl ?_); refine goesL_ (some 6) rfl rfl Tryz.func134 (by kernel_rfl) rfl #[.slice A0 l0.length c0] rfl (by (try simp only [List.map_toArray, List.map_cons, List.map_nil]); rfl) ?_; (with_reducible refine (clepsydraref01_digits.calls k _ _ l0 t199 _ ?side1 ?side2 A3.out).mono ?_); (case side1 => exact HR0.out); (case side2 => exact HC0.out); rintro e w5 ⟨v200, rfl, ho0, hb⟩; refine ⟨_, rfl, ?_⟩; have HO201 := Aside0.mk (Kd.R_lower ho0 (below_size HB.out)); replace HB := Aside0.mk (below_step HB.out hb); clear hb ho0; obtain ⟨Ao6, co6, eo6⟩ := Kd.R_slice HO201.out; subst eo6) | ((with_reducible refine gate_callee (f := 177) rfl ?_); refine goesL_ (some 8) rfl rfl Tryz.func177 (by kernel_rfl) rfl #[.slice Ao6 t199.length co6, .int .i64 a1] rfl (by (try simp only [List.map_toArray, List.map_cons, List.map_nil]); rfl) ?_; (with_reducible refine (clepsydraref01_at.calls _ _ t199 a1 t202 _ ?side1 ?side2 A4.out).mono ?_); (case side1 => exact (Kd.R_reads' HO201.out).2.2); (case side2 => exact (Kd.R_reads' HO201.out).2.1); rintro e w' ⟨rfl, ⟨nd, rfl⟩⟩; refine ⟨_, rfl, ?_⟩))
 go_ret
 exact ⟨by rfl, by repeat ((with_reducible first | exact HB.out | apply pw_below_drewN))⟩
end Go.Proofs.YtdmglajfmfjmlaaGreat.Cn
namespace Go.Proofs.YtdmglajfmfjmlaaGreat.Cn
open Go.RowKit Go.Proofs.YtdmglajfmfjmlaaGreatW.PrintWords Go.Proofs.YtdmglajfmfjmlaaGreatW.PrintLast Go.Proofs.YtdmglajfmfjmlaaGreatW.PrintMore
attribute [local go_sem] max2_int min2_int max_two min_two max_three min_three max_four min_four   -- for this text's walks alone
set_option linter.unusedVariables false
set_option linter.unusedSimpArgs false
end Go.Proofs.YtdmglajfmfjmlaaGreat.Cn
namespace Go.Proofs.YtdmglajfmfjmlaaGreat.Cn
open Go.RowKit Go.Proofs.YtdmglajfmfjmlaaGreatW.PrintWords Go.Proofs.YtdmglajfmfjmlaaGreatW.PrintLast Go.Proofs.YtdmglajfmfjmlaaGreatW.PrintMore
attribute [local go_sem] max2_int min2_int max_two min_two max_three min_three max_four min_four   -- for this text's walks alone
set_option linter.unusedVariables false
set_option linter.unusedSimpArgs false
end Go.Proofs.YtdmglajfmfjmlaaGreat.Cn
namespace Go.Proofs.YtdmglajfmfjmlaaGreat
set_option linter.unusedSimpArgs false
set_option linter.unusedVariables false
set_option maxRecDepth 100000
open Go.RowKit Go.Proofs.YtdmglajfmfjmlaaGreatW.PrintWords Go.Proofs.YtdmglajfmfjmlaaGreatW.PrintLast Go.Proofs.YtdmglajfmfjmlaaGreatW.PrintMore
theorem cut_pure {l : List Int} (h : BinL l) (hl : l.length ≤ 4611686018427387904) (n : Nat) : ∀ (k : Nat), n < k → n ≤ l.length → bz (l.take n) = bz l → Cn.clepsydraref01_cut.l0 k l n = some (dg (bz l)) := by
  induction n with
  | zero =>
    intro k hk _ hv
    obtain ⟨k, rfl⟩ : ∃ m, k = m + 1 := ⟨k - 1, by omega⟩
    simp only [Cn.clepsydraref01_cut.l0]
    rw [if_neg (by omega), if_pos (by omega), if_pos (by omega)]
    rw [← hv]
    simp [bz_nil, dg_zero]
  | succ n ih =>
    intro k hk hn hv
    obtain ⟨k, rfl⟩ : ∃ m, k = m + 1 := ⟨k - 1, by omega⟩
    have e : wrap64 (((n + 1 : Nat) : Int) - 1) = (n : Int) := by rw [wr (by omega) (by omega)]; omega
    have hg : l.getD n 0 = l[n] := by rw [List.getD_eq_getElem?_getD, List.getElem?_eq_getElem (by omega)]; rfl
    have ht : l.take (n + 1) = l.take n ++ [l[n]] := List.take_succ_eq_append_getElem (by omega)
    simp only [Cn.clepsydraref01_cut.l0]
    rw [if_pos (by omega), e, if_pos (by omega), if_pos (by omega), rd_getD, hg]
    by_cases h0 : l[n] = 0
    · rw [if_pos h0]
      refine ih k (by omega) (by omega) ?_
      rw [← hv, ht, h0, bz_append]; simp [bz_cons, bz_nil]
    · rw [if_neg h0, if_pos (by omega), if_pos (by omega), Int.toNat_natCast]
      congr 1
      rw [← hv]
      refine (dg_bz (h.take _) fun x hx => ?_).symm
      rw [ht, List.getLast?_concat] at hx
      simp only [Option.some.injEq] at hx
      rw [← hx]; exact h0
theorem cutf_pure {l : List Int} (h : BinL l) (hl : l.length ≤ 4611686018427387904) : ∀ k, l.length < k → Cn.clepsydraref01_cut.f k l = some (dg (bz l)) := fun k hk => by
  unfold Cn.clepsydraref01_cut.f
  exact cut_pure h hl l.length k hk (Nat.le_refl _) (by rw [List.take_length])
theorem digit_step {m : Nat} {l0 out : List Int} (h : okN m l0) {i j : Nat} (hi : i < l0.length) (hj : j < 64) (hb : BinL out) (hl : out.length = 64 * i + j) (hv : bz out = nv (toN l0) % 2 ^ (64 * i + j)) :
    BinL (out ++ [wrap64 (Go.bits .and .u64 (shr .u64 (rd l0 (i : Int)) (IntKind.u64.wrap (j : Int))) 1)]) ∧ bz (out ++ [wrap64 (Go.bits .and .u64 (shr .u64 (rd l0 (i : Int)) (IntKind.u64.wrap (j : Int))) 1)]) = nv (toN l0) % 2 ^ (64 * i + j + 1) := by
  have hg := h.b64.gd i
  have e0 : IntKind.u64.wrap (j : Int) = (j : Int) := wrap_of (by omega)
  have e1 : shr .u64 ((gd (toN l0) i : Nat) : Int) (j : Int) = ((gd (toN l0) i / 2 ^ j : Nat) : Int) := by
    unfold shr
    rw [Int.toNat_natCast, show min j IntKind.u64.bits = j from Nat.min_eq_left (by have : IntKind.u64.bits = 64 := rfl; omega)]
    push_cast; rfl
  have e2 : wrap64 (Go.bits .and .u64 (shr .u64 (rd l0 (i : Int)) (IntKind.u64.wrap (j : Int))) 1) = ((nv (toN l0) / 2 ^ (64 * i + j) % 2 : Nat) : Int) := by
    have hp := limb_part (toN l0) h.b64 i j 1 (by omega)
    rw [rd_toN h hi, e0, e1, nv_bits_and _ (Nat.lt_of_le_of_lt (Nat.div_le_self _ _) hg), wn (by omega)]
    congr 1
  rw [e2]
  refine ⟨hb.append (BinL.one (by omega)), ?_⟩
  rw [bz_append, hl, hv, Nat.mod_pow_succ]; simp only [bz_cons, bz_nil, Int.toNat_natCast, Nat.mul_zero, Nat.add_zero]
theorem digits_loop {l0 : List Int} (h : okN 262144 l0) (D : Nat) : ∀ (k i j : Nat) (out : List Int), 65 * i + j + D = 65 * l0.length → i < l0.length → j ≤ 64 → 2 * D + 64 * l0.length + 2 < k → BinL out → out.length = 64 * i + j → bz out = nv (toN l0) % 2 ^ (64 * i + j) →
    Cn.clepsydraref01_digits.l1 k l0 out i j = some (dg (nI l0)) := by
  induction D using Nat.strongRecOn with
  | ind D ih =>
    intro k i j out hD hi hj hk hb hl hv
    obtain ⟨k, rfl⟩ : ∃ m, k = m + 1 := ⟨k - 1, by omega⟩
    have hm := h.1
    simp only [Cn.clepsydraref01_digits.l1]
    by_cases hj64 : j = 64
    · subst hj64
      rw [if_neg (by omega), wn1 (by omega)]
      obtain ⟨k, rfl⟩ : ∃ m, k = m + 1 := ⟨k - 1, by omega⟩
      simp only [Cn.clepsydraref01_digits.l0]
      by_cases hi2 : i + 1 < l0.length
      · rw [if_pos (by omega)]
        exact ih (D - 1) (by omega) k (i + 1) 0 out (by omega) hi2 (by omega) (by omega) hb (by omega) (by rw [hv]; congr 1)
      · rw [if_neg (by omega), cutf_pure hb (by omega) k (by omega), Option.bind_some, hv]
        congr 2
        unfold nI
        refine Nat.mod_eq_of_lt ?_
        have := nv_lt h.b64
        rw [toN_length, wpow] at this
        rw [show 64 * i + 64 = 64 * l0.length by omega]; exact this
    · obtain ⟨s1, s2⟩ := digit_step h hi (show j < 64 by omega) hb hl hv
      have e0 : IntKind.u64.wrap (j : Int) = (j : Int) := wrap_of (by omega)
      have hb0 : 0 ≤ IntKind.u64.wrap (j : Int) := by rw [e0]; omega
      rw [if_pos (by omega), if_pos (by omega), if_pos (by omega), if_pos hb0, if_pos (by omega), wn1 (by omega)]
      exact ih (D - 1) (by omega) k i (j + 1) _ (by omega) hi (by omega) (by omega) s1 (by rw [List.length_append, hl]; simp; omega) s2
theorem digits_pure {l0 : List Int} (h : okN 262144 l0) : ∀ k, 200 * l0.length + 4 < k → Cn.clepsydraref01_digits.f k l0 = some (dg (nI l0)) := by
  intro k hk
  unfold Cn.clepsydraref01_digits.f
  obtain ⟨k, rfl⟩ : ∃ m, k = m + 1 := ⟨k - 1, by omega⟩
  simp only [Cn.clepsydraref01_digits.l0]
  by_cases h0 : 0 < l0.length
  · rw [if_pos (by omega)]
    exact digits_loop h (65 * l0.length) k 0 0 [] (by omega) h0 (by omega) (by omega) BinL.nil rfl (by simp [bz_nil, Nat.mod_one])
  · have : l0 = [] := List.eq_nil_of_length_eq_zero (by omega)
    subst this
    rw [if_neg (by simp), cutf_pure BinL.nil (by simp) k (by simp; omega), Option.bind_some]
    rfl
theorem at_pure {l : List Int} (h : BinL l) (i : Nat) : Cn.clepsydraref01_at.f l i = some ((bz l / 2 ^ i % 2 : Nat) : Int) := by
  unfold Cn.clepsydraref01_at.f
  rw [if_neg (by omega)]
  have hd := bz_digit h i
  by_cases h1 : i < l.length
  · rw [if_neg (by omega), if_pos (by omega), if_pos (by omega), rd_getD, hd]
  · rw [if_pos (by omega)]
    rw [List.getD_eq_getElem?_getD, List.getElem?_eq_none (by omega)] at hd
    rw [← hd]; rfl
theorem w3 (x y c : Nat) (h : x + y + c ≤ 1000000) : wrap64 (wrap64 ((x : Int) + (y : Int)) + (c : Int)) = ((x + y + c : Nat) : Int) := by
  rw [wr (x := (x : Int) + (y : Int)) (by omega) (by omega), wr (by omega) (by omega)]; omega
theorem wd2 (n : Nat) (h : n ≤ 1000000) : wrap64 (Int.tdiv (n : Int) 2) = ((n / 2 : Nat) : Int) := by rw [Int.tdiv_eq_ediv_of_nonneg (by omega), wr (by omega) (by omega)]; omega
theorem tm2 (n : Nat) : Int.tmod (n : Int) 2 = ((n % 2 : Nat) : Int) := by rw [Int.tmod_eq_emod_of_nonneg (by omega)]; omega
theorem sum_loop {a b : List Int} (ha : BinL a) (hb : BinL b) (hla : a.length ≤ 1073741824) (hlb : b.length ≤ 1073741824) (M : Nat) (hM1 : a.length ≤ M) (hM2 : b.length ≤ M) (hM3 : M = a.length ∨ M = b.length) (D : Nat) : ∀ (k i c : Nat) (out : List Int), i + D = M + 2 → 2 * D + 2 < k → c ≤ 1 → (i = M + 1 → c = 0) → i ≤ M + 1 → BinL out → out.length = i → bz out + 2 ^ i * c = bz a % 2 ^ i + bz b % 2 ^ i →
    ∃ r, Cn.clepsydraref01_sum.l0 k a b out c i = some r ∧ BinL r ∧ bz r = bz a + bz b ∧ r.length ≤ M + 1 := by
  induction D with
  | zero => intro k i c out hi _ _ _ hle; omega
  | succ D ih =>
    intro k i c out hi hk hc hlast hle hbo hlo hv
    obtain ⟨k, rfl⟩ : ∃ m, k = m + 1 := ⟨k - 1, by omega⟩
    obtain ⟨k, rfl⟩ : ∃ m, k = m + 1 := ⟨k - 1, by omega⟩
    have step : (i < M ∨ (i = M ∧ c = 1)) → ∃ r, Cn.clepsydraref01_sum.j1 (k + 1) a b out c i true = some r ∧ BinL r ∧ bz r = bz a + bz b ∧ r.length ≤ M + 1 := by
      intro hcase
      simp only [Cn.clepsydraref01_sum.j1, if_true]
      rw [at_pure ha, Option.bind_some, at_pure hb, Option.bind_some, if_pos (by omega)]
      have ma := mod_next (bz a) i
      have mb := mod_next (bz b) i
      have hai : a.length ≤ i → bz a / 2 ^ i % 2 = 0 := fun h => by rw [Nat.div_eq_of_lt (Nat.lt_of_lt_of_le (bz_lt ha) (Nat.pow_le_pow_right (by omega) h))]
      have hbi : b.length ≤ i → bz b / 2 ^ i % 2 = 0 := fun h => by rw [Nat.div_eq_of_lt (Nat.lt_of_lt_of_le (bz_lt hb) (Nat.pow_le_pow_right (by omega) h))]
      have hx1 : bz a / 2 ^ i % 2 < 2 := Nat.mod_lt _ (by omega)
      have hy1 : bz b / 2 ^ i % 2 < 2 := Nat.mod_lt _ (by omega)
      generalize bz a / 2 ^ i % 2 = x at *
      generalize bz b / 2 ^ i % 2 = y at *
      rw [w3 _ _ _ (by omega), wd2 _ (by omega), tm2, wn1 (by omega)]
      refine ih k (i + 1) ((x + y + c) / 2) _ (by omega) (by omega) (by omega) ?_ (by omega) (hbo.append (BinL.one (by omega))) (by rw [List.length_append, hlo]; rfl) ?_
      · intro h
        have h1 := hai (by omega); have h2 := hbi (by omega)
        omega
      · rw [bz_append, hlo, ma, mb, Nat.pow_succ]
        simp only [bz_cons, bz_nil, Int.toNat_natCast, Nat.mul_zero, Nat.add_zero]
        have e := congrArg (2 ^ i * ·) (Nat.div_add_mod (x + y + c) 2)
        simp only [Nat.mul_add] at e
        rw [← Nat.mul_assoc] at e
        omega
    simp only [Cn.clepsydraref01_sum.l0]
    by_cases h1 : i < a.length
    · rw [if_pos (by omega)]; exact step (by omega)
    · rw [if_neg (by omega)]
      by_cases h2 : i < b.length
      · rw [if_pos (by omega)]; exact step (by omega)
      · rw [if_neg (by omega)]
        by_cases h3 : c = 1
        · subst h3
          rw [show decide (((1 : Nat) : Int) > 0) = true by decide]
          exact step (by omega)
        · obtain rfl : c = 0 := by omega
          rw [show decide (((0 : Nat) : Int) > 0) = false by decide]
          simp only [Cn.clepsydraref01_sum.j1, Bool.false_eq_true, if_false]
          refine ⟨out, rfl, hbo, ?_, by omega⟩
          have la := Nat.lt_of_lt_of_le (bz_lt ha) (Nat.pow_le_pow_right (show 0 < 2 by omega) (show a.length ≤ i by omega))
          have lb := Nat.lt_of_lt_of_le (bz_lt hb) (Nat.pow_le_pow_right (show 0 < 2 by omega) (show b.length ≤ i by omega))
          rw [Nat.mod_eq_of_lt la, Nat.mod_eq_of_lt lb] at hv
          omega
theorem sum_pure {a b : List Int} (ha : BinL a) (hb : BinL b) (hla : a.length ≤ 1073741824) (hlb : b.length ≤ 1073741824) : ∀ k, 2 * (a.length + b.length) + 10 < k → ∃ r, Cn.clepsydraref01_sum.f k a b = some r ∧ BinL r ∧ bz r = bz a + bz b ∧ r.length ≤ max a.length b.length + 1 := by
  intro k hk
  unfold Cn.clepsydraref01_sum.f
  exact sum_loop ha hb hla hlb (max a.length b.length) (by omega) (by omega) (by omega) (max a.length b.length + 2) k 0 0 [] (by omega) (by omega) (by omega) (by omega) (by omega) BinL.nil rfl (by simp [bz_nil, Nat.mod_one])
end Go.Proofs.YtdmglajfmfjmlaaGreat
namespace Go.Proofs.YtdmglajfmfjmlaaGreat
set_option linter.unusedSimpArgs false
set_option linter.unusedVariables false
set_option maxRecDepth 100000
open Go.RowKit Go.Proofs.YtdmglajfmfjmlaaGreatW.PrintWords Go.Proofs.YtdmglajfmfjmlaaGreatW.PrintLast Go.Proofs.YtdmglajfmfjmlaaGreatW.PrintMore
theorem wsub (x y c : Nat) (h : x ≤ 1) (h' : y ≤ 1) (h'' : c ≤ 1) : wrap64 (wrap64 ((x : Int) - (y : Int)) - (c : Int)) = (x : Int) - y - c := by
  rw [wr (x := (x : Int) - (y : Int)) (by omega) (by omega), wr (by omega) (by omega)]
theorem take_loop {a b : List Int} (ha : BinL a) (hb : BinL b) (hla : a.length ≤ 1073741824) (hab : bz b ≤ bz a) (D : Nat) : ∀ (k i c : Nat) (out : List Int), i + D = a.length → D + a.length + 1 < k → c ≤ 1 → BinL out → out.length = i → bz out + bz b % 2 ^ i = bz a % 2 ^ i + 2 ^ i * c →
    Cn.clepsydraref01_take.l0 k a b out c i = some (dg (bz a - bz b)) := by
  induction D with
  | zero =>
    intro k i c out hi hk hc hbo hlo hv
    obtain ⟨k, rfl⟩ : ∃ m, k = m + 1 := ⟨k - 1, by omega⟩
    obtain rfl : i = a.length := by omega
    simp only [Cn.clepsydraref01_take.l0]
    rw [if_neg (by omega), cutf_pure hbo (by omega) k (by omega), Option.bind_some]
    have h1 := bz_lt ha
    rw [Nat.mod_eq_of_lt h1, Nat.mod_eq_of_lt (Nat.lt_of_le_of_lt hab h1)] at hv
    have h2 := bz_lt hbo
    rw [hlo] at h2
    have : c = 0 := by
      rcases Nat.eq_zero_or_pos c with h | h
      · exact h
      · have := Nat.mul_le_mul_left (2 ^ a.length) h; omega
    subst this
    congr 2; omega
  | succ D ih =>
    intro k i c out hi hk hc hbo hlo hv
    obtain ⟨k, rfl⟩ : ∃ m, k = m + 1 := ⟨k - 1, by omega⟩
    have ma := mod_next (bz a) i
    have mb := mod_next (bz b) i
    have hx1 : bz a / 2 ^ i % 2 < 2 := Nat.mod_lt _ (by omega)
    have hy1 : bz b / 2 ^ i % 2 < 2 := Nat.mod_lt _ (by omega)
    simp only [Cn.clepsydraref01_take.l0]
    rw [if_pos (by omega), at_pure ha, Option.bind_some, at_pure hb, Option.bind_some]
    generalize bz a / 2 ^ i % 2 = x at *
    generalize bz b / 2 ^ i % 2 = y at *
    rw [wsub x y c (by omega) (by omega) hc]
    have key : ∀ (s c' : Nat), s ≤ 1 → s + y + c = x + 2 * c' → bz (out ++ [(s : Int)]) + bz b % 2 ^ (i + 1) = bz a % 2 ^ (i + 1) + 2 ^ (i + 1) * c' := by
      intro s c' hs he
      rw [bz_append, hlo, ma, mb, Nat.pow_succ]
      simp only [bz_cons, bz_nil, Int.toNat_natCast, Nat.mul_zero, Nat.add_zero]
      have e := congrArg (2 ^ i * ·) he
      simp only [Nat.mul_add] at e
      rw [← Nat.mul_assoc] at e
      omega
    by_cases h : (x : Int) - y - c < 0
    · rw [if_pos h, if_pos (by omega), wn1 (by omega)]
      obtain ⟨s, hs⟩ : ∃ s : Nat, s + y + c = x + 2 := ⟨x + 2 - y - c, by omega⟩
      have es : wrap64 ((x : Int) - y - c + 2) = (s : Int) := by rw [wr (by omega) (by omega)]; omega
      rw [es]
      clear es
      exact ih k (i + 1) 1 _ (by omega) (by omega) (by omega) (hbo.append (BinL.one (by omega))) (by rw [List.length_append, hlo]; rfl) (key s 1 (by omega) (by omega))
    · rw [if_neg h, if_pos (by omega), wn1 (by omega)]
      obtain ⟨s, hs⟩ : ∃ s : Nat, s + y + c = x := ⟨x - y - c, by omega⟩
      rw [show (x : Int) - y - c = (s : Int) by omega]
      exact ih k (i + 1) 0 _ (by omega) (by omega) (by omega) (hbo.append (BinL.one (by omega))) (by rw [List.length_append, hlo]; rfl) (key s 0 (by omega) (by omega))
theorem take_pure {a b : List Int} (ha : BinL a) (hb : BinL b) (hla : a.length ≤ 1073741824) (hab : bz b ≤ bz a) : ∀ k, 2 * a.length + 1 < k → Cn.clepsydraref01_take.f k a b = some (dg (bz a - bz b)) := by
  intro k hk
  unfold Cn.clepsydraref01_take.f
  exact take_loop ha hb hla hab a.length k 0 0 [] (by omega) (by omega) (by omega) BinL.nil rfl (by simp [bz_nil, Nat.mod_one])
theorem bz_zeros (n : Nat) (l : List Int) : bz (List.replicate n 0 ++ l) = 2 ^ n * bz l := by
  induction n with
  | zero => simp
  | succ n ih => rw [List.replicate_succ, List.cons_append, bz_cons, ih, Nat.pow_succ]; simp; rw [Nat.mul_comm (2 ^ n) 2, Nat.mul_assoc]
theorem moved_loop {l : List Int} (hl : l.length ≤ 1073741824) (h0 : 0 < l.length) (n : Nat) (hn : n ≤ 1073741824) (D : Nat) : ∀ (k i : Nat), i + D = n → D < k → Cn.clepsydraref01_moved.l0 k l n (List.replicate i 0) i = some (List.replicate n 0 ++ l) := by
  induction D with
  | zero =>
    intro k i hi hk
    obtain ⟨k, rfl⟩ : ∃ m, k = m + 1 := ⟨k - 1, by omega⟩
    obtain rfl : i = n := by omega
    simp only [Cn.clepsydraref01_moved.l0]
    rw [if_neg (by omega), if_pos (by rw [List.length_replicate]; omega)]
  | succ D ih =>
    intro k i hi hk
    obtain ⟨k, rfl⟩ : ∃ m, k = m + 1 := ⟨k - 1, by omega⟩
    have := ih k (i + 1) (by omega) (by omega)
    simp only [Cn.clepsydraref01_moved.l0]
    rw [if_pos (by omega), if_pos (by omega), if_pos (by rw [List.length_replicate]; omega), wn1 (by omega)]
    rw [List.replicate_succ'] at this
    exact this
theorem moved_pure {l : List Int} (h : BinL l) (hl : l.length ≤ 1073741824) (n : Nat) (hn : n ≤ 1073741824) : ∀ k, n < k → ∃ r, Cn.clepsydraref01_moved.f k l n = some r ∧ BinL r ∧ bz r = bz l * 2 ^ n ∧ r.length ≤ n + l.length := by
  intro k hk
  unfold Cn.clepsydraref01_moved.f
  by_cases h0 : 0 < l.length
  · refine ⟨_, moved_loop hl h0 n hn n k 0 (by omega) hk, (BinL.replicate n).append h, ?_, by simp⟩
    rw [bz_zeros, Nat.mul_comm]
  · have : l = [] := List.eq_nil_of_length_eq_zero (by omega)
    subst this
    obtain ⟨k, rfl⟩ : ∃ m, k = m + 1 := ⟨k - 1, by omega⟩
    refine ⟨[], ?_, BinL.nil, by simp [bz_nil], by simp⟩
    simp only [Cn.clepsydraref01_moved.l0]
    split
    · rw [if_neg (by simp), if_pos (by simp)]; rfl
    · rw [if_pos (by simp)]; rfl
theorem number_pure {l : List Int} (h : BinL l) (hl : l.length ≤ 1073741824) : Cn.clepsydraref01_number.f l = some (ofN (bz l)) := if_pos (h.binI hl)
theorem dgl {n m : Nat} (h : ln n ≤ m) : (dg n).length ≤ 64 * m := by
  rw [dg_length]
  exact blen_le.2 (by have := ln_le.1 h; rwa [wpow] at this)
theorem mul_loop (x y : Nat) (hx : (dg x).length ≤ 16777216) (hy : (dg y).length ≤ 16777216) (D : Nat) : ∀ (k i : Nat) (out : List Int), i + D = (dg y).length → D + 4 * (dg x).length + 6 * (dg y).length + 20 < k → BinL out → out.length ≤ (dg x).length + i + 1 → bz out = x * (y % 2 ^ i) →
    Cn.clepsydraref01_Mul.l0 k (dg x) (dg y) out i = some (ofN (x * y)) := by
  induction D with
  | zero =>
    intro k i out hi hk hbo hlo hv
    obtain ⟨k, rfl⟩ : ∃ m, k = m + 1 := ⟨k - 1, by omega⟩
    simp only [Cn.clepsydraref01_Mul.l0]
    rw [if_neg (by omega), number_pure hbo (by omega), Option.bind_some, hv]
    have := bz_lt (dg_bin y)
    rw [bz_dg] at this
    rw [Nat.mod_eq_of_lt (show y < 2 ^ i by rw [show i = (dg y).length by omega]; exact this)]
  | succ D ih =>
    intro k i out hi hk hbo hlo hv
    obtain ⟨k, rfl⟩ : ∃ m, k = m + 1 := ⟨k - 1, by omega⟩
    have my := mod_next y i
    have hd := bz_digit (dg_bin y) i
    rw [bz_dg] at hd
    have hy1 : y / 2 ^ i % 2 < 2 := Nat.mod_lt _ (by omega)
    simp only [Cn.clepsydraref01_Mul.l0]
    rw [if_pos (by omega), if_pos (by omega), rd_getD, hd, wn1 (by omega)]
    generalize y / 2 ^ i % 2 = d at *
    rcases (show d = 0 ∨ d = 1 by omega) with rfl | rfl
    · rw [if_neg (by decide)]
      exact ih k (i + 1) out (by omega) (by omega) hbo (by omega) (by rw [hv, my, Nat.mul_zero, Nat.add_zero])
    · rw [if_pos (by decide)]
      obtain ⟨r, e1, b1, v1, l1⟩ := moved_pure (dg_bin x) (by omega) i (by omega) k (by omega)
      rw [e1, Option.bind_some]
      obtain ⟨r2, e2, b2, v2, l2⟩ := sum_pure hbo b1 (by omega) (by omega) k (by omega)
      rw [e2, Option.bind_some]
      refine ih k (i + 1) r2 (by omega) (by omega) b2 (by omega) ?_
      rw [v2, v1, hv, bz_dg, my, Nat.mul_one, Nat.mul_add]
end Go.Proofs.YtdmglajfmfjmlaaGreat
namespace Go.Proofs.YtdmglajfmfjmlaaGreat
set_option linter.unusedSimpArgs false
set_option linter.unusedVariables false
set_option maxRecDepth 100000
open Go.RowKit Go.Proofs.YtdmglajfmfjmlaaGreatW.PrintWords Go.Proofs.YtdmglajfmfjmlaaGreatW.PrintLast Go.Proofs.YtdmglajfmfjmlaaGreatW.PrintMore
section
variable {l0 l1 : List Int} (h0 : okN 262144 l0) (h1 : okN 262144 l1)
include h0
theorem rtrim_pure : Cn.clepsydraref01_Trim.f 1000000000 l0 = some (ofN (nI l0)) := by
  have hm := h0.1
  have d0 := dgl (ln_nI h0)
  unfold Cn.clepsydraref01_Trim.f
  rw [digits_pure h0 _ (by omega), Option.bind_some, number_pure (dg_bin _) (by omega), Option.bind_some, bz_dg]
theorem rbits_pure : Cn.clepsydraref01_Bits.f 1000000000 l0 = some ((blen (nI l0) : Nat) : Int) := by
  have hm := h0.1
  unfold Cn.clepsydraref01_Bits.f
  rw [digits_pure h0 _ (by omega), Option.bind_some, dg_length]
theorem rbit_pure (i : Int) : Cn.clepsydraref01_Bit.f 1000000000 l0 i = some (if i < 0 then 0 else ((nI l0 / 2 ^ i.toNat % 2 : Nat) : Int)) := by
  have hm := h0.1
  unfold Cn.clepsydraref01_Bit.f
  rw [digits_pure h0 _ (by omega), Option.bind_some]
  by_cases hi : i < 0
  · rw [if_pos hi]
    unfold Cn.clepsydraref01_at.f
    rw [if_pos hi]; rfl
  · obtain ⟨j, rfl⟩ : ∃ j : Nat, i = j := ⟨i.toNat, by omega⟩
    rw [if_neg hi, at_pure (dg_bin _), Option.bind_some, bz_dg, Int.toNat_natCast]
include h1
theorem radd_pure : Cn.clepsydraref01_Add.f 1000000000 l0 l1 = some (ofN (nI l0 + nI l1)) := by
  have hm := h0.1; have hm1 := h1.1
  have d0 := dgl (ln_nI h0); have d1 := dgl (ln_nI h1)
  unfold Cn.clepsydraref01_Add.f
  rw [digits_pure h0 _ (by omega), Option.bind_some, digits_pure h1 _ (by omega), Option.bind_some]
  obtain ⟨r, e, b, v, l⟩ := sum_pure (dg_bin (nI l0)) (dg_bin (nI l1)) (by omega) (by omega) 1000000000 (by omega)
  rw [e, Option.bind_some, number_pure b (by omega), Option.bind_some, v, bz_dg, bz_dg]
theorem rmul_pure : Cn.clepsydraref01_Mul.f 1000000000 l0 l1 = some (ofN (nI l0 * nI l1)) := by
  have hm := h0.1; have hm1 := h1.1
  have d0 := dgl (ln_nI h0); have d1 := dgl (ln_nI h1)
  unfold Cn.clepsydraref01_Mul.f
  rw [digits_pure h0 _ (by omega), Option.bind_some, digits_pure h1 _ (by omega), Option.bind_some]
  exact mul_loop _ _ (by omega) (by omega) (dg (nI l1)).length _ 0 [] (by omega) (by omega) BinL.nil (by simp) (by simp [bz_nil, Nat.mod_one])
theorem less_dg : Cn.clepsydraref01_less.f (dg (nI l0)) (dg (nI l1)) = some (decide (nI l0 < nI l1)) := by
  have d0 := dgl (ln_nI h0); have d1 := dgl (ln_nI h1)
  have : Cn.clepsydraref01_less.f (dg (nI l0)) (dg (nI l1)) = some (decide (bz (dg (nI l0)) < bz (dg (nI l1)))) := if_pos ⟨(dg_bin _).binI (by omega), (dg_bin _).binI (by omega)⟩
  rw [this, bz_dg, bz_dg]
theorem rcmp_pure : Cn.clepsydraref01_Cmp.f 1000000000 l0 l1 = some (cmpN (nI l0) (nI l1)) := by
  have hm := h0.1; have hm1 := h1.1
  unfold Cn.clepsydraref01_Cmp.f
  rw [digits_pure h0 _ (by omega), Option.bind_some, digits_pure h1 _ (by omega), Option.bind_some, less_dg h0 h1, Option.bind_some, less_dg h1 h0, Option.bind_some]
  unfold cmpN
  by_cases h : nI l0 < nI l1
  · rw [if_pos (by simpa using h), if_pos h]
  · rw [if_neg (by simpa using h), if_neg h]
    by_cases h' : nI l1 < nI l0
    · rw [if_pos (by simpa using h'), if_pos h']
    · rw [if_neg (by simpa using h'), if_neg h']
theorem rsub_pure : Cn.clepsydraref01_Sub.f 1000000000 l0 l1 = some (ofN (nI l0 - nI l1), (if nI l0 < nI l1 then 10 else 0 : Int)) := by
  have hm := h0.1; have hm1 := h1.1
  have d0 := dgl (ln_nI h0); have d1 := dgl (ln_nI h1)
  unfold Cn.clepsydraref01_Sub.f
  rw [digits_pure h0 _ (by omega), Option.bind_some, digits_pure h1 _ (by omega), Option.bind_some, less_dg h0 h1, Option.bind_some]
  by_cases h : nI l0 < nI l1
  · rw [if_pos (by simpa using h), if_pos h, show nI l0 - nI l1 = 0 by omega, ofN_zero]
  · rw [if_neg (by simpa using h), if_neg h, take_pure (dg_bin _) (dg_bin _) (by omega) (by rw [bz_dg, bz_dg]; omega) _ (by omega), Option.bind_some, bz_dg, bz_dg]
    have d2 := dgl (lns (b := nI l1) (ln_nI h0))
    rw [number_pure (dg_bin _) (by omega), Option.bind_some, bz_dg]
end
end Go.Proofs.YtdmglajfmfjmlaaGreat
namespace Go.Proofs.YtdmglajfmfjmlaaGreat
set_option linter.unusedSimpArgs false
set_option linter.unusedVariables false
set_option maxRecDepth 100000
open Go.RowKit Go.Proofs.YtdmglajfmfjmlaaGreatW.PrintWords Go.Proofs.YtdmglajfmfjmlaaGreatW.PrintLast Go.Proofs.YtdmglajfmfjmlaaGreatW.PrintMore
def dN (n : Nat) : List Nat := toN (dg n)
structure RDiv (x y i r : Nat) (qs : List Nat) : Prop where
  val : x / 2 ^ i = bvN (qs.drop i) * y + r
  low : r < y
  bin : Bin qs
theorem Bin.set {xs : List Nat} (h : Bin xs) (j : Nat) {y : Nat} (hy : y ≤ 1) : Bin (xs.set j y) := fun x hx => by
  rcases List.mem_or_eq_of_mem_set hx with hx | rfl
  · exact h x hx
  · exact hy
theorem RDiv.done {x y r : Nat} {qs : List Nat} (h : RDiv x y 0 r qs) : bvN qs = x / y ∧ r = x % y := by
  have hv := h.val
  have hl := h.low
  simp only [Nat.pow_zero, Nat.div_one, List.drop_zero] at hv
  have hy : 0 < y := by omega
  constructor
  · rw [hv, Nat.add_comm, Nat.add_mul_div_right _ _ hy, Nat.div_eq_of_lt hl, Nat.zero_add]
  · rw [hv, Nat.add_comm, Nat.add_mul_mod_self_right, Nat.mod_eq_of_lt hl]
end Go.Proofs.YtdmglajfmfjmlaaGreat
namespace Go.Proofs.YtdmglajfmfjmlaaGreat
set_option linter.unusedSimpArgs false
set_option linter.unusedVariables false
set_option maxRecDepth 100000
open Go.RowKit
structure RDivW (w0 wr : World) (lx ly cx cy gq cq rn rc : Nat) (AX AY AR : Option Addr) (x y r : Nat) (qs : List Nat) : Prop where
  rx : Rd .i64 wr AX lx cx (dN x)
  ry : Rd .i64 wr AY ly cy (dN y)
  rr : Rd .i64 wr AR rn rc (dN r)
  q : Own .i64 3 wr w0.heap.size (some ⟨gq, 0, none⟩) lx cq qs
  nx : ∀ ad, AX = some ad → ad.block ≠ gq
  ny : ∀ ad, AY = some ad → ad.block ≠ gq
  nr : ∀ ad, AR = some ad → ad.block ≠ gq
  bel : Below w0.heap.size w0 wr
theorem RDivW.below {w0 wr w1 : World} {lx ly cx cy gq cq rn rc rn' rc' : Nat} {AX AY AR AR' : Option Addr} {x y r r' : Nat} {qs : List Nat} (h : RDivW w0 wr lx ly cx cy gq cq rn rc AX AY AR x y r qs) (hb : Below wr.heap.size wr w1) (hr : Rd .i64 w1 AR' rn' rc' (dN r')) (hn : ∀ ad, AR' = some ad → ad.block ≠ gq) : RDivW w0 w1 lx ly cx cy gq cq rn' rc' AX AY AR' x y r' qs :=
  ⟨h.rx.below hb, h.ry.below hb, hr, h.q.below hb, h.nx, h.ny, hn, h.bel.trans (hb.mono h.bel.size)⟩
theorem RDivW.store {w0 wr : World} {lx ly cx cy gq cq rn rc : Nat} {AX AY AR : Option Addr} {x y r : Nat} {qs : List Nat} (h : RDivW w0 wr lx ly cx cy gq cq rn rc AX AY AR x y r qs) (j d : Nat) (hg : w0.heap.size ≤ gq) : RDivW w0 (wr.setCell ⟨gq, j, none⟩ (.int .i64 (d : Int))) lx ly cx cy gq cq rn rc AX AY AR x y r (qs.set j d) :=
  ⟨h.rx.grown (grown_set (grown_refl _ _) _ _) h.nx, h.ry.grown (grown_set (grown_refl _ _) _ _) h.ny, h.rr.grown (grown_set (grown_refl _ _) _ _) h.nr, h.q.store j d, h.nx, h.ny, h.nr, h.bel.setCell (p := ⟨gq, j, none⟩) hg _⟩
end Go.Proofs.YtdmglajfmfjmlaaGreat
namespace Go.Proofs.YtdmglajfmfjmlaaGreat
set_option linter.unusedSimpArgs false
set_option linter.unusedVariables false
set_option maxRecDepth 100000
open Go.RowKit Go.Proofs.YtdmglajfmfjmlaaGreatW.PrintWords Go.Proofs.YtdmglajfmfjmlaaGreatW.PrintLast Go.Proofs.YtdmglajfmfjmlaaGreatW.PrintMore
section
variable {A0 A1 : Option Addr} {c0 c1 : Nat} {l0 l1 : List Int} {w : World}
theorem rtrim_giv {r : List Int} (hr0 : Kd.C (Kd.int .u64) w A0 l0.length l0) (hc0 : l0.length ≤ c0) (h : (if okN 262144 l0 then some (ofN (nI l0)) else none) = some r) :
    Calls Tryz.prog 185 #[.slice A0 l0.length c0] w fun e w' => ∃ v0_ : Value, e = .returned (v0_) ∧ Kd.R (Kd.int .u64) 23 w' w.heap.size (fun _ => True) v0_ r ∧ Below w.heap.size w w' := by
  obtain ⟨h0, rfl⟩ := of_ite h
  exact Cn.clepsydraref01_Trim.calls _ _ _ _ _ _ hr0 hc0 (rtrim_pure h0)
theorem rbits_giv {r : Int} (hr0 : Kd.C (Kd.int .u64) w A0 l0.length l0) (hc0 : l0.length ≤ c0) (h : (if okN 262144 l0 then some ((blen (nI l0) : Nat) : Int) else none) = some r) :
    Calls Tryz.prog 65 #[.slice A0 l0.length c0] w fun e w' => e = .returned (.int .i64 r) ∧ Below w.heap.size w w' := by
  obtain ⟨h0, rfl⟩ := of_ite h
  exact Cn.clepsydraref01_Bits.calls _ _ _ _ _ _ hr0 hc0 (rbits_pure h0)
theorem rbit_giv {a1 r : Int} (hr0 : Kd.C (Kd.int .u64) w A0 l0.length l0) (hc0 : l0.length ≤ c0) (h : (if okN 262144 l0 then some (if a1 < 0 then 0 else ((nI l0 / 2 ^ a1.toNat % 2 : Nat) : Int)) else none) = some r) :
    Calls Tryz.prog 148 #[.slice A0 l0.length c0, .int .i64 a1] w fun e w' => e = .returned (.int .i64 r) ∧ Below w.heap.size w w' := by
  obtain ⟨h0, rfl⟩ := of_ite h
  exact Cn.clepsydraref01_Bit.calls _ _ _ _ _ _ _ hr0 hc0 (rbit_pure h0 a1)
theorem rcmp_giv {r : Int} (hr0 : Kd.C (Kd.int .u64) w A0 l0.length l0) (hc0 : l0.length ≤ c0) (hr1 : Kd.C (Kd.int .u64) w A1 l1.length l1) (hc1 : l1.length ≤ c1) (h : (if okN 262144 l0 ∧ okN 262144 l1 then some (cmpN (nI l0) (nI l1)) else none) = some r) :
    Calls Tryz.prog 66 #[.slice A0 l0.length c0, .slice A1 l1.length c1] w fun e w' => e = .returned (.int .i64 r) ∧ Below w.heap.size w w' := by
  obtain ⟨⟨h0, h1⟩, rfl⟩ := of_ite h
  exact Cn.clepsydraref01_Cmp.calls _ _ _ _ _ _ _ _ _ hr0 hc0 hr1 hc1 (rcmp_pure h0 h1)
theorem rmul_giv {r : List Int} (hr0 : Kd.C (Kd.int .u64) w A0 l0.length l0) (hc0 : l0.length ≤ c0) (hr1 : Kd.C (Kd.int .u64) w A1 l1.length l1) (hc1 : l1.length ≤ c1) (h : (if okN 262144 l0 ∧ okN 262144 l1 then some (ofN (nI l0 * nI l1)) else none) = some r) :
    Calls Tryz.prog 71 #[.slice A0 l0.length c0, .slice A1 l1.length c1] w fun e w' => ∃ v0_ : Value, e = .returned (v0_) ∧ Kd.R (Kd.int .u64) 23 w' w.heap.size (fun _ => True) v0_ r ∧ Below w.heap.size w w' := by
  obtain ⟨⟨h0, h1⟩, rfl⟩ := of_ite h
  exact Cn.clepsydraref01_Mul.calls _ _ _ _ _ _ _ _ _ hr0 hc0 hr1 hc1 (rmul_pure h0 h1)
theorem rsub_giv {r1 : List Int} {r2 : Int} (hr0 : Kd.C (Kd.int .u64) w A0 l0.length l0) (hc0 : l0.length ≤ c0) (hr1 : Kd.C (Kd.int .u64) w A1 l1.length l1) (hc1 : l1.length ≤ c1) (h : (if okN 262144 l0 ∧ okN 262144 l1 then some (ofN (nI l0 - nI l1), (if nI l0 < nI l1 then 10 else 0 : Int)) else none) = some (r1, r2)) :
    Calls Tryz.prog 113 #[.slice A0 l0.length c0, .slice A1 l1.length c1] w fun e w' => ∃ v0_ : Value, e = .returned (.tuple #[v0_, .int .i64 r2]) ∧ Kd.R (Kd.int .u64) 23 w' w.heap.size (fun _ => True) v0_ r1 ∧ Below w.heap.size w w' := by
  obtain ⟨⟨h0, h1⟩, h⟩ := of_ite h
  exact Cn.clepsydraref01_Sub.calls _ _ _ _ _ _ _ _ _ _ hr0 hc0 hr1 hc1 ((rsub_pure h0 h1).trans (congrArg some h))
end
end Go.Proofs.YtdmglajfmfjmlaaGreat
namespace Go.Proofs.YtdmglajfmfjmlaaGreat.D
def nv : List Nat → Nat
  | [] => 0
  | x :: xs => x + 65536 * nv xs
def dgs (n : Nat) : List Nat := if h : n = 0 then [] else (n % 65536) :: dgs (n / 65536)
termination_by n
decreasing_by exact Nat.div_lt_self (Nat.pos_of_ne_zero h) (by omega)
def D16 (xs : List Nat) : Prop := ∀ x ∈ xs, x < 65536
def ln (n : Nat) : Nat := (dgs n).length
theorem dgs_zero : dgs 0 = [] := by rw [dgs]; simp
theorem dgs_pos {n : Nat} (h : n ≠ 0) : dgs n = (n % 65536) :: dgs (n / 65536) := by rw [dgs]; simp [h]
theorem D16.nil : D16 [] := fun x hx => by cases hx
theorem D16.cons {x : Nat} {xs : List Nat} (h : x < 65536) (hs : D16 xs) : D16 (x :: xs) := fun y hy => by
  rcases List.mem_cons.1 hy with rfl | hy
  · exact h
  · exact hs y hy
theorem D16.head {x : Nat} {xs : List Nat} (h : D16 (x :: xs)) : x < 65536 := h x (by simp)
theorem D16.tail {x : Nat} {xs : List Nat} (h : D16 (x :: xs)) : D16 xs := fun y hy => h y (by simp [hy])
theorem D16.get {xs : List Nat} (h : D16 xs) {j x : Nat} (hx : xs[j]? = some x) : x < 65536 := h x (List.mem_of_getElem? hx)
theorem D16.gd {xs : List Nat} (h : D16 xs) (j : Nat) : gd xs j < 65536 := by
  rcases Nat.lt_or_ge j xs.length with hj | hj
  · exact h.get (gd_get hj)
  · rw [gd_ge hj]; omega
theorem D16.take {xs : List Nat} (h : D16 xs) (k : Nat) : D16 (xs.take k) := fun x hx => h x (List.mem_of_mem_take hx)
theorem D16.append {xs ys : List Nat} (h : D16 xs) (h' : D16 ys) : D16 (xs ++ ys) := fun x hx => by
  rcases List.mem_append.1 hx with hx | hx
  · exact h x hx
  · exact h' x hx
theorem D16.set {xs : List Nat} (h : D16 xs) {j y : Nat} (hy : y < 65536) : D16 (xs.set j y) := fun x hx => by
  rcases List.mem_or_eq_of_mem_set hx with hx | rfl
  · exact h x hx
  · exact hy
theorem D16.replicate (n : Nat) : D16 (List.replicate n 0) := fun x hx => by rw [List.eq_of_mem_replicate hx]; omega
theorem dgs_b64 (n : Nat) : D16 (dgs n) := by
  induction n using Nat.strongRecOn with
  | ind n ih =>
    by_cases h : n = 0
    · subst h; rw [dgs_zero]; exact D16.nil
    · rw [dgs_pos h]; exact D16.cons (Nat.mod_lt _ (by omega)) (ih _ (Nat.div_lt_self (Nat.pos_of_ne_zero h) (by omega)))
theorem nv_dgs (n : Nat) : nv (dgs n) = n := by
  induction n using Nat.strongRecOn with
  | ind n ih =>
    by_cases h : n = 0
    · subst h; rw [dgs_zero]; rfl
    · rw [dgs_pos h, nv, ih _ (Nat.div_lt_self (Nat.pos_of_ne_zero h) (by omega))]; omega
theorem nv_append (xs ys : List Nat) : nv (xs ++ ys) = nv xs + 65536 ^ xs.length * nv ys := by
  induction xs with
  | nil => simp [nv]
  | cons x xs ih => simp only [List.cons_append, nv, ih, List.length_cons, Nat.pow_succ]; rw [Nat.mul_add, Nat.mul_comm (65536 ^ xs.length) 65536, Nat.mul_assoc]; omega
theorem nv_lt {xs : List Nat} (h : D16 xs) : nv xs < 65536 ^ xs.length := by
  induction xs with
  | nil => simp [nv]
  | cons x xs ih =>
    have := ih h.tail
    have hx := h.head
    simp only [nv, List.length_cons, Nat.pow_succ]
    omega
theorem nv_replicate (n : Nat) : nv (List.replicate n 0) = 0 := by
  induction n with
  | zero => rfl
  | succ n ih => simp [List.replicate_succ, nv, ih]
theorem dgs_nv {xs : List Nat} (h : D16 xs) (hl : ∀ x, xs.getLast? = some x → x ≠ 0) : dgs (nv xs) = xs := by
  induction xs with
  | nil => simp [nv, dgs_zero]
  | cons x xs ih =>
    have hx := h.head
    have e : nv xs = 0 → xs = [] := by
      intro h0
      rcases xs with _ | ⟨y, ys⟩
      · rfl
      · exfalso
        have hl' : ∀ z, (y :: ys).getLast? = some z → z ≠ 0 := fun z hz => hl z (by simpa [List.getLast?_cons_cons] using hz)
        have := ih h.tail hl'
        rw [h0, dgs_zero] at this
        cases this
    have hne : nv (x :: xs) ≠ 0 := by
      intro h0
      simp only [nv] at h0
      have h1 : nv xs = 0 := by omega
      have h2 := e h1
      subst h2
      exact hl x (by simp) (by omega)
    rw [dgs_pos hne]
    have e1 : nv (x :: xs) % 65536 = x := by simp only [nv]; omega
    have e2 : nv (x :: xs) / 65536 = nv xs := by simp only [nv]; omega
    rw [e1, e2]
    rcases xs with _ | ⟨y, ys⟩
    · simp [nv, dgs_zero]
    · rw [ih h.tail fun z hz => hl z (by simpa [List.getLast?_cons_cons] using hz)]
theorem ln_zero : ln 0 = 0 := by unfold ln; rw [dgs_zero]; rfl
theorem ln_pos {n : Nat} (h : n ≠ 0) : ln n = ln (n / 65536) + 1 := by unfold ln; rw [dgs_pos h]; rfl
theorem ln_le {n k : Nat} : ln n ≤ k ↔ n < 65536 ^ k := by
  induction k generalizing n with
  | zero =>
    by_cases h : n = 0
    · subst h; simp [ln_zero]
    · rw [ln_pos h]; simp; omega
  | succ k ih =>
    by_cases h : n = 0
    · subst h; rw [ln_zero]; exact ⟨fun _ => Nat.pow_pos (by omega), fun _ => by omega⟩
    · rw [ln_pos h, Nat.add_le_add_iff_right, ih, Nat.pow_succ, Nat.div_lt_iff_lt_mul (by omega)]
theorem ln_mono {a b : Nat} (h : a ≤ b) : ln a ≤ ln b := ln_le.2 (Nat.lt_of_le_of_lt h (ln_le.1 (Nat.le_refl _)))
theorem lt_ln (n : Nat) : n < 65536 ^ ln n := ln_le.1 (Nat.le_refl _)
theorem ln_nv {xs : List Nat} (h : D16 xs) : ln (nv xs) ≤ xs.length := ln_le.2 (nv_lt h)
theorem ln_add (a b k : Nat) (ha : ln a ≤ k) (hb : ln b ≤ k) : ln (a + b) ≤ k + 1 := by
  rw [ln_le] at *; rw [Nat.pow_succ]; omega
theorem ln_mul (a b : Nat) : ln (a * b) ≤ ln a + ln b := by
  rw [ln_le, Nat.pow_add]
  exact Nat.mul_lt_mul_of_lt_of_le (lt_ln a) (Nat.le_of_lt (lt_ln b)) (Nat.zero_lt_of_lt (lt_ln b))
theorem ln_div (a b : Nat) : ln (a / b) ≤ ln a := ln_mono (Nat.div_le_self _ _)
theorem ln_small {n : Nat} (h : n < 65536) : ln n ≤ 1 := ln_le.2 (by simpa using h)
theorem nv_take_succ {xs : List Nat} {k : Nat} (h : k < xs.length) : nv (xs.take (k + 1)) = nv (xs.take k) + 65536 ^ k * gd xs k := by
  rw [List.take_succ_eq_append_getElem h, nv_append, List.length_take, Nat.min_eq_left (by omega)]
  rw [gd_lt h]; simp [nv]
theorem nv_take_ge {xs : List Nat} {k : Nat} (h : xs.length ≤ k) : nv (xs.take (k + 1)) = nv (xs.take k) + 65536 ^ k * gd xs k := by
  rw [List.take_of_length_le (by omega), List.take_of_length_le h]
  rw [gd_ge h]; simp
theorem nv_take (xs : List Nat) (k : Nat) : nv (xs.take (k + 1)) = nv (xs.take k) + 65536 ^ k * gd xs k := by
  rcases Nat.lt_or_ge k xs.length with h | h
  · exact nv_take_succ h
  · exact nv_take_ge h
theorem nv_take_lt {xs : List Nat} (h : D16 xs) (k : Nat) : nv (xs.take k) < 65536 ^ k := by
  refine Nat.lt_of_lt_of_le (nv_lt (h.take k)) (Nat.pow_le_pow_right (by omega) ?_)
  rw [List.length_take]; omega
theorem nv_split (xs : List Nat) (k : Nat) (h : k ≤ xs.length) : nv xs = nv (xs.take k) + 65536 ^ k * nv (xs.drop k) := by
  have := nv_append (xs.take k) (xs.drop k)
  rw [List.take_append_drop, List.length_take, Nat.min_eq_left h] at this
  exact this
theorem lt_digit {a b P X Y : Nat} (ha : a < P) (h : X < Y) : a + P * X < b + P * Y := by
  have := Nat.mul_le_mul_left P (show X + 1 ≤ Y from h)
  rw [Nat.mul_add] at this; omega
def Alike (xs ys : List Nat) (k : Nat) : Prop := ∃ H, nv xs = nv (xs.take k) + 65536 ^ k * H ∧ nv ys = nv (ys.take k) + 65536 ^ k * H
theorem Alike.start {xs ys : List Nat} {k : Nat} (h : xs.length ≤ k) (h' : ys.length ≤ k) : Alike xs ys k := ⟨0, by rw [List.take_of_length_le h]; simp, by rw [List.take_of_length_le h']; simp⟩
theorem Alike.zero {xs ys : List Nat} (h : Alike xs ys 0) : nv xs = nv ys := by
  obtain ⟨H, h1, h2⟩ := h
  simp [nv] at h1 h2; omega
theorem Alike.down {xs ys : List Nat} {k : Nat} (h : Alike xs ys (k + 1)) :
    ∃ H, nv xs = nv (xs.take k) + 65536 ^ k * (gd xs k + 65536 * H) ∧ nv ys = nv (ys.take k) + 65536 ^ k * (gd ys k + 65536 * H) := by
  obtain ⟨H, h1, h2⟩ := h
  refine ⟨H, ?_, ?_⟩
  · rw [h1, nv_take, Nat.pow_succ, Nat.mul_add, Nat.mul_assoc]; omega
  · rw [h2, nv_take, Nat.pow_succ, Nat.mul_add, Nat.mul_assoc]; omega
theorem Alike.lt {xs ys : List Nat} {k : Nat} (h : Alike xs ys (k + 1)) (hx : D16 xs) (hd : gd xs k < gd ys k) : nv xs < nv ys := by
  obtain ⟨H, h1, h2⟩ := h.down
  rw [h1, h2]
  exact lt_digit (nv_take_lt hx k) (by omega)
theorem Alike.symm {xs ys : List Nat} {k : Nat} (h : Alike xs ys k) : Alike ys xs k := by
  obtain ⟨H, h1, h2⟩ := h
  exact ⟨H, h2, h1⟩
theorem Alike.next {xs ys : List Nat} {k : Nat} (h : Alike xs ys (k + 1)) (hd : gd xs k = gd ys k) : Alike xs ys k := by
  obtain ⟨H, h1, h2⟩ := h.down
  exact ⟨gd xs k + 65536 * H, h1, by rw [hd]; exact h2⟩
theorem trim_done {xs : List Nat} {k : Nat} (h : D16 xs) (hk : k < xs.length) (h0 : gd xs k ≠ 0) (hv : nv (xs.take (k + 1)) = nv xs) : dgs (nv xs) = xs.take (k + 1) := by
  rw [← hv]
  refine dgs_nv (h.take _) fun x hx => ?_
  rw [List.take_succ_eq_append_getElem hk, List.getLast?_concat] at hx
  rw [gd_lt hk] at h0
  simp only [Option.some.injEq] at hx
  rw [← hx]; exact h0
theorem trim_more {xs : List Nat} {k : Nat} (h0 : gd xs k = 0) (hv : nv (xs.take (k + 1)) = nv xs) : nv (xs.take k) = nv xs := by
  rw [nv_take, h0] at hv; simpa using hv
theorem nv_set {zs : List Nat} {j : Nat} (y : Nat) (h : j < zs.length) : nv (zs.set j y) + 65536 ^ j * gd zs j = nv zs + 65536 ^ j * y := by
  induction zs generalizing j with
  | nil => simp at h
  | cons z zs ih =>
    cases j with
    | zero => simp [nv, gd]; omega
    | succ j =>
      have := ih (j := j) (by simpa using h)
      have e : gd (z :: zs) (j + 1) = gd zs j := by simp [gd]
      simp only [List.set_cons_succ, nv, e, Nat.pow_succ]
      have e1 : 65536 ^ j * 65536 * gd zs j = 65536 * (65536 ^ j * gd zs j) := by rw [Nat.mul_comm (65536 ^ j) 65536, Nat.mul_assoc]
      have e2 : 65536 ^ j * 65536 * y = 65536 * (65536 ^ j * y) := by rw [Nat.mul_comm (65536 ^ j) 65536, Nat.mul_assoc]
      rw [e1, e2]; omega
theorem gd_le (zs : List Nat) (j : Nat) : 65536 ^ j * gd zs j ≤ nv zs := by
  induction zs generalizing j with
  | nil => simp [gd]
  | cons z zs ih =>
    cases j with
    | zero => simp [nv, gd]
    | succ j =>
      have e : gd (z :: zs) (j + 1) = gd zs j := by simp [gd]
      have := ih j
      rw [e, Nat.pow_succ, Nat.mul_comm (65536 ^ j) 65536, Nat.mul_assoc]
      simp only [nv]; omega
theorem gd_small {zs : List Nat} {j c : Nat} (h : nv zs < 65536 ^ j * c) : gd zs j < c := by
  have := gd_le zs j
  exact Nat.lt_of_mul_lt_mul_left (Nat.lt_of_le_of_lt this h)
end Go.Proofs.YtdmglajfmfjmlaaGreat.D
namespace Go.Proofs.YtdmglajfmfjmlaaGreat
set_option linter.unusedSimpArgs false
set_option linter.unusedVariables false
set_option maxRecDepth 100000
open Go.RowKit
set_option maxHeartbeats 400000 in
theorem at3_any (w : World) {A : Option Addr} {n c : Nat} {xs : List Nat} (h : Rd .i64 w A n c xs) (i : Nat) (hi : i ≤ 4611686018427387904) :
    Calls Tryz.prog 178 #[.slice A n c, .int .i64 i] w fun e w' => e = .returned (.int .i64 ((gd xs i : Nat) : Int)) ∧ w = w' := by
  by_cases hlt : i < n
  · obtain ⟨ad, rfl, hb, hc⟩ := h.form (by omega)
    have hx := hc i hlt
    have hm := h.max
    have hcap := h.cap
    clear hc h
    go_enter Tryz.func178, Tryz.ntmps178
    go_wp2
    go_ret
    exact ⟨rfl, rfl⟩
  · have H := Lib.hid (show gd xs i = 0 from gd_ge (by rw [h.len]; omega))
    have hm := h.max
    have hcap := h.cap
    clear h
    go_enter Tryz.func178, Tryz.ntmps178
    go_wp2
    go_ret
    exact ⟨by rw [H.out]; rfl, rfl⟩
set_option maxHeartbeats 400000 in
theorem cmp3_any (w : World) {A B : Option Addr} {n c m d : Nat} {xs ys : List Nat} (hx : Rd .i64 w A n c xs) (bx : D.D16 xs) (hy : Rd .i64 w B m d ys) (by' : D.D16 ys) (hn : n ≤ 1048576) (hm : m ≤ 1048576) :
    Calls Tryz.prog 136 #[.slice A n c, .slice B m d] w fun e w' => e = .returned (.int .i64 (cmpN (D.nv xs) (D.nv ys))) ∧ w = w' := by
  have hal := D.Alike.start (xs := xs) (ys := ys) (k := max n m) (by rw [hx.len]; omega) (by rw [hy.len]; omega)
  have HX := Lib.hid hx
  have HY := Lib.hid hy
  have BX := Lib.hid bx
  have BY := Lib.hid by'
  clear hx hy bx by'
  by_cases hnm : n < m
  · have e : max n m = m := by omega
    rw [e] at hal
    clear e
    have hd : decide ((n : Int) < m) = true := by simp; omega
    go_enter Tryz.func136, Tryz.ntmps136
    go_wp2
    go_loop [6] (fun i => ∃ k : Nat, k ≤ 1048576 ∧ D.Alike xs ys k ∧ i = .int .i64 ((k : Int) - 1)) (fun i => (intOf i + 1).toNat)
    case atStart => exact ⟨_, by omega, hal, rfl⟩
    case round =>
      obtain ⟨k, hk, hal', rfl⟩ := hrel
      by_cases hk0 : k = 0
      · subst hk0
        have HF := Lib.hid (cmpN_eq hal'.zero)
        go_wp2
        go_ret
        exact ⟨by rw [HF.out]; rfl, rfl⟩
      · obtain ⟨k, rfl⟩ : ∃ j, k = j + 1 := ⟨k - 1, by omega⟩
        have ek : ((k + 1 : Nat) : Int) - 1 = (k : Int) := by omega
        rw [ek]
        have HA := Lib.hid hal'
        clear hal' ek hk0
        rcases Nat.lt_trichotomy (gd xs k) (gd ys k) with ht | ht | ht
        · have HF := Lib.hid (cmpN_lt (HA.out.lt BX.out ht))
          have Ht : ((gd xs k : Nat) : Int) < ((gd ys k : Nat) : Int) := by omega
          clear ht
          go_wp2_with fail
          refine (at3_any w HX.out k (by omega)).mono ?_
          rintro e w' ⟨rfl, rfl⟩
          go_wp2_with fail
          refine (at3_any w HY.out k (by omega)).mono ?_
          rintro e w' ⟨rfl, rfl⟩
          go_wp2_with fail
          go_ret
          exact ⟨by rw [HF.out]; rfl, rfl⟩
        · have HN := Lib.hid (HA.out.next ht)
          have Hd : decide (((gd xs k : Nat) : Int) < ((gd ys k : Nat) : Int)) = false := by simp only [decide_eq_false_iff_not]; omega
          have Hd2 : decide (((gd ys k : Nat) : Int) < ((gd xs k : Nat) : Int)) = false := by simp only [decide_eq_false_iff_not]; omega
          have Hn : decide (gd xs k < gd ys k) = false := by simp only [decide_eq_false_iff_not]; omega
          have Hn2 : decide (gd ys k < gd xs k) = false := by simp only [decide_eq_false_iff_not]; omega
          clear ht
          go_wp2_with fail
          refine (at3_any w HX.out k (by omega)).mono ?_
          rintro e w' ⟨rfl, rfl⟩
          go_wp2_with fail
          refine (at3_any w HY.out k (by omega)).mono ?_
          rintro e w' ⟨rfl, rfl⟩
          go_wp2_with fail
          refine (at3_any w HX.out k (by omega)).mono ?_
          rintro e w' ⟨rfl, rfl⟩
          go_wp2_with fail
          refine (at3_any w HY.out k (by omega)).mono ?_
          rintro e w' ⟨rfl, rfl⟩
          go_wp2_with fail
          refine ⟨⟨k, by omega, HN.out, rfl⟩, by simp [intOf]⟩
        · have HF := Lib.hid (cmpN_gt (HA.out.symm.lt BY.out ht))
          have Ht : ((gd ys k : Nat) : Int) < ((gd xs k : Nat) : Int) := by omega
          have Hd : decide (((gd xs k : Nat) : Int) < ((gd ys k : Nat) : Int)) = false := by simp only [decide_eq_false_iff_not]; omega
          have Hn : decide (gd xs k < gd ys k) = false := by simp only [decide_eq_false_iff_not]; omega
          have Hn2 : decide (gd ys k < gd xs k) = true := by simp only [decide_eq_true_eq]; omega
          clear ht
          go_wp2_with fail
          refine (at3_any w HX.out k (by omega)).mono ?_
          rintro e w' ⟨rfl, rfl⟩
          go_wp2_with fail
          refine (at3_any w HY.out k (by omega)).mono ?_
          rintro e w' ⟨rfl, rfl⟩
          go_wp2_with fail
          refine (at3_any w HX.out k (by omega)).mono ?_
          rintro e w' ⟨rfl, rfl⟩
          go_wp2_with fail
          refine (at3_any w HY.out k (by omega)).mono ?_
          rintro e w' ⟨rfl, rfl⟩
          go_wp2_with fail
          go_ret
          exact ⟨by rw [HF.out]; rfl, rfl⟩
  · have e : max n m = n := by omega
    rw [e] at hal
    clear e
    have hd : decide ((n : Int) < m) = false := by simp; omega
    go_enter Tryz.func136, Tryz.ntmps136
    go_wp2
    go_loop [6] (fun i => ∃ k : Nat, k ≤ 1048576 ∧ D.Alike xs ys k ∧ i = .int .i64 ((k : Int) - 1)) (fun i => (intOf i + 1).toNat)
    case atStart => exact ⟨_, by omega, hal, rfl⟩
    case round =>
      obtain ⟨k, hk, hal', rfl⟩ := hrel
      by_cases hk0 : k = 0
      · subst hk0
        have HF := Lib.hid (cmpN_eq hal'.zero)
        go_wp2
        go_ret
        exact ⟨by rw [HF.out]; rfl, rfl⟩
      · obtain ⟨k, rfl⟩ : ∃ j, k = j + 1 := ⟨k - 1, by omega⟩
        have ek : ((k + 1 : Nat) : Int) - 1 = (k : Int) := by omega
        rw [ek]
        have HA := Lib.hid hal'
        clear hal' ek hk0
        rcases Nat.lt_trichotomy (gd xs k) (gd ys k) with ht | ht | ht
        · have HF := Lib.hid (cmpN_lt (HA.out.lt BX.out ht))
          have Ht : ((gd xs k : Nat) : Int) < ((gd ys k : Nat) : Int) := by omega
          clear ht
          go_wp2_with fail
          refine (at3_any w HX.out k (by omega)).mono ?_
          rintro e w' ⟨rfl, rfl⟩
          go_wp2_with fail
          refine (at3_any w HY.out k (by omega)).mono ?_
          rintro e w' ⟨rfl, rfl⟩
          go_wp2_with fail
          go_ret
          exact ⟨by rw [HF.out]; rfl, rfl⟩
        · have HN := Lib.hid (HA.out.next ht)
          have Hd : decide (((gd xs k : Nat) : Int) < ((gd ys k : Nat) : Int)) = false := by simp only [decide_eq_false_iff_not]; omega
          have Hd2 : decide (((gd ys k : Nat) : Int) < ((gd xs k : Nat) : Int)) = false := by simp only [decide_eq_false_iff_not]; omega
          have Hn : decide (gd xs k < gd ys k) = false := by simp only [decide_eq_false_iff_not]; omega
          have Hn2 : decide (gd ys k < gd xs k) = false := by simp only [decide_eq_false_iff_not]; omega
          clear ht
          go_wp2_with fail
          refine (at3_any w HX.out k (by omega)).mono ?_
          rintro e w' ⟨rfl, rfl⟩
          go_wp2_with fail
          refine (at3_any w HY.out k (by omega)).mono ?_
          rintro e w' ⟨rfl, rfl⟩
          go_wp2_with fail
          refine (at3_any w HX.out k (by omega)).mono ?_
          rintro e w' ⟨rfl, rfl⟩
          go_wp2_with fail
          refine (at3_any w HY.out k (by omega)).mono ?_
          rintro e w' ⟨rfl, rfl⟩
          go_wp2_with fail
          refine ⟨⟨k, by omega, HN.out, rfl⟩, by simp [intOf]⟩
        · have HF := Lib.hid (cmpN_gt (HA.out.symm.lt BY.out ht))
          have Ht : ((gd ys k : Nat) : Int) < ((gd xs k : Nat) : Int) := by omega
          have Hd : decide (((gd xs k : Nat) : Int) < ((gd ys k : Nat) : Int)) = false := by simp only [decide_eq_false_iff_not]; omega
          have Hn : decide (gd xs k < gd ys k) = false := by simp only [decide_eq_false_iff_not]; omega
          have Hn2 : decide (gd ys k < gd xs k) = true := by simp only [decide_eq_true_eq]; omega
          clear ht
          go_wp2_with fail
          refine (at3_any w HX.out k (by omega)).mono ?_
          rintro e w' ⟨rfl, rfl⟩
          go_wp2_with fail
          refine (at3_any w HY.out k (by omega)).mono ?_
          rintro e w' ⟨rfl, rfl⟩
          go_wp2_with fail
          refine (at3_any w HX.out k (by omega)).mono ?_
          rintro e w' ⟨rfl, rfl⟩
          go_wp2_with fail
          refine (at3_any w HY.out k (by omega)).mono ?_
          rintro e w' ⟨rfl, rfl⟩
          go_wp2_with fail
          go_ret
          exact ⟨by rw [HF.out]; rfl, rfl⟩
end Go.Proofs.YtdmglajfmfjmlaaGreat
namespace Go.Proofs.YtdmglajfmfjmlaaGreat
set_option linter.unusedSimpArgs false
set_option linter.unusedVariables false
set_option maxRecDepth 100000
open Go.RowKit
structure RowW (w : World) (base gr g K c : Nat) (xs : List Nat) : Prop where
  box : w.cell? ⟨gr, 0, none⟩ = some (.slice (some ⟨g, 0, none⟩) K c)
  own : Own .i64 3 w base (some ⟨g, 0, none⟩) K c xs
  d16 : D.D16 xs
  ne : gr ≠ g
  lt : gr < w.heap.size
def RetRow (w : World) (base gr g K c m : Nat) (v : Value) (e : Ending) (w' : World) : Prop :=
  e = .returned v ∧ ∃ xs' : List Nat, RowW w' base gr g K c xs' ∧ D.nv xs' = m ∧ w.grownBy w' (some g)
theorem cell_set_ne2 {w : World} {p q : Addr} (h : q.block ≠ p.block) (u : Value) : (w.setCell p u).cell? q = w.cell? q := World.cell?_of_block (Below.heap_setCell w p u q.block h)
theorem RowW.store {w : World} {base gr g K c : Nat} {xs : List Nat} (h : RowW w base gr g K c xs) (j : Nat) {s : Nat} (hs : s < 65536) : RowW (w.setCell ⟨g, j, none⟩ (.int .i64 (s : Int))) base gr g K c (xs.set j s) :=
  ⟨(cell_set_ne2 (by simpa using h.ne) _).trans h.box, h.own.store j s, h.d16.set hs, h.ne, by have := h.lt; simpa using this⟩
theorem add_stepW {W S S' U Vt P q cy o s cy' : Nat} (hn : S' + P * o = S + P * s) (h1 : q + o + cy = s + W * cy') (h : S + P * cy = U + Vt) : S' + P * W * cy' = U + (Vt + P * q) := by
  have e1 := congrArg (P * ·) h1
  simp only [Nat.mul_add] at e1
  rw [← Nat.mul_assoc P W] at e1
  omega
theorem sub_stepW {W S S' X Vt P q cy o s cy' : Nat} (hn : S' + P * o = S + P * s) (h1 : o + W * cy' = s + q + cy) (h : S + Vt = X + P * cy) : S' + (Vt + P * q) = X + P * W * cy' := by
  have e1 := congrArg (P * ·) h1
  simp only [Nat.mul_add] at e1
  rw [← Nat.mul_assoc P W] at e1
  omega
def Aft (zs xs : List Nat) (t : Nat) : Prop := ∀ j, t ≤ j → gd zs j = gd xs j
theorem Aft.step {zs xs : List Nat} {t : Nat} (h : Aft zs xs t) (s : Nat) : Aft (zs.set t s) xs (t + 1) := fun j hj => by rw [gd_set (by omega)]; exact h j (by omega)
theorem low16 {v : Nat} (h : v < 9223372036854775808) : Go.bits .and .i64 (v : Int) 65535 = ((v % 65536 : Nat) : Int) := by
  have := (bits_nat .i64 63 (by decide) wraps_i64 v 65535 (by omega) (by decide)).1
  rw [show ((65535 : Nat) : Int) = 65535 from rfl] at this
  rw [this, show (65535 : Nat) = 2 ^ 16 - 1 from rfl, Nat.and_two_pow_sub_one_eq_mod]
theorem top_cy {W P S cy R : Nat} (h : S + P * cy = R) (hR : R < P) (hP : 0 < P) : cy = 0 := by
  rcases Nat.eq_zero_or_pos cy with h0 | h0
  · exact h0
  · have := Nat.mul_le_mul_left P h0; omega
theorem ret_val {k : IntKind} {a b : Int} (h : a = b) : Value.int k a = Value.int k b := by rw [h]
set_option maxHeartbeats 1000000 in
theorem double_any (w : World) {base gr g K c b : Nat} {xs : List Nat} (h : RowW w base gr g K c xs) (hb : b ≤ 1) (hK : K ≤ 1048576) (hfit : 2 * D.nv xs + b < 65536 ^ K) :
    Calls Tryz.prog 182 #[.pointer (some ⟨gr, 0, none⟩), .int .i64 b] w (RetRow w base gr g K c (2 * D.nv xs + b) (.tuple #[])) := by
  have H := Lib.hid h
  have HFIT := Lib.hid hfit
  have hne := h.ne
  clear h hfit
  go_enter Tryz.func182, Tryz.ntmps182
  go_wp2_with fail
  go_loopw [1, 4] (fun bv i wr => ∃ (t cy : Nat) (zs : List Nat), t ≤ K ∧ cy ≤ 1 ∧ i = .int .i64 (t : Int) ∧ bv = .int .i64 (cy : Int) ∧ RowW wr base gr g K c zs ∧ w.grownBy wr (some g) ∧ Aft zs xs t ∧ D.nv zs + 65536 ^ t * cy = (D.nv xs + b) + D.nv (xs.take t)) (fun _ i _ => K - (intOf i).toNat)
  case atStart => exact ⟨0, b, xs, by omega, hb, rfl, rfl, H.out, grown_refl _ _, fun _ _ => rfl, by simp [D.nv]⟩
  case round =>
    obtain ⟨t, cy, zs, ht, hcy, rfl, rfl, how, hgr, haft, hinv⟩ := hrel
    have HO := Lib.hid how
    have HG := Lib.hid hgr
    have HA := Lib.hid haft
    have HI := Lib.hid hinv
    have hbx := how.box
    have hcap := how.own.rd.cap
    have hmax := how.own.rd.max
    clear hinv haft hgr
    by_cases hlt : t < K
    · have hcell := how.own.cellAt hlt
      have hfr := how.own.frozenAt t
      obtain ⟨q, hq⟩ : ∃ q, gd zs t = q := ⟨_, rfl⟩
      have hq16 : q < 65536 := by rw [← hq]; exact how.d16.gd t
      have hqx : gd xs t = q := by rw [← HA.out t (Nat.le_refl t)]; exact hq
      rw [hq] at hcell
      have hset := D.nv_set (zs := zs) (j := t) ((cy + 2 * q) % 65536) (by rw [how.own.len]; exact hlt)
      rw [hq] at hset
      have hstep := add_stepW (W := 65536) (cy' := (cy + 2 * q) / 65536) hset (q := q) (cy := cy) (by omega) HI.out
      rw [← Nat.pow_succ] at hstep
      have HS := Lib.hid hstep
      have HT := Lib.hid (show D.nv (xs.take (t + 1)) = D.nv (xs.take t) + 65536 ^ t * q by rw [D.nv_take, hqx])
      have hand := low16 (v := cy + 2 * q) (by omega)
      have HC := Lib.hid (show (cy + 2 * q) / 65536 ≤ 1 by omega)
      have HM := Lib.hid (show (cy + 2 * q) % 65536 < 65536 from Nat.mod_lt _ (by omega))
      rw [show ((cy + 2 * q : Nat) : Int) = (cy : Int) + 2 * (q : Int) by omega] at hand
      clear hset hstep hqx hq how
      go_wp2_with fail
      have hst := HO.out.store t HM.out
      have ev : (((cy + 2 * q) % 65536 : Nat) : Int) = ((cy : Int) + 2 * (q : Int)) % 65536 := by omega
      rw [ev] at hst
      refine ⟨⟨t + 1, (cy + 2 * q) / 65536, zs.set t ((cy + 2 * q) % 65536), by omega, HC.out, by go_num, ret_val (by omega), hst, grown_set HG.out _ _, HA.out.step _, ?_⟩, by simp [intOf]; omega⟩
      rw [HT.out]; exact HS.out
    · obtain rfl : K = t := by omega
      have hee := HI.out
      rw [List.take_of_length_le (by rw [← Nat.not_lt]; exact fun h => by have := H.out.own.len; omega)] at hee
      have hcy0 := top_cy (W := 0) hee (by have := HFIT.out; omega) (Nat.pow_pos (by omega))
      subst hcy0
      have HF := Lib.hid (show D.nv zs = 2 * D.nv xs + b by omega)
      clear hee how
      go_wp2_with fail
      go_end0
      exact ⟨rfl, zs, HO.out, HF.out, HG.out⟩
theorem top_owed {P N X cy S : Nat} (h : S + N = X + P * cy) (hS : S < P) (hX : N ≤ X) : cy = 0 := by
  rcases Nat.eq_zero_or_pos cy with h0 | h0
  · exact h0
  · have := Nat.mul_le_mul_left P h0; omega
theorem RowW.drewN {w : World} {base gr g K c : Nat} {xs : List Nat} (h : RowW w base gr g K c xs) (n : Nat) : RowW (w.drewN n) base gr g K c xs := ⟨h.box, h.own.drewN n, h.d16, h.ne, h.lt⟩
theorem Rd.grownW {w w' : World} {B : Option Addr} {m d g : Nat} {ns : List Nat} (h : Rd .i64 w B m d ns) (hg : w.grownBy w' (some g)) (hne : ∀ ad, B = some ad → ad.block ≠ g) : Rd .i64 w' B m d ns := h.grown hg hne
theorem Rd.grown0 {w w' : World} {B : Option Addr} {m d g : Nat} {ns : List Nat} (h : Rd .i64 w B m d ns) (hg : w.grownBy w' (some g)) (hne : 0 < m → ∀ ad, B = some ad → ad.block ≠ g) : Rd .i64 w' B m d ns := by
  rcases Nat.eq_zero_or_pos m with h0 | h0
  · subst h0
    rw [List.eq_nil_of_length_eq_zero h.len]; exact ⟨rfl, h.cap, h.max, fun hh => by omega⟩
  · exact h.grown hg (hne h0)
set_option maxHeartbeats 1000000 in
theorem drop_no (w : World) {base gr g K c m d : Nat} {B : Option Addr} {xs ns : List Nat} (h : RowW w base gr g K c xs) (hn : Rd .i64 w B m d ns) (bn : D.D16 ns) (hK : K ≤ 1048576) (hm : m ≤ 1048576) (hlt : D.nv xs < D.nv ns) :
    Calls Tryz.prog 183 #[.pointer (some ⟨gr, 0, none⟩), .slice B m d] w (RetRow w base gr g K c (D.nv xs) (.bool false)) := by
  have H := Lib.hid h
  have HN := Lib.hid hn
  have BN := Lib.hid bn
  have HC := Lib.hid (cmpN_lt hlt)
  have hbx := h.box
  clear h hn bn hlt
  go_enter Tryz.func183, Tryz.ntmps183
  go_wp2_with fail
  refine (cmp3_any w H.out.own.rd H.out.d16 HN.out BN.out hK hm).mono ?_
  rintro e w' ⟨rfl, rfl⟩
  rw [HC.out]
  go_wp2_with fail
  go_ret
  exact ⟨rfl, xs, H.out, rfl, grown_refl _ _⟩
theorem at_quiet {w : World} {A : Option Addr} {n c q : Nat} {xs : List Nat} (h : Rd .i64 w A n c xs) {i : Nat} (hq : gd xs i = q) (hi : i ≤ 4611686018427387904) (k : Nat) :
    Calls Tryz.prog 178 #[.slice A n c, .int .i64 i] (w.drewN k) fun e w' => e = .returned (.int .i64 ((q : Nat) : Int)) ∧ w' = w.drewN k := by
  subst hq; exact same_of (at3_any (w.drewN k) (h.drewN k) i hi)
set_option maxHeartbeats 4000000 in
theorem drop_yes (w : World) {base gr g K c m d : Nat} {B : Option Addr} {xs ns : List Nat} (h : RowW w base gr g K c xs) (hn : Rd .i64 w B m d ns) (bn : D.D16 ns) (hne : ∀ ad, B = some ad → ad.block ≠ g) (hK : K ≤ 1048576) (hm : m ≤ K) (hle : D.nv ns ≤ D.nv xs) :
    Calls Tryz.prog 183 #[.pointer (some ⟨gr, 0, none⟩), .slice B m d] w (RetRow w base gr g K c (D.nv xs - D.nv ns) (.bool true)) := by
  have H := Lib.hid h
  have HN := Lib.hid hn
  have BN := Lib.hid bn
  have HNE := Lib.hid hne
  have HLE := Lib.hid hle
  obtain ⟨z, hz⟩ : ∃ z : Int, cmpN (D.nv xs) (D.nv ns) = z := ⟨_, rfl⟩
  have hz0 : 0 ≤ z := by
    rcases Nat.lt_or_ge (D.nv ns) (D.nv xs) with h1 | h1
    · rw [cmpN_gt h1] at hz; omega
    · rw [cmpN_eq (by omega)] at hz; omega
  have HC := Lib.hid hz
  have hbx := h.box
  clear h hn bn hne hle hz
  go_enter Tryz.func183, Tryz.ntmps183
  go_wp2_with fail
  refine (cmp3_any w H.out.own.rd H.out.d16 HN.out BN.out hK (by omega)).mono ?_
  rintro e w' ⟨rfl, rfl⟩
  rw [HC.out]
  clear hbx
  go_wp2_with fail
  go_loopw [5, 6] (fun ov i wr => ∃ (t cy : Nat) (zs : List Nat), t ≤ K ∧ cy ≤ 1 ∧ i = .int .i64 (t : Int) ∧ ov = .int .i64 (cy : Int) ∧ RowW wr base gr g K c zs ∧ w.grownBy wr (some g) ∧ Aft zs xs t ∧ D.nv zs + D.nv (ns.take t) = D.nv xs + 65536 ^ t * cy) (fun _ i _ => K - (intOf i).toNat)
  case atStart => exact ⟨0, 0, xs, by omega, by omega, rfl, rfl, H.out, grown_refl _ _, fun _ _ => rfl, by simp [D.nv]⟩
  case round =>
    obtain ⟨t, cy, zs, ht, hcy, rfl, rfl, how, hgr, haft, hinv⟩ := hrel
    have HO := Lib.hid how
    have HG := Lib.hid hgr
    have HA := Lib.hid haft
    have HI := Lib.hid hinv
    have HNR := Lib.hid (HN.out.grownW hgr HNE.out)
    have hbx := how.box
    have hcap := how.own.rd.cap
    have hmax := how.own.rd.max
    clear hinv haft hgr
    by_cases hlt : t < K
    · have hcell := how.own.cellAt hlt
      have hfr := how.own.frozenAt t
      obtain ⟨o, ho⟩ : ∃ o, gd zs t = o := ⟨_, rfl⟩
      obtain ⟨q, hq⟩ : ∃ q, gd ns t = q := ⟨_, rfl⟩
      have ho16 : o < 65536 := by rw [← ho]; exact how.d16.gd t
      have hq16 : q < 65536 := by rw [← hq]; exact BN.out.gd t
      rw [ho] at hcell
      have HAT := Lib.hid (at_quiet HNR.out hq (by omega))
      have HT := Lib.hid (show D.nv (ns.take (t + 1)) = D.nv (ns.take t) + 65536 ^ t * q by rw [D.nv_take, hq])
      have w1 : IntKind.i64.wrap ((o : Int) - (q : Int)) = (o : Int) - (q : Int) := IntWalk.i64_in _ (by omega)
      have w2 : IntKind.i64.wrap ((o : Int) - (q : Int) - (cy : Int)) = (o : Int) - (q : Int) - (cy : Int) := IntWalk.i64_in _ (by omega)
      have hzl : t < zs.length := by rw [how.own.len]; exact hlt
      by_cases hneg : o < q + cy
      · have hset := D.nv_set (zs := zs) (j := t) (o + 65536 - q - cy) hzl
        rw [ho] at hset
        have hstep := sub_stepW (W := 65536) (cy' := 1) hset (q := q) (cy := cy) (by omega) HI.out
        rw [← Nat.pow_succ] at hstep
        have HS := Lib.hid hstep
        have hs16 : o + 65536 - q - cy < 65536 := by omega
        have ev : ((o + 65536 - q - cy : Nat) : Int) = (o : Int) - (q : Int) - (cy : Int) + 65536 := by omega
        have EV := Lib.hid ev
        have HTL := Lib.hid hlt
        clear hset hstep ev ho hq how hzl hlt
        go_wp2_with fail
        go_quiet ((go_at_call 178; exact Calls.quiet_of_same (HAT.out _)))
        clear w1 w2
        have hn2 : (o : Int) - (q : Int) - (cy : Int) < 0 := by omega
        go_wp2_with fail
        have hst := (HO.out.drewN nq).store t hs16
        rw [EV.out] at hst
        refine ⟨⟨t + 1, 1, zs.set t (o + 65536 - q - cy), by have := HTL.out; omega, by omega, by go_num, by go_num, hst, grown_set (grown_drewN HG.out nq) _ _, HA.out.step _, ?_⟩, by have := HTL.out; simp [intOf]; omega⟩
        rw [HT.out]; exact HS.out
      · have hset := D.nv_set (zs := zs) (j := t) (o - q - cy) hzl
        rw [ho] at hset
        have hstep := sub_stepW (W := 65536) (cy' := 0) hset (q := q) (cy := cy) (by omega) HI.out
        rw [← Nat.pow_succ] at hstep
        have HS := Lib.hid hstep
        have hs16 : o - q - cy < 65536 := by omega
        have ev : ((o - q - cy : Nat) : Int) = (o : Int) - (q : Int) - (cy : Int) := by omega
        have EV := Lib.hid ev
        have HTL := Lib.hid hlt
        clear hset hstep ev ho hq how hzl hlt
        go_wp2_with fail
        go_quiet ((go_at_call 178; exact Calls.quiet_of_same (HAT.out _)))
        clear w1 w2
        have hn2 : ¬ (o : Int) - (q : Int) - (cy : Int) < 0 := by omega
        go_wp2_with fail
        have hst := (HO.out.drewN nq).store t hs16
        rw [EV.out] at hst
        refine ⟨⟨t + 1, 0, zs.set t (o - q - cy), by have := HTL.out; omega, by omega, by go_num, by go_num, hst, grown_set (grown_drewN HG.out nq) _ _, HA.out.step _, ?_⟩, by have := HTL.out; simp [intOf]; omega⟩
        rw [HT.out]; exact HS.out
    · obtain rfl : K = t := by omega
      have hee := HI.out
      rw [List.take_of_length_le (by have := HN.out.len; omega)] at hee
      have hcy0 := top_owed hee (by have := D.nv_lt HO.out.d16; rw [HO.out.own.len] at this; exact this) HLE.out
      subst hcy0
      have HF := Lib.hid (show D.nv zs = D.nv xs - D.nv ns by omega)
      clear hee how
      go_wp2_with fail
      go_ret
      exact ⟨rfl, zs, HO.out, HF.out, HG.out⟩
set_option maxHeartbeats 4000000 in
theorem gain_any (w : World) {base gr g K c m d : Nat} {B : Option Addr} {xs ns : List Nat} (h : RowW w base gr g K c xs) (hn : Rd .i64 w B m d ns) (bn : D.D16 ns) (hne : 0 < m → ∀ ad, B = some ad → ad.block ≠ g) (hK : K ≤ 1048576) (hm : m ≤ K) (hfit : D.nv xs + D.nv ns < 65536 ^ K) :
    Calls Tryz.prog 184 #[.pointer (some ⟨gr, 0, none⟩), .slice B m d] w (RetRow w base gr g K c (D.nv xs + D.nv ns) (.tuple #[])) := by
  have H := Lib.hid h
  have HN := Lib.hid hn
  have BN := Lib.hid bn
  have HNE := Lib.hid hne
  have HFIT := Lib.hid hfit
  clear h hn bn hne hfit
  go_enter Tryz.func184, Tryz.ntmps184
  go_wp2_with fail
  go_loopw [4, 5] (fun ov i wr => ∃ (t cy : Nat) (zs : List Nat), t ≤ K ∧ cy ≤ 1 ∧ i = .int .i64 (t : Int) ∧ ov = .int .i64 (cy : Int) ∧ RowW wr base gr g K c zs ∧ w.grownBy wr (some g) ∧ Aft zs xs t ∧ D.nv zs + 65536 ^ t * cy = D.nv xs + D.nv (ns.take t)) (fun _ i _ => K - (intOf i).toNat)
  case atStart => exact ⟨0, 0, xs, by omega, by omega, rfl, rfl, H.out, grown_refl _ _, fun _ _ => rfl, by simp [D.nv]⟩
  case round =>
    obtain ⟨t, cy, zs, ht, hcy, rfl, rfl, how, hgr, haft, hinv⟩ := hrel
    have HO := Lib.hid how
    have HG := Lib.hid hgr
    have HA := Lib.hid haft
    have HI := Lib.hid hinv
    have HNR := Lib.hid (HN.out.grown0 hgr HNE.out)
    have hbx := how.box
    have hcap := how.own.rd.cap
    have hmax := how.own.rd.max
    clear hinv haft hgr
    by_cases hlt : t < K
    · have hcell := how.own.cellAt hlt
      have hfr := how.own.frozenAt t
      obtain ⟨o, ho⟩ : ∃ o, gd zs t = o := ⟨_, rfl⟩
      obtain ⟨q, hq⟩ : ∃ q, gd ns t = q := ⟨_, rfl⟩
      have ho16 : o < 65536 := by rw [← ho]; exact how.d16.gd t
      have hq16 : q < 65536 := by rw [← hq]; exact BN.out.gd t
      rw [ho] at hcell
      have HAT := Lib.hid (at_quiet HNR.out hq (by omega))
      have HT := Lib.hid (show D.nv (ns.take (t + 1)) = D.nv (ns.take t) + 65536 ^ t * q by rw [D.nv_take, hq])
      have hset := D.nv_set (zs := zs) (j := t) ((cy + o + q) % 65536) (by rw [how.own.len]; exact hlt)
      rw [ho] at hset
      have hstep := add_stepW (W := 65536) (cy' := (cy + o + q) / 65536) hset (q := q) (cy := cy) (by omega) HI.out
      rw [← Nat.pow_succ] at hstep
      have HS := Lib.hid hstep
      have HC := Lib.hid (show (cy + o + q) / 65536 ≤ 1 by omega)
      have HM := Lib.hid (show (cy + o + q) % 65536 < 65536 from Nat.mod_lt _ (by omega))
      have hand := low16 (v := cy + o + q) (by omega)
      rw [show ((cy + o + q : Nat) : Int) = (cy : Int) + (o : Int) + (q : Int) by omega] at hand
      have HTL := Lib.hid hlt
      have w1 : IntKind.i64.wrap ((cy : Int) + (o : Int)) = (cy : Int) + (o : Int) := IntWalk.i64_in _ (by omega)
      have w2 : IntKind.i64.wrap ((cy : Int) + (o : Int) + (q : Int)) = (cy : Int) + (o : Int) + (q : Int) := IntWalk.i64_in _ (by omega)
      clear hset hstep ho hq how hlt
      go_wp2_with fail
      go_quiet ((go_at_call 178; exact Calls.quiet_of_same (HAT.out _)))
      clear w1 w2
      go_wp2_with fail
      have hst := (HO.out.drewN nq).store t HM.out
      have ev : (((cy + o + q) % 65536 : Nat) : Int) = ((cy : Int) + (o : Int) + (q : Int)) % 65536 := by omega
      rw [ev] at hst
      refine ⟨⟨t + 1, (cy + o + q) / 65536, zs.set t ((cy + o + q) % 65536), by have := HTL.out; omega, HC.out, by go_num, ret_val (by omega), hst, grown_set (grown_drewN HG.out nq) _ _, HA.out.step _, ?_⟩, by have := HTL.out; simp [intOf]; omega⟩
      rw [HT.out]; exact HS.out
    · obtain rfl : K = t := by omega
      have hee := HI.out
      rw [List.take_of_length_le (by have := HN.out.len; omega)] at hee
      have hcy0 := top_cy (W := 0) hee HFIT.out (Nat.pow_pos (by omega))
      subst hcy0
      have HF := Lib.hid (show D.nv zs = D.nv xs + D.nv ns by omega)
      clear hee how
      go_wp2_with fail
      go_end0
      exact ⟨rfl, zs, HO.out, HF.out, HG.out⟩
end Go.Proofs.YtdmglajfmfjmlaaGreat
namespace Go.Proofs.YtdmglajfmfjmlaaGreat.Cq
open Go.RowKit Go.Proofs.YtdmglajfmfjmlaaGreatW.PrintWords Go.Proofs.YtdmglajfmfjmlaaGreatW.PrintLast Go.Proofs.YtdmglajfmfjmlaaGreatW.PrintMore
attribute [local go_sem] max2_int min2_int max_two min_two max_three min_three max_four min_four   -- for this text's walks alone
set_option linter.unusedVariables false
set_option linter.unusedSimpArgs false
theorem info3 : (Tryz.prog.info? 3).map (fun i => (i.zero, i.size, i.bytes)) = some (some (.int .i64 0), 1, 8) := by kernel_rfl
theorem info23 : (Tryz.prog.info? 23).map (fun i => (i.zero, i.size, i.bytes)) = some (some (.int .u64 0), 1, 8) := by kernel_rfl
end Go.Proofs.YtdmglajfmfjmlaaGreat.Cq
namespace Go.Proofs.YtdmglajfmfjmlaaGreat.Cq
open Go.RowKit Go.Proofs.YtdmglajfmfjmlaaGreatW.PrintWords Go.Proofs.YtdmglajfmfjmlaaGreatW.PrintLast Go.Proofs.YtdmglajfmfjmlaaGreatW.PrintMore
attribute [local go_sem] max2_int min2_int max_two min_two max_three min_three max_four min_four   -- for this text's walks alone
set_option linter.unusedVariables false
set_option linter.unusedSimpArgs false
def clepsydraref03_cut.l0 : Nat → List Int → Int → Option (List Int)
 | 0, _, _ => none
 | k + 1, x0, x3 => if x3 > 0 then (if 0 ≤ (wrap64 (x3 - 1)) then (if (wrap64 (x3 - 1)) < (x0.length : Int) then (if (rd x0 (wrap64 (x3 - 1))) = 0 then (clepsydraref03_cut.l0 k x0 (wrap64 (x3 - 1))) else (if 0 ≤ x3 then (if x3 ≤ (x0.length : Int) then (some (x0.take (x3 : Int).toNat)) else (none)) else (none))) else (none)) else (none)) else (if 0 ≤ x3 then (if x3 ≤ (x0.length : Int) then (some (x0.take (x3 : Int).toNat)) else (none)) else (none))
def clepsydraref03_cut.f (k : Nat) (l0 : List Int) : Option (List Int) := clepsydraref03_cut.l0 k l0 (l0.length : Int)
set_option maxHeartbeats 8000000 in
set_option maxRecDepth 100000 in
theorem clepsydraref03_cut.calls (k : Nat) (P0_ : Nat → Prop) (u9000_ : Value) (l0 : List Int) (r : List Int) (w0 w : World) (hB : Below w0.heap.size w0 w) (ho0 : Kd.R (Kd.int .i64) 3 w w0.heap.size P0_ u9000_ l0) (h : clepsydraref03_cut.f k l0 = some r) :
  Calls Tryz.prog 179 #[u9000_] w fun e w' => ∃ v0_ : Value, e = .returned (v0_) ∧ Kd.R (Kd.int .i64) 3 w' w0.heap.size (fun k_ => (P0_ k_ ∨ w.heap.size ≤ k_)) v0_ r ∧ Below w0.heap.size w0 w' ∧ Kept w w' (fun k_ => P0_ k_) := by
 have HO0 := Aside0.mk (show Kd.R (Kd.int .i64) 3 w w0.heap.size (fun k_ => (P0_ k_ ∨ w.heap.size ≤ k_)) u9000_ l0 from Kd.R_mono ho0 (fun k_ hk => (.inl hk)))
 have HK := Aside0.mk (Kept.refl w (fun k_ => P0_ k_))
 have HW0 := Aside0.mk hB.size
 have HB := Aside0.mk hB
 clear hB
 have H : (clepsydraref03_cut.l0 k l0 (l0.length : Int)) = some r := h
 clear h
 have H' := Aside0.mk H
 clear H
 obtain ⟨Ao2, co2, eo2⟩ := Kd.R_slice HO0.out
 subst eo2
 go_enter Tryz.func179, Tryz.ntmps179
 go_wp2
 go_loopg [3] k (fun kq v3 w' => ∃ (x3_1 : Int), v3 = .int .i64 x3_1 ∧ Aside0 (clepsydraref03_cut.l0 kq l0 x3_1 = some r) ∧ Aside0 (kq ≤ k) ∧ Aside0 (Kd.R (Kd.int .i64) 3 w' w0.heap.size (fun k_ => (P0_ k_ ∨ w.heap.size ≤ k_)) (.slice Ao2 l0.length co2) l0) ∧ Aside0 (Kept w w' (fun k_ => P0_ k_)) ∧ Aside0 (Below w0.heap.size w0 w'))
 case atStart => exact ⟨((l0.length : Int)), (by rfl), H', ⟨Nat.le_refl _⟩, ⟨by exact HO0.out⟩, ⟨HK.out⟩, ⟨HB.out⟩⟩
 case round =>
  clear H'
  try clear c1
  try clear p2
  obtain ⟨x3_1, rfl, HA, HK1, HO_0, HK, HB⟩ := hrel
  cases gk with
  | zero => exact absurd HA.out (by simp [clepsydraref03_cut.l0])
  | succ k1 =>
   have H := HA.out
   clear HA
   simp only [clepsydraref03_cut.l0] at H
   by_cases c3 : x3_1 > 0
   ·rw [if_pos c3] at H
    have c3b0 : decide (0 < x3_1) = true := decide_eq_true c3
    clear c3
    obtain ⟨ji4, hji4⟩ : ∃ j_ : Int, (wrap64 (x3_1 - 1)) = j_ := ⟨_, rfl⟩
    rw [hji4] at H
    have hji4w : (IntKind.i64.wrap (x3_1 - 1)) = ji4 := (i64_w _).trans hji4
    by_cases c5 : 0 ≤ (ji4)
    ·rw [if_pos c5] at H
     have c5b0 : decide (0 ≤ (ji4)) = true := decide_eq_true c5
     clear c5
     by_cases c6 : (ji4) < (l0.length : Int)
     ·rw [if_pos c6] at H
      have c6b0 : decide ((ji4) < (l0.length : Int)) = true := decide_eq_true c6
      clear c6
      by_cases c7 : (rd l0 (ji4)) = 0
      ·rw [if_pos c7] at H
       have c7b0 : ((rd l0 (ji4)) == 0) = true := beq_iff_eq.mpr c7
       have c7b1 : ((rd l0 (ji4)) != 0) = false := bne_eq_false_iff_eq.mpr c7
       clear c7
       have H' := Aside0.mk H
       clear H
       have p101 : 0 ≤ ((ji4) : Int) := of_decide_eq_true (by (with_reducible assumption))
       have q101 : (ji4) < (l0.length : Int) := of_decide_eq_true (by (with_reducible assumption))
       obtain ⟨ad101, e101, hx101_0⟩ := Kd.at_int (Kd.R_reads' HO_0.out).2.2 (ji4) p101 q101
       cases e101
       replace p101 := eq_true p101
       replace q101 := eq_true q101
       go_wp2
       go_roundg k1
       case measure => have := HK1.out; omega
       case rel => exact ⟨(ji4), (by rfl), H', ⟨by have := HK1.out; omega⟩, ⟨by exact HO_0.out⟩, ⟨HK.out⟩, ⟨HB.out⟩⟩
      ·rw [if_neg c7] at H
       have c7b0 : ((rd l0 (ji4)) == 0) = false := beq_eq_false_iff_ne.mpr c7
       have c7b1 : ((rd l0 (ji4)) != 0) = true := bne_iff_ne.mpr c7
       by_cases c8 : 0 ≤ x3_1
       ·rw [if_pos c8] at H
        have c8b0 := eq_true c8
        have c8b1 : decide (0 ≤ x3_1) = true := decide_eq_true c8
        clear c8
        by_cases c9 : x3_1 ≤ (l0.length : Int)
        ·rw [if_pos c9] at H
         have c9b0 := eq_true c9
         have c9b1 : decide (x3_1 ≤ (l0.length : Int)) = true := decide_eq_true c9
         clear c9
         obtain ⟨y102, hy102⟩ : ∃ y_ : List Int, y_ = (l0.take (x3_1 : Int).toNat) := ⟨_, rfl⟩
         rw [← hy102] at H
         have Ny102 := Aside0.mk hy102
         clear hy102
         obtain rfl := Option.some.inj H
         simp only [Option.some.injEq, Prod.mk.injEq] at H
         obtain ⟨rfl⟩ := H
         have p101 : 0 ≤ ((ji4) : Int) := of_decide_eq_true (by (with_reducible assumption))
         have q101 : (ji4) < (l0.length : Int) := of_decide_eq_true (by (with_reducible assumption))
         obtain ⟨ad101, e101, hx101_0⟩ := Kd.at_int (Kd.R_reads' HO_0.out).2.2 (ji4) p101 q101
         cases e101
         replace p101 := eq_true p101
         replace q101 := eq_true q101
         have q10 : (x3_1 : Int) ≤ ((l0.length : Int) : Int) := of_decide_eq_true (by (with_reducible assumption))
         obtain ⟨i010, hi010, _, hsz10, _⟩ := info_parts info3
         have hcut10 := cut_to (P := Tryz.prog) 120 3 .i64 Tryz.underlying120 hi010 (some ad101) l0.length co2 x3_1 (of_decide_eq_true (by (with_reducible assumption))) q10 (Kd.R_reads' HO_0.out).2.1
         have hr10 := Kd.R_take (m := (x3_1 : Int).toNat) HO_0.out (by omega)
         have hy10 : y102.length = (x3_1 : Int).toNat := (by rw [Ny102.out, List.length_take]; omega)
         rw [← Ny102.out] at hr10
         rw [← hy10] at hr10 hcut10
         clear hy10 hi010 hsz10 HO_0
         have HO104 := Aside0.mk hr10
         clear hr10
         replace q10 := eq_true q10
         go_wp2
         go_ret
         exact ⟨_, by rfl, by exact HO104.out, HB.out, HK.out⟩
        ·rw [if_neg c9] at H
         exact absurd H (by simp)
       ·rw [if_neg c8] at H
        exact absurd H (by simp)
     ·rw [if_neg c6] at H
      exact absurd H (by simp)
    ·rw [if_neg c5] at H
     exact absurd H (by simp)
   ·rw [if_neg c3] at H
    have c3b0 : decide (0 < x3_1) = false := decide_eq_false c3
    clear c3
    by_cases c11 : 0 ≤ x3_1
    ·rw [if_pos c11] at H
     have c11b0 := eq_true c11
     have c11b1 : decide (0 ≤ x3_1) = true := decide_eq_true c11
     clear c11
     by_cases c12 : x3_1 ≤ (l0.length : Int)
     ·rw [if_pos c12] at H
      have c12b0 := eq_true c12
      have c12b1 : decide (x3_1 ≤ (l0.length : Int)) = true := decide_eq_true c12
      clear c12
      obtain ⟨y105, hy105⟩ : ∃ y_ : List Int, y_ = (l0.take (x3_1 : Int).toNat) := ⟨_, rfl⟩
      rw [← hy105] at H
      have Ny105 := Aside0.mk hy105
      clear hy105
      obtain rfl := Option.some.inj H
      simp only [Option.some.injEq, Prod.mk.injEq] at H
      obtain ⟨rfl⟩ := H
      have q13 : (x3_1 : Int) ≤ ((l0.length : Int) : Int) := of_decide_eq_true (by (with_reducible assumption))
      obtain ⟨i013, hi013, _, hsz13, _⟩ := info_parts info3
      have hcut13 := cut_to (P := Tryz.prog) 120 3 .i64 Tryz.underlying120 hi013 Ao2 l0.length co2 x3_1 (of_decide_eq_true (by (with_reducible assumption))) q13 (Kd.R_reads' HO_0.out).2.1
      have hr13 := Kd.R_take (m := (x3_1 : Int).toNat) HO_0.out (by omega)
      have hy13 : y105.length = (x3_1 : Int).toNat := (by rw [Ny105.out, List.length_take]; omega)
      rw [← Ny105.out] at hr13
      rw [← hy13] at hr13 hcut13
      clear hy13 hi013 hsz13 HO_0
      have HO107 := Aside0.mk hr13
      clear hr13
      replace q13 := eq_true q13
      go_wp2
      go_ret
      exact ⟨_, by rfl, by exact HO107.out, HB.out, HK.out⟩
     ·rw [if_neg c12] at H
      exact absurd H (by simp)
    ·rw [if_neg c11] at H
     exact absurd H (by simp)
mutual
def clepsydraref03_Digits.l0 : Nat → List Int → List Int → Int → Option (List Int)
 | 0, _, _, _ => none
 | k + 1, x0, x3, x4 => if x4 < (x0.length : Int) then (clepsydraref03_Digits.l1 k x0 x3 x4 0) else ((clepsydraref03_cut.f k x3).bind fun t108 => (some t108))
def clepsydraref03_Digits.l1 : Nat → List Int → List Int → Int → Int → Option (List Int)
 | 0, _, _, _, _ => none
 | k + 1, x0, x3, x4, x5 => if x5 < 4 then (if 0 ≤ x4 then (if x4 < (x0.length : Int) then (if 0 ≤ (IntKind.u64.wrap (wrap64 (16 * x5))) then (if x3.length < 17592186044416 then (clepsydraref03_Digits.l1 k x0 (x3 ++ [wrap64 (Go.bits .and .u64 (shr .u64 (rd x0 x4) (IntKind.u64.wrap (wrap64 (16 * x5)))) 65535)]) x4 (wrap64 (x5 + 1))) else (none)) else (none)) else (none)) else (none)) else (clepsydraref03_Digits.l0 k x0 x3 (wrap64 (x4 + 1)))
end
def clepsydraref03_Digits.f (k : Nat) (l0 : List Int) : Option (List Int) := clepsydraref03_Digits.l0 k l0 ([] : List Int) 0
set_option maxHeartbeats 8000000 in
set_option maxRecDepth 100000 in
theorem clepsydraref03_Digits.calls (k : Nat) (A0 : Option Addr) (c0 : Nat) (l0 : List Int) (r : List Int) (w : World) (hr0 : Kd.C (Kd.int .u64) w A0 l0.length l0) (hc0 : l0.length ≤ c0) (h : clepsydraref03_Digits.f k l0 = some r) :
  Calls Tryz.prog 137 #[.slice A0 l0.length c0] w fun e w' => ∃ v0_ : Value, e = .returned (v0_) ∧ Kd.R (Kd.int .i64) 3 w' w.heap.size (fun _ => True) v0_ r ∧ Below w.heap.size w w' := by
 have HR0 := Aside0.mk hr0
 have HC0 := Aside0.mk hc0
 clear hr0 hc0
 have HB := Aside0.mk (Below.refl w.heap.size w)
 have H : (clepsydraref03_Digits.l0 k l0 ([] : List Int) 0) = some r := h
 clear h
 have H' := Aside0.mk H
 clear H
 go_enter Tryz.func137, Tryz.ntmps137
 go_wp2
 go_loopg [3, 4] k (fun kq v3 v4 w' => ∃ (x3_1 : List Int) (x4_1 : Int), v4 = .int .i64 x4_1 ∧ Aside0 (clepsydraref03_Digits.l0 kq l0 x3_1 x4_1 = some r) ∧ Aside0 (kq ≤ k) ∧ Aside0 (Kd.R (Kd.int .i64) 3 w' w.heap.size (fun _ => True) v3 x3_1) ∧ Aside0 (Below w.heap.size w w'))
 case atStart => exact ⟨(([] : List Int)), (0), (by rfl), H', ⟨Nat.le_refl _⟩, ⟨by (exact Kd.R_nil _ _ _ _ _)⟩, ⟨HB.out⟩⟩
 case round =>
  clear H'
  try clear c1
  obtain ⟨x3_1, x4_1, rfl, HA, HK1, HO_3, HB⟩ := hrel
  cases gk with
  | zero => exact absurd HA.out (by simp [clepsydraref03_Digits.l0])
  | succ k1 =>
   have H := HA.out
   clear HA
   simp only [clepsydraref03_Digits.l0] at H
   by_cases c2 : x4_1 < (l0.length : Int)
   ·rw [if_pos c2] at H
    have c2b0 : decide (x4_1 < (l0.length : Int)) = true := decide_eq_true c2
    clear c2
    have H' := Aside0.mk H
    clear H
    go_wp2
    go_loopg [3, 5] k1 (fun kq v3 v5 w' => ∃ (x3_2 : List Int) (x5_2 : Int), v5 = .int .i64 x5_2 ∧ Aside0 (clepsydraref03_Digits.l1 kq l0 x3_2 x4_1 x5_2 = some r) ∧ Aside0 (kq ≤ k1) ∧ Aside0 (Kd.R (Kd.int .i64) 3 w' w.heap.size (fun _ => True) v3 x3_2) ∧ Aside0 (Below w.heap.size w w'))
    case atStart => exact ⟨(x3_1), (0), (by rfl), H', ⟨Nat.le_refl _⟩, ⟨by exact HO_3.out⟩, ⟨HB.out⟩⟩
    case round =>
     clear H'
     try clear c1
     try clear c2
     try clear c2b0
     try clear p2
     obtain ⟨x3_2, x5_2, rfl, HA, HK2, HO_3, HB⟩ := hrel
     cases gk with
     | zero => exact absurd HA.out (by simp [clepsydraref03_Digits.l1])
     | succ k2 =>
      have H := HA.out
      clear HA
      simp only [clepsydraref03_Digits.l1] at H
      by_cases c3 : x5_2 < 4
      ·rw [if_pos c3] at H
       have c3b0 : decide (x5_2 < 4) = true := decide_eq_true c3
       clear c3
       by_cases c4 : 0 ≤ x4_1
       ·rw [if_pos c4] at H
        have c4b0 : decide (0 ≤ x4_1) = true := decide_eq_true c4
        clear c4
        by_cases c5 : x4_1 < (l0.length : Int)
        ·rw [if_pos c5] at H
         have c5b0 : decide (x4_1 < (l0.length : Int)) = true := decide_eq_true c5
         clear c5
         obtain ⟨ji6, hji6⟩ : ∃ j_ : Int, (IntKind.u64.wrap (wrap64 (16 * x5_2))) = j_ := ⟨_, rfl⟩
         rw [hji6] at H
         by_cases c7 : 0 ≤ (ji6)
         ·rw [if_pos c7] at H
          have c7b0 := eq_true c7
          have c7b1 : decide (0 ≤ (ji6)) = true := decide_eq_true c7
          clear c7
          obtain ⟨ji8, hji8⟩ : ∃ j_ : Int, (shr .u64 (rd l0 x4_1) (ji6)) = j_ := ⟨_, rfl⟩
          rw [hji8] at H
          have hji8_ : ((rd l0 x4_1) / 2 ^ min (ji6).toNat 64) = ji8 := hji8
          have hji8z : (ji6) ≤ 64 → ((rd l0 x4_1) / 2 ^ (ji6).toNat) = ji8 := shr_small hji8
          by_cases c9 : x3_2.length < 17592186044416
          ·rw [if_pos c9] at H
           have LMc9 := Aside0.mk c9
           clear c9
           obtain ⟨y112, hy112⟩ : ∃ y_ : List Int, y_ = (x3_2 ++ [wrap64 (Go.bits .and .u64 (ji8) 65535)]) := ⟨_, rfl⟩
           rw [← hy112] at H
           have Ny112 := Aside0.mk hy112
           clear hy112
           have H' := Aside0.mk H
           clear H
           have p111 : 0 ≤ (x4_1 : Int) := of_decide_eq_true (by (with_reducible assumption))
           have q111 : x4_1 < (l0.length : Int) := of_decide_eq_true (by (with_reducible assumption))
           obtain ⟨ad111, e111, hx111_0⟩ := Kd.at_int HR0.out x4_1 p111 q111
           cases e111
           replace hx111_0 := (HB.out.cell (World.block_lt_of_cell? w _ hx111_0)).trans hx111_0
           replace p111 := eq_true p111
           replace q111 := eq_true q111
           go_wp2_with ((((with_reducible refine gate_builtin (b := .append) (xs := #[.tmp 16, .tmp 27]) rfl ?_); at_builtin; refine Kd.R_append (Kd.int .i64) (w0 := w) w.heap.size rfl (.tmp 16) (.tmp 27) 120 3 (.int .i64 0) 8 rfl Tryz.underlying120 info3 rfl (by decide) (by omega) u3 x3_2 (wrap64 (Go.bits .and .u64 (ji8) 65535)) [.int .i64 (wrap64 (Go.bits .and .u64 (ji8) 65535))] (fun _ => True) (fun _ => False) rfl rfl ?aP (fun _ hk => hk.elim) ?aF ?aO ?aB ?aS ?aL ?_; (case aP => exact rfl); (case aB => exact HB.out); (case aF => exact (fun _ _ => trivial)); (case aO => exact HO_3.out); (case aS => exact (below_size HB.out)); (case aL => have := LMc9.out; omega); intro v113 w10 ho hb hg hat; rw [← Ny112.out] at ho; replace HB := Aside0.mk (hb); have HO114 := Aside0.mk (ho); clear HO_3; clear ho hb hg hat)))
           go_roundg k2
           case measure => have := HK1.out; have := HK2.out; omega
           case rel => exact ⟨(y112), (wrap64 (x5_2 + 1)), (by rfl), H', ⟨by have := HK1.out; have := HK2.out; omega⟩, ⟨by exact HO114.out⟩, ⟨HB.out⟩⟩
          ·rw [if_neg c9] at H
           exact absurd H (by simp)
         ·rw [if_neg c7] at H
          exact absurd H (by simp)
        ·rw [if_neg c5] at H
         exact absurd H (by simp)
       ·rw [if_neg c4] at H
        exact absurd H (by simp)
      ·rw [if_neg c3] at H
       have c3b0 : decide (x5_2 < 4) = false := decide_eq_false c3
       clear c3
       have H' := Aside0.mk H
       clear H
       go_wp2
       go_roundg k2
       case measure => have := HK1.out; have := HK2.out; omega
       case rel => exact ⟨(x3_2), (wrap64 (x4_1 + 1)), (by rfl), H', ⟨by have := HK1.out; have := HK2.out; omega⟩, ⟨by exact HO_3.out⟩, ⟨HB.out⟩⟩
   ·rw [if_neg c2] at H
    have c2b0 : decide (x4_1 < (l0.length : Int)) = false := decide_eq_false c2
    clear c2
    replace H := Option.bind_eq_some_iff.mp H
    obtain ⟨t108, A110, H⟩ := H
    try dsimp only at H
    have A11 := Aside0.mk A110
    clear A110
    obtain rfl := Option.some.inj H
    simp only [Option.some.injEq, Prod.mk.injEq] at H
    obtain ⟨rfl⟩ := H
    obtain ⟨Ao12, co12, eo12⟩ := Kd.R_slice HO_3.out
    subst eo12
    go_wp2_with ((((with_reducible refine gate_callee (f := 179) rfl ?_); refine goesL_ (some 30) rfl rfl Tryz.func179 (by kernel_rfl) rfl #[.slice Ao12 x3_1.length co12] rfl (by (try simp only [List.map_toArray, List.map_cons, List.map_nil]); rfl) ?_; (with_reducible refine (clepsydraref03_cut.calls k1 (fun k_ => some k_ = (.slice Ao12 x3_1.length co12 : Value).ownBlock) (.slice Ao12 x3_1.length co12) x3_1 t108 w _ ?side1 ?side2 A11.out).mono ?_); (case side1 => exact HB.out); (case side2 => exact Kd.R_tight rfl HO_3.out); rintro e w13 ⟨v109, rfl, ho0, hb, hkp⟩; refine ⟨_, rfl, ?_⟩; have HO110 := Aside0.mk (Kd.R_mono (ok' := fun k_ => True) ho0 (fun k_ hk_ => trivial)); replace HB := Aside0.mk (hb); clear HO_3; clear hb hkp ho0)))
    go_ret
    exact ⟨_, by rfl, by exact HO110.out, HB.out⟩
end Go.Proofs.YtdmglajfmfjmlaaGreat.Cq
