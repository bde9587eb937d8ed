/- Texts of this claim, joined: U0, U1, U2, U3, U4, U5, U6, U7, U8. -/
import Derived.Test.YteelppebdcgbpaaMC
import Derived.Laws.CopyOwn
import Derived.Test.YteelppebdcgbpaaMD
import Derived.Deep.RegionHeld3
import Derived.ArgAppend
import Derived.StillTailTactics

/- Montgomery's way: a row is added. -/
namespace Go.Proofs.Yteelppebdcgbpaa
set_option linter.unusedSimpArgs false
set_option linter.unusedVariables false
open Go.RowKit

/-- mont, as a value -/
def mv (N : Option Addr) (k cn inv : Nat) : Value := .agg #[.slice N k cn, .int .u64 (inv : Int)]

theorem row_stepW {W S S' U Vt P q x cy o s cy' : Nat} (hn : S' + P * o = S + P * s) (h1 : x * q + o + cy = s + W * cy') (h : S + P * cy = U + x * Vt) : S' + P * W * cy' = U + x * (Vt + P * q) := by
  have e1 := congrArg (P * ·) h1
  simp only [Nat.mul_add] at e1 ⊢
  rw [← Nat.mul_assoc P W] at e1
  have e3 : P * (x * q) = x * (P * q) := by rw [Nat.mul_left_comm]
  rw [e3] at e1
  omega
theorem row_step {S S' U Vt P q x cy o s cy' : Nat} (hn : S' + P * o = S + P * s) (h1 : x * q + o + cy = s + 18446744073709551616 * cy') (h : S + P * cy = U + x * Vt) : S' + P * 18446744073709551616 * cy' = U + x * (Vt + P * q) := row_stepW hn h1 h
theorem row_endW {W S S' S'' P c' s o o1 x1 cy R : Nat} (hW : 0 < W) (hP : 0 < P) (hn : S' + P * o = S + P * s) (h1 : o + cy = s + W * c') (h : S + P * cy = R) (hn2 : S'' + P * W * o1 = S' + P * W * (o1 + c')) (hx : P * W * o1 ≤ S') (hR : R < P * W * W) : S'' = R ∧ o1 + c' < W := by
  have e1 := congrArg (P * ·) h1
  simp only [Nat.mul_add] at e1 hn2
  rw [← Nat.mul_assoc P W] at e1
  have hS : S'' = R := by omega
  refine ⟨hS, ?_⟩
  have : P * W * (o1 + c') < P * W * W := by rw [Nat.mul_add]; omega
  exact Nat.lt_of_mul_lt_mul_left this
theorem row_end {S S' S'' P c' s o o1 cy R : Nat} (hP : 0 < P) (hn : S' + P * o = S + P * s) (h1 : o + cy = s + 18446744073709551616 * c') (h : S + P * cy = R) (hn2 : S'' + P * 18446744073709551616 * o1 = S' + P * 18446744073709551616 * (o1 + c')) (hx : P * 18446744073709551616 * o1 ≤ S') (hR : R < P * 18446744073709551616 * 18446744073709551616) : S'' = R ∧ o1 + c' < 18446744073709551616 :=
  row_endW (x1 := 0) (by omega) hP hn h1 h hn2 hx hR

/-- what 'row' returns: the row itself, written -/
def RetT (g base nu cu : Nat) (w : World) (m : Nat) (e : Ending) (w' : World) : Prop :=
  ∃ us' : List Nat, e = .returned (.slice (some ⟨g, 0, none⟩) nu cu) ∧ Own .u64 35 w' base (some ⟨g, 0, none⟩) nu cu us' ∧ B64 us' ∧ w.grownBy w' (some g) ∧ nv us' = m

theorem grown_alloc (w : World) (r : Option Nat) (o : Obj) : w.grownBy (w.alloc o) r := by
  have b := (Below.refl w.heap.size w).alloc (Nat.le_refl _) o
  exact ⟨rfl, rfl, rfl, by simp, fun k hk _ => b.block k hk⟩
theorem cell_set_ne {w : World} {p q : Addr} (h : q.block ≠ p.block) (u : Value) : (w.setCell p u).cell? q = w.cell? q := World.cell?_of_block (Below.heap_setCell w p u q.block h)
theorem gd_le_nv {xs : List Nat} {j : Nat} (h : j < xs.length) : 18446744073709551616 ^ j * gd xs j ≤ nv xs := by
  have := nv_set 0 h
  omega

set_option maxHeartbeats 1000000 in
theorem row_any (w : World) {base g ct k cn d x inv : Nat} {N B : Option Addr} {ts ys : List Nat} (h : Own .u64 35 w base (some ⟨g, 0, none⟩) (k + 2) ct ts) (bt : B64 ts) (hv : Rd .u64 w B k d ys) (bv : B64 ys)
    (hne : ∀ ad, B = some ad → ad.block ≠ g) (hx : x < 18446744073709551616) (hk : k ≤ 1048576) (hfit : nv ts + x * nv ys < 18446744073709551616 ^ (k + 2)) (hg : g < w.heap.size) :
    Calls Try.prog 78 #[mv N k cn inv, .slice (some ⟨g, 0, none⟩) (k + 2) ct, .slice B k d, .int .u64 x] w (RetT g base (k + 2) ct w (nv ts + x * nv ys)) := by
  have H := Lib.hid h
  have BT := Lib.hid bt
  have HV := Lib.hid hv
  have BV := Lib.hid bv
  have HNE := Lib.hid hne
  have HFIT := Lib.hid hfit
  clear h bt hv bv hne hfit
  unfold mv
  go_enter Try.func78, Try.ntmps78
  go_wp2_with fail
  go_loopw [9, 19] (fun cv i wr => ∃ (t cy : Nat) (zs : List Nat), t ≤ k ∧ cy < 18446744073709551616 ∧ i = .int .i64 (t : Int) ∧ cv = .int .u64 (cy : Int) ∧ Own .u64 35 wr base (some ⟨g, 0, none⟩) (k + 2) ct zs ∧ B64 zs ∧ w.grownBy wr (some g) ∧ nv zs + 18446744073709551616 ^ t * cy = nv ts + x * nv (ys.take t) ∧ wr.cell? ⟨w.heap.size, 0, none⟩ = some (.slice N k cn)) (fun _ i _ => k - (intOf i).toNat)
  case atStart => exact ⟨0, 0, ts, by omega, by omega, rfl, rfl, H.out.below ((Below.refl _ _).alloc (Nat.le_refl _) _), BT.out, grown_alloc _ _ _, by simp [nv], ((Bk.new _ _ _).cell 0).trans rfl⟩
  case round =>
    obtain ⟨t, cy, zs, ht, hcy, rfl, rfl, how, bz, hgr, hinv, hbx⟩ := hrel
    have HI := Lib.hid hinv
    have HO := Lib.hid how
    have HG := Lib.hid hgr
    have HB := Lib.hid hbx
    clear hinv
    by_cases hlt : t < k
    · obtain ⟨ad, rfl, hb, hc⟩ := (HV.out.grown hgr HNE.out).form (by omega)
      have hxc := hc t hlt
      have hcell := how.cellAt (show t < k + 2 by omega)
      have hfr := how.frozenAt t
      have hgy := BV.out.gd t
      have hgo := bz.gd t
      obtain ⟨h, eh⟩ : ∃ h, x * gd ys t / 18446744073709551616 = h := ⟨_, rfl⟩
      obtain ⟨l, el⟩ : ∃ l, x * gd ys t % 18446744073709551616 = l := ⟨_, rfl⟩
      have hmul := Yteelppebdcgbpaa.bits_Mul64 x (gd ys t) hx hgy
      rw [eh, el] at hmul
      have hadd1 := run_add l cy 0 (by omega)
      obtain ⟨l1, e1⟩ : ∃ l1, (l + cy + 0) % 18446744073709551616 = l1 := ⟨_, rfl⟩
      obtain ⟨c1, e2⟩ : ∃ c1, (l + cy + 0) / 18446744073709551616 = c1 := ⟨_, rfl⟩
      rw [e1, e2] at hadd1
      have hadd2 := run_add (gd zs t) l1 0 (by omega)
      obtain ⟨s, e4⟩ : ∃ s, (gd zs t + l1 + 0) % 18446744073709551616 = s := ⟨_, rfl⟩
      obtain ⟨c2, e5⟩ : ∃ c2, (gd zs t + l1 + 0) / 18446744073709551616 = c2 := ⟨_, rfl⟩
      rw [e4, e5] at hadd2
      obtain ⟨hd, hc', hh1, hs', hc1, hc2⟩ := mul_digit (s := s) (c2 := c2) hx hgy hcy hgo eh el e1 e2 rfl (by rw [Nat.add_comm l1]; exact e4) (by rw [Nat.add_comm l1]; exact e5) rfl
      rw [Nat.add_right_comm] at hd
      have HD := Lib.hid hd
      have HMUL := Lib.hid hmul
      have hcu := (HO.out.rd).max
      have hcu2 := (HO.out.rd).cap
      clear hd hmul eh el e1 e2 e4 e5 hc hgy hgo how hgr hbx
      simp only [Int.natCast_zero] at hadd1 hadd2
      go_wp2_with fail
      refine (HMUL.out _).mono ?_
      rintro e w' ⟨rfl, rfl⟩
      go_wp2_with fail
      refine ⟨⟨t + 1, h + c1 + c2, zs.set t s, by omega, hc', by go_num, by go_num, HO.out.store t s, bz.set hs', grown_set HG.out _ _, ?_, (cell_set_ne (by simp; omega) _).trans HB.out⟩, by simp [intOf]; omega⟩
      rw [nv_take, Nat.pow_succ]
      exact row_step (nv_set s (by rw [HO.out.len]; omega)) HD.out HI.out
    · obtain rfl : k = t := by omega
      have hcell := how.cellAt (show k < k + 2 by omega)
      have hfr := how.frozenAt k
      have hadd := run_add (gd zs k) cy 0 (by omega)
      have hgo := bz.gd k
      obtain ⟨s, hs⟩ : ∃ s, (gd zs k + cy + 0) % 18446744073709551616 = s := ⟨_, rfl⟩
      obtain ⟨q, hq⟩ : ∃ q, (gd zs k + cy + 0) / 18446744073709551616 = q := ⟨_, rfl⟩
      rw [hs, hq] at hadd
      simp only [Int.natCast_zero] at hadd
      have hd : gd zs k + cy = s + 18446744073709551616 * q := by omega
      have hs64 : s < 18446744073709551616 := by rw [← hs]; exact Nat.mod_lt _ (by omega)
      have hl1 : k < zs.length := by rw [HO.out.len]; omega
      have h2 := HO.out.store k s
      have hcell2 := h2.cellAt (show k + 1 < k + 2 by omega)
      have hfr2 := h2.frozenAt (k + 1)
      have hl2 : k + 1 < (zs.set k s).length := by rw [h2.len]; omega
      have ee := HI.out
      rw [List.take_of_length_le (by rw [HV.out.len]; omega)] at ee
      have hend := row_end (Nat.pow_pos (n := k) (by omega)) (nv_set s hl1) hd ee (by have := nv_set (gd (zs.set k s) (k + 1) + q) hl2; rw [Nat.pow_succ] at this; exact this) (by have := gd_le_nv hl2; rw [Nat.pow_succ] at this; exact this) HFIT.out
      obtain ⟨hfin, hsm⟩ := hend
      have hbx2 : (wr.setCell ⟨g, k, none⟩ (.int .u64 (s : Int))).cell? ⟨w.heap.size, 0, none⟩ = some (.slice N k cn) := (cell_set_ne (by simp; omega) _).trans HB.out
      obtain ⟨o1, ho1⟩ : ∃ o1, gd (zs.set k s) (k + 1) = o1 := ⟨_, rfl⟩
      rw [ho1] at hcell2 hfin hsm
      have HF := Lib.hid hfin
      have HS2 := Lib.hid h2
      have hcu := (HO.out.rd).max
      have hcu2 := (HO.out.rd).cap
      clear how hgr hs hq hd hgo ee hfin h2 ho1 hl1 hl2
      go_wp2_with fail
      go_ret
      refine ⟨(zs.set k s).set (k + 1) (o1 + q), rfl, HS2.out.store (k + 1) (o1 + q), (bz.set hs64).set hsm, grown_set (grown_set HG.out _ _) _ _, HF.out⟩
end Go.Proofs.Yteelppebdcgbpaa

/- Montgomery's way: numbers of just so many limbs. -/
namespace Go.Proofs.Yteelppebdcgbpaa
set_option linter.unusedSimpArgs false
set_option linter.unusedVariables false
open Go.RowKit

/-- a number in k limbs of new memory -/
def RetW (k m : Nat) (w : World) (e : Ending) (w' : World) : Prop :=
  ∃ (g : Nat) (us : List Nat), e = .returned (.slice (some ⟨g, 0, none⟩) k k) ∧ Own .u64 35 w' w.heap.size (some ⟨g, 0, none⟩) k k us ∧ B64 us ∧ nv us = m ∧ Below w.heap.size w w'

theorem RetW.lift {k m : Nat} {w w1 w' : World} {e : Ending} (h : RetW k m w1 e w') (hb : Below w.heap.size w w1) : RetW k m w e w' := by
  obtain ⟨g, us, h1, h2, h3, h4, h5⟩ := h
  exact ⟨g, us, h1, h2.lower hb.size, h3, h4, hb.trans (h5.mono hb.size)⟩

theorem nv_app (xs ys : List Nat) : nv (xs ++ ys) = nv xs + 18446744073709551616 ^ xs.length * nv ys := by
  induction xs with
  | nil => simp [nv]
  | cons x xs ih =>
    simp only [List.cons_append, nv, ih, List.length_cons, Nat.pow_succ, Nat.mul_add]
    rw [Nat.mul_comm (_ ^ _) 18446744073709551616, Nat.mul_assoc]
    omega
/-- all below 2^(64 k) lies in the first k limbs -/
theorem nv_take_fit {xs : List Nat} {k : Nat} (h : nv xs < 18446744073709551616 ^ k) : nv (xs.take k) = nv xs := by
  rcases Nat.lt_or_ge k xs.length with hl | hl
  · have e := nv_app (xs.take k) (xs.drop k)
    rw [List.take_append_drop, List.length_take, Nat.min_eq_left (by omega)] at e
    rcases Nat.eq_zero_or_pos (nv (xs.drop k)) with h0 | h0
    · rw [h0] at e; simp at e; exact e.symm
    · have := Nat.mul_le_mul_left (18446744073709551616 ^ k) h0
      omega
  · rw [List.take_of_length_le hl]

def widen (k : Nat) (xs : List Nat) : List Nat := splice (List.replicate k 0) 0 (xs.take k)
theorem widen_len (k : Nat) (xs : List Nat) : (widen k xs).length = k := by simp [widen, splice]; omega
theorem widen_b64 {k : Nat} {xs : List Nat} (h : B64 xs) : B64 (widen k xs) := by
  intro x hx
  simp only [widen, splice, List.take_zero, List.nil_append, List.mem_append, Nat.zero_add] at hx
  rcases hx with hx | hx
  · exact h x (List.mem_of_mem_take hx)
  · have := List.mem_of_mem_drop hx
    rw [List.mem_replicate] at this
    omega
theorem widen_nv {k : Nat} {xs : List Nat} (h : nv xs < 18446744073709551616 ^ k) : nv (widen k xs) = nv xs := by
  simp only [widen, splice, List.take_zero, List.nil_append, Nat.zero_add, List.drop_replicate]
  rw [nv_app, nv_replicate, Nat.mul_zero, Nat.add_zero]
  exact nv_take_fit h

theorem run_copy_rd (w : World) {g k n c : Nat} {A : Option Addr} {xs zs : List Nat} (hb : Bk w g 35 (va .u64 zs)) (hz : zs.length = k) (h : Rd .u64 w A n c xs) :
    ∃ w', (Builtin.copy_ #[22, 22] 3 #[.slice (some ⟨g, 0, none⟩) k k, .slice A n c]).run Try.prog w = .ok (.int .i64 ((min n k : Nat) : Int)) w' ∧ Bk w' g 35 (va .u64 (splice zs 0 (xs.take k))) ∧ ∀ B, B ≤ g → Below B w w' := by
  obtain ⟨i0, hi0, hz0, hz1, hz2⟩ := info_parts u64_info
  have hsz : (Try.prog.info? 35).map (·.size) = some 1 := by rw [hi0]; simp [hz1]
  have hcl : (xs.take k).length = min n k := by rw [List.length_take, h.len]; omega
  rcases Nat.eq_zero_or_pos (min n k) with h0 | h0
  · refine ⟨w, ?_, ?_, fun B _ => Below.refl _ _⟩
    · rw [run_copy_none (P := Try.prog) w 22 22 3 35 _ _ k k n c Try.underlying22 hsz h0, h0]; rfl
    · have : xs.take k = [] := List.eq_nil_of_length_eq_zero (by omega)
      rw [this]; simpa [splice] using hb
  · obtain ⟨ad, rfl, hlt, hc⟩ := h.form (by omega)
    have hcs : ∀ j v, (vs .u64 (xs.take k))[j]? = some v → w.cell? (ad.add j) = some v := fun j v hv => by
      refine h.cells rfl j v ?_
      rw [vs_get] at hv ⊢
      rw [List.getElem?_take] at hv
      split at hv
      · exact hv
      · simp at hv
    have hrun := run_copy_row (P := Try.prog) w 22 22 3 35 g 0 k k ad n c (va .u64 zs) 35 (vs .u64 (xs.take k)) Try.underlying22 hsz hb (by rw [vs_length, hcl]) hcs (by rw [vs_length, va_size]; omega) (vs_one _ _)
    refine ⟨_, hrun.trans (by rw [vs_length, hcl]; rfl), ?_, fun B hB => below_setRow (Below.refl _ _) hB _⟩
    · unfold Bk
      rw [setRow_heap w g _ _ 35 _ hb]
      simp [va, splice, vs]
      have := h.len
      omega
set_option maxHeartbeats 1000000 in
theorem wide_any (w : World) {k cn n c inv m : Nat} {N A : Option Addr} (h : NA w A n c m) (hk : k ≤ 4194304) (hm : m < 18446744073709551616 ^ k) :
    Calls Try.prog 71 #[mv N k cn inv, .slice A n c] w (RetW k m w) := by
  obtain ⟨xs, h, bx, rfl⟩ := h
  have H := Lib.hid h
  have BX := Lib.hid bx
  have HM := Lib.hid hm
  have hmk := fun w => run_mk k hk w
  clear h bx hm
  unfold mv
  go_enter Try.func71, Try.ntmps71
  go_wp2_with fail
  obtain ⟨w1, hw1⟩ : ∃ w1, w1 = ((w.alloc (.cells #[.slice N k cn, .int .u64 inv] 79)).alloc (.cells (va .u64 (List.replicate k 0)) 35)) := ⟨_, rfl⟩
  have hbl : Below w.heap.size w w1 := by rw [hw1]; (repeat (first | (with_reducible exact Below.refl _ _) | (with_reducible assumption) | (with_reducible refine Below.drew ?_) | (with_reducible refine below_drewN ?_ _) | ((with_reducible refine Below.setCell ?_ (p := ⟨_, _, _⟩) ?_ _); rotate_left; (simp <;> omega)) | ((with_reducible refine Below.alloc ?_ ?_ _); rotate_left; (simp <;> omega)) | ((with_reducible refine Below.trans ?_ (Below.mono (by with_reducible assumption) ?_)); rotate_left; (simp <;> omega))))
  have hbk : Bk w1 (w.heap.size + 1) 35 (va .u64 (List.replicate k 0)) := by
    have := Bk.new (w.alloc (.cells #[.slice N k cn, .int .u64 inv] 79)) 35 (va .u64 (List.replicate k 0))
    rw [hw1]; simpa using this
  obtain ⟨w2, hrun, hb2, hbl2⟩ := run_copy_rd w1 hbk (k := k) (by simp) (H.out.below hbl)
  rw [← hw1, hrun]
  have HB := Lib.hid hb2
  have HBL := Lib.hid (hbl.trans (hbl2 w.heap.size (by omega)))
  clear hrun hb2 hbl2 hbk hbl hw1
  go_wp2_with fail
  go_ret
  exact ⟨w.heap.size + 1, widen k xs, rfl, Own.of_bk HB.out (by omega) (widen_len _ _) (by omega), widen_b64 BX.out, widen_nv HM.out, HBL.out⟩
end Go.Proofs.Yteelppebdcgbpaa

/- Montgomery's way: Mod, a number shifted, the inverse of the lowest limb. -/
namespace Go.Proofs.Yteelppebdcgbpaa
set_option linter.unusedSimpArgs false
set_option linter.unusedVariables false
open Go.RowKit

set_option maxHeartbeats 400000 in
theorem mod_any (w : World) {A B : Option Addr} {n c m d x y : Nat} (hx : NA w A n c x) (hy : NA w B m d y) (hn : n ≤ 262144) (hm : m ≤ 262144) :
    Calls Try.prog 13 #[.slice A n c, .slice B m d] w (RetNE (if y = 0 then 0 else x % y) (if y = 0 then 11 else 0) w) := by
  have hdiv := div_any w hx hy hn hm
  generalize (if y = 0 then 0 else x % y) = r at hdiv ⊢
  generalize (if y = 0 then 0 else x / y) = q at hdiv
  generalize (if y = 0 then (11 : Int) else 0) = er at hdiv ⊢
  have HD := Lib.hid hdiv
  clear hx hy hdiv
  go_enter Try.func13, Try.ntmps13
  go_wp2_with fail
  refine HD.out.mono ?_
  rintro e w' ⟨A1, c1, A2, c2, rfl, h1, h2, hb, -⟩
  have HO := Lib.hid h2
  have HB := Lib.hid hb
  clear h1 h2 hb
  go_wp2_with fail
  go_ret2
  exact ⟨A2, c2, rfl, HO.out, HB.out⟩

set_option maxHeartbeats 400000 in
theorem shifted_any (w : World) {A N : Option Addr} {n c k cn inv x m : Nat} (hx : NA w A n c x) (hN : NA w N k cn m) (hm : 0 < m) (hn : n ≤ 4096) (hk : k ≤ 1024) :
    Calls Try.prog 69 #[mv N k cn inv, .slice A n c] w (RetW k (x * 18446744073709551616 ^ k % m) w) := by
  have hfit : x * 18446744073709551616 ^ k % m < 18446744073709551616 ^ k := by
    have h1 := Nat.mod_lt (x * 18446744073709551616 ^ k) hm
    obtain ⟨xs, h, b, rfl⟩ := hN
    have h2 := nv_lt b
    rw [h.len] at h2
    omega
  have hsh : shiftN x ((64 : Int) * (k : Int)) = x * 18446744073709551616 ^ k := by
    unfold shiftN
    rw [if_pos (by omega), show (min ((64 : Int) * (k : Int)) 65536).toNat = 64 * k by omega, Nat.pow_mul]
  have HX := Lib.hid hx
  have HN := Lib.hid hN
  have HFIT := Lib.hid hfit
  have HSH := Lib.hid hsh
  clear hx hN hfit hsh
  unfold mv
  go_enter Try.func69, Try.ntmps69
  go_wp2_with fail
  have S0 : (w.alloc (.cells #[.slice N k cn, .int .u64 inv] 79)).drew.cell? ⟨w.heap.size, 0, none⟩ = some (.slice N k cn) := ((Bk.new w 79 #[.slice N k cn, .int .u64 inv]).cell 0).trans rfl
  have B0 : Below w.heap.size w (w.alloc (.cells #[.slice N k cn, .int .u64 inv] 79)).drew := by (repeat (first | (with_reducible exact Below.refl _ _) | (with_reducible assumption) | (with_reducible refine Below.drew ?_) | (with_reducible refine below_drewN ?_ _) | ((with_reducible refine Below.setCell ?_ (p := ⟨_, _, _⟩) ?_ _); rotate_left; (simp <;> omega)) | ((with_reducible refine Below.alloc ?_ ?_ _); rotate_left; (simp <;> omega)) | ((with_reducible refine Below.trans ?_ (Below.mono (by with_reducible assumption) ?_)); rotate_left; (simp <;> omega))))
  have hs0 : (w.alloc (.cells #[.slice N k cn, .int .u64 inv] 79)).drew.heap.size = w.heap.size + 1 := by simp
  have hl : ln (x * 18446744073709551616 ^ k) ≤ n + k := by
    rw [ln_le, Nat.pow_add]
    obtain ⟨xs, h, b, rfl⟩ := HX.out
    have h2 := nv_lt b
    rw [h.len] at h2
    exact Nat.mul_lt_mul_of_pos_right h2 (Nat.pow_pos (by omega))
  have hshift := shift_any (A := A) (n := n) (c := c) (x := x) _ ((64 : Int) * (k : Int)) (HX.out.below B0) (by omega)
  have hmod := fun W A1 c1 h1 h2 => mod_any (A := A1) (B := N) (n := ln (x * 18446744073709551616 ^ k)) (c := c1) (m := k) (d := cn) (x := x * 18446744073709551616 ^ k) (y := m) W h1 h2 (by omega) (by omega)
  rw [if_neg (by omega), if_neg (by omega)] at hmod
  rw [HSH.out] at hshift
  have hfit := HFIT.out
  obtain ⟨z, hz⟩ : ∃ z, x * 18446744073709551616 ^ k = z := ⟨_, rfl⟩
  rw [hz] at hshift hmod hl hfit
  have HZ := Lib.hid hz
  clear hz
  have HF2 := Lib.hid hfit
  clear hfit
  have hwrap : IntKind.i64.wrap ((64 : Int) * (k : Int)) = 64 * (k : Int) := IntWalk.i64_in _ (by omega)
  have HS := Lib.hid hshift
  have HM := Lib.hid hmod
  clear hshift hmod
  go_region_held3 (fun w' => w'.cell? ⟨w.heap.size, 0, none⟩ = some (.slice N k cn))
    (with_reducible assumption)
    ((first | (go_at_call 55; refine HS.out.mono ?_; rintro e w1 ⟨A1, c1, rfl, ho1, hb1⟩; rw [hs0] at hb1; have S1 := (hb1.cell (p := ⟨w.heap.size, 0, none⟩) (by simp)).trans S0) | (go_at_call 13; refine (HM.out _ A1 c1 ho1.na ((HN.out.below B0).below (hb1.mono (by omega)))).mono ?_; rintro e w2 ⟨A2, c2, rfl, ho2, hb2⟩; have S2 := (hb2.cell (p := ⟨w.heap.size, 0, none⟩) (by have := hb1.size; simp; omega)).trans S1)))
  have T0 : (w.alloc (.cells #[.slice N k cn, .int .u64 inv] 79)).drew.cell? ⟨w.heap.size, 1, none⟩ = some (.int .u64 inv) := ((Bk.new w 79 #[.slice N k cn, .int .u64 inv]).cell 1).trans rfl
  have hB2 := hb1.trans (hb2.mono (Nat.le_trans (by simp) hb1.size))
  have T2 := (hB2.cell (p := ⟨w.heap.size, 1, none⟩) (by simp)).trans T0
  have HB := Lib.hid (B0.trans (hB2.mono (by omega)))
  have HO := Lib.hid ho2
  have hwide := wide_any (inv := inv) (cn := cn) (N := N) w2 ho2.na (show k ≤ 4194304 by omega) HF2.out
  unfold mv at hwide
  have HW := Lib.hid hwide
  clear hwide S0 S1 T0 hB2 hb1 hb2 ho1 ho2 B0 hs0
  go_wp2_with fail
  refine HW.out.mono ?_
  rintro e w3 h
  obtain ⟨g, us, rfl, ho, b, hv, hb⟩ := h.lift HB.out
  clear h
  go_wp2_with fail
  go_ret
  exact ⟨g, us, rfl, ho, b, by rw [HZ.out]; exact hv, hb⟩
end Go.Proofs.Yteelppebdcgbpaa

/- Montgomery's way: the inverse of the lowest limb. -/
namespace Go.Proofs.Yteelppebdcgbpaa
set_option linter.unusedSimpArgs false
set_option linter.unusedVariables false
open Go.RowKit

theorem inv_alg (n x p W a b c : Int) (h : n * x - 1 = p * a + W * b) : n * (x * (2 - n * x) + W * c) - 1 = p * p * (-(a * a)) + W * (-(2 * p * a * b + W * b * b) + n * c) := by
  have e : n * (x * (2 - n * x) + W * c) - 1 = -((n * x - 1) * (n * x - 1)) + W * (n * c) := by grind
  rw [e, h]; grind
/-- so far x is the inverse of n -/
def Inv2 (n : Int) (i : Nat) (x : Int) : Prop := ∃ a b : Int, n * x - 1 = 2 ^ (3 * 2 ^ i) * a + 18446744073709551616 * b
theorem Inv2.start {n : Int} (h : n % 2 = 1) : Inv2 n 0 n := by
  obtain ⟨m, hm⟩ : ∃ m, n = 2 * m + 1 := ⟨n / 2, by omega⟩
  have e : m * (m + 1) % 2 = 0 := by
    rcases Int.emod_two_eq m with h | h
    · rw [Int.mul_emod, h]; simp
    · rw [Int.mul_emod, show (m + 1) % 2 = 0 by omega]; simp
  refine ⟨m * (m + 1) / 2, 0, ?_⟩
  have e2 : m * (m + 1) = 2 * (m * (m + 1) / 2) := by omega
  subst hm
  rw [show (2 : Int) ^ (3 * 2 ^ 0) = 8 from rfl]
  generalize m * (m + 1) / 2 = q at *
  grind
theorem Inv2.next {n x : Int} {i : Nat} (h : Inv2 n i x) (c : Int) : Inv2 n (i + 1) (x * (2 - n * x) + 18446744073709551616 * c) := by
  obtain ⟨a, b, h⟩ := h
  unfold Inv2
  rw [show 3 * 2 ^ (i + 1) = 3 * 2 ^ i + 3 * 2 ^ i by rw [Nat.pow_succ]; omega, Int.pow_add]
  exact ⟨_, _, inv_alg n x _ _ a b c h⟩
theorem Inv2.done {n x : Int} (h : Inv2 n 6 x) : (n * x - 1) % 18446744073709551616 = 0 := by
  obtain ⟨a, b, h⟩ := h
  rw [h, show (2 : Int) ^ (3 * 2 ^ 6) = 18446744073709551616 * 340282366920938463463374607431768211456 by decide +kernel, Int.mul_assoc, ← Int.mul_add]
  exact Int.mul_emod_right _ _

/-- how the code goes on: each product and difference wrapped -/
theorem Inv2.step {n x : Int} {i : Nat} (h : Inv2 n i x) : Inv2 n (i + 1) (IntKind.u64.wrap (x * IntKind.u64.wrap (2 - IntKind.u64.wrap (n * x)))) := by
  rw [IntKind.wrap_u64, IntKind.wrap_u64, IntKind.wrap_u64]
  obtain ⟨c1, e1⟩ : ∃ c, (n * x) % 18446744073709551616 = n * x + 18446744073709551616 * c := ⟨-(n * x / 18446744073709551616), by omega⟩
  rw [e1]
  obtain ⟨c2, e2⟩ : ∃ c, (2 - (n * x + 18446744073709551616 * c1)) % 18446744073709551616 = 2 - n * x + 18446744073709551616 * c := ⟨-c1 - ((2 - (n * x + 18446744073709551616 * c1)) / 18446744073709551616), by omega⟩
  rw [e2]
  obtain ⟨c3, e3⟩ : ∃ c, (x * (2 - n * x + 18446744073709551616 * c2)) % 18446744073709551616 = x * (2 - n * x) + 18446744073709551616 * c := by
    refine ⟨x * c2 - (x * (2 - n * x + 18446744073709551616 * c2)) / 18446744073709551616, ?_⟩
    have := Int.emod_def (x * (2 - n * x + 18446744073709551616 * c2)) 18446744073709551616
    rw [this]
    generalize (x * (2 - n * x + 18446744073709551616 * c2)) / 18446744073709551616 = y
    grind
  rw [e3]
  exact h.next c3

/-- minus the inverse of the lowest limb -/
def MInv (n0 inv : Nat) : Prop := inv < 18446744073709551616 ∧ (n0 * inv + 1) % 18446744073709551616 = 0
theorem Inv2.minv {n : Nat} {x : Nat} (h : Inv2 (n : Int) 6 (x : Int)) (hx : x < 18446744073709551616) : ∃ inv : Nat, IntKind.u64.wrap (-(x : Int)) = (inv : Int) ∧ MInv n inv := by
  have hd := h.done
  refine ⟨(18446744073709551616 - x) % 18446744073709551616, by rw [IntKind.wrap_u64]; omega, Nat.mod_lt _ (by omega), ?_⟩
  rcases Nat.eq_zero_or_pos x with h0 | h0
  · subst h0; simp at hd
  · rw [Nat.mod_eq_of_lt (show 18446744073709551616 - x < 18446744073709551616 by omega), Nat.mul_sub]
    have : n * x ≤ n * 18446744073709551616 := Nat.mul_le_mul_left _ (by omega)
    have e : (n : Int) * (x : Int) = ((n * x : Nat) : Int) := by push_cast; rfl
    rw [e] at hd
    generalize n * x = p at *
    omega

set_option maxHeartbeats 400000 in
theorem open_any (w : World) {N : Option Addr} {k cn : Nat} {xs : List Nat} (hN : Rd .u64 w N k cn xs) (b : B64 xs) (hk : 0 < k) (ho : gd xs 0 % 2 = 1) :
    Calls Try.prog 68 #[.slice N k cn] w fun e w' => ∃ inv : Nat, e = .returned (mv N k cn inv) ∧ MInv (gd xs 0) inv ∧ Below w.heap.size w w' := by
  have hm := hN.max
  have hcp := hN.cap
  obtain ⟨ad, rfl, hb, hc⟩ := hN.form hk
  have hc0 : w.cell? ad = some (.int .u64 ((gd xs 0 : Nat) : Int)) := by have := hc 0 hk; rwa [Addr.add_zero'] at this
  have hg := b.gd 0
  obtain ⟨n0, hn0⟩ : ∃ n0, gd xs 0 = n0 := ⟨_, rfl⟩
  rw [hn0] at hc0 hg ho
  rw [hn0]
  have HS := Lib.hid (Inv2.start (n := (n0 : Int)) (by omega))
  clear hc hn0 hN b
  unfold mv
  go_enter Try.func68, Try.ntmps68
  go_wp2_with fail
  go_loopw [3, 7] (fun xv i wr => ∃ (j x : Nat), j ≤ 6 ∧ x < 18446744073709551616 ∧ i = .int .i64 (j : Int) ∧ xv = .int .u64 (x : Int) ∧ Inv2 (n0 : Int) j (x : Int) ∧ Below w.heap.size w wr ∧ Bk wr w.heap.size 79 #[.slice none 0 0, .int .u64 0]) (fun _ i _ => 6 - (intOf i).toNat)
  case atStart => exact ⟨0, n0, by omega, hg, rfl, rfl, HS.out, by (repeat (first | (with_reducible exact Below.refl _ _) | (with_reducible assumption) | (with_reducible refine Below.drew ?_) | (with_reducible refine below_drewN ?_ _) | ((with_reducible refine Below.setCell ?_ (p := ⟨_, _, _⟩) ?_ _); rotate_left; (simp <;> omega)) | ((with_reducible refine Below.alloc ?_ ?_ _); rotate_left; (simp <;> omega)) | ((with_reducible refine Below.trans ?_ (Below.mono (by with_reducible assumption) ?_)); rotate_left; (simp <;> omega)))), Bk.new _ _ _⟩
  case round =>
    obtain ⟨j, x, hj, hx, rfl, rfl, hinv, hbl, bk⟩ := hrel
    by_cases hlt : j < 6
    · have hn := hinv.step
      have hr : ∃ y : Nat, y < 18446744073709551616 ∧ IntKind.u64.wrap ((x : Int) * IntKind.u64.wrap (2 - IntKind.u64.wrap ((n0 : Int) * (x : Int)))) = (y : Int) := by
        generalize (x : Int) * IntKind.u64.wrap (2 - IntKind.u64.wrap ((n0 : Int) * (x : Int))) = z
        refine ⟨(z % 18446744073709551616).toNat, by omega, by rw [IntKind.wrap_u64]; omega⟩
      obtain ⟨y, hy, hyw⟩ := hr
      rw [hyw] at hn
      have HN := Lib.hid hn
      have hcell := (hbl.cell (p := ad) hb).trans hc0
      clear hn hinv
      have BK := Lib.hid bk
      clear bk
      go_wp2_with fail
      refine ⟨⟨j + 1, y, by omega, hy, by go_num, rfl, HN.out, hbl, BK.out⟩, by simp [intOf]; omega⟩
    · obtain rfl : j = 6 := by omega
      obtain ⟨inv, hw, hmi⟩ := hinv.minv hx
      have HM := Lib.hid hmi
      have q0 := (bk.cell 0).trans (show _ = some (Value.slice none 0 0) from rfl)
      have f0 := bk.frozen 0
      have bk1 := bk.set 0 (.slice (some ad) k cn)
      have q1 := (bk1.cell 1).trans (show _ = some (Value.int .u64 0) from rfl)
      have f1 := bk1.frozen 1
      have bk2 := bk1.set 1 (.int .u64 inv)
      have r0 := (bk2.cell 0).trans (show _ = some (Value.slice (some ad) k cn) from rfl)
      have r1 := (bk2.cell 1).trans (show _ = some (Value.int .u64 inv) from rfl)
      have hb2 : Below w.heap.size w ((wr.setCell ⟨w.heap.size, 0, none⟩ (.slice (some ad) k cn)).setCell ⟨w.heap.size, 1, none⟩ (.int .u64 inv)) := by (repeat (first | (with_reducible exact Below.refl _ _) | (with_reducible assumption) | (with_reducible refine Below.drew ?_) | (with_reducible refine below_drewN ?_ _) | ((with_reducible refine Below.setCell ?_ (p := ⟨_, _, _⟩) ?_ _); rotate_left; (simp <;> omega)) | ((with_reducible refine Below.alloc ?_ ?_ _); rotate_left; (simp <;> omega)) | ((with_reducible refine Below.trans ?_ (Below.mono (by with_reducible assumption) ?_)); rotate_left; (simp <;> omega))))
      have HB := Lib.hid hb2
      clear hmi hinv bk bk1 bk2 hb2
      go_wp2_with fail
      refine bodyPost_ret (v := .agg #[.slice (some ad) k cn, .int .u64 inv]) (by simp [results, Try.results68, go_sem, r0, r1]) rfl ⟨inv, rfl, HM.out, HB.out⟩
end Go.Proofs.Yteelppebdcgbpaa

/- Montgomery's way: the plain law of a product. -/
namespace Go.Proofs.Yteelppebdcgbpaa
set_option linter.unusedSimpArgs false
set_option linter.unusedVariables false
open Go.RowKit

theorem gd0_mod {xs : List Nat} (h : B64 xs) : gd xs 0 = nv xs % 18446744073709551616 := by
  cases xs with
  | nil => rfl
  | cons x xs =>
    have hx : x < 18446744073709551616 := h x (by simp)
    have : gd (x :: xs) 0 = x := by simp [gd]
    rw [this]; simp only [nv]; omega
theorem nv_drop1 {xs : List Nat} (h : B64 xs) : nv (xs.drop 1) = nv xs / 18446744073709551616 := by
  cases xs with
  | nil => rfl
  | cons x xs =>
    have hx : x < 18446744073709551616 := h x (by simp)
    simp only [nv, List.drop_succ_cons, List.drop_zero]; omega

theorem mont_alg (W T1 t0 x1 u inv x2 m n0 x3 x4 : Int) (h1 : T1 = t0 + W * x1) (h2 : u = t0 * inv - W * x2) (h3 : m = n0 + W * x3) (h4 : n0 * inv + 1 = W * x4) :
    T1 + u * m = W * (t0 * x4 + x1 + t0 * inv * x3 - x2 * n0 - W * x2 * x3) := by
  subst h1 h2 h3
  have : t0 * (n0 * inv + 1) = t0 * (W * x4) := by rw [h4]
  grind
theorem mont_zero {T1 inv m : Nat} (hi : MInv (m % 18446744073709551616) inv) : (T1 + (T1 % 18446744073709551616 * inv % 18446744073709551616) * m) % 18446744073709551616 = 0 := by
  obtain ⟨_, h4⟩ := hi
  obtain ⟨n0, hn0⟩ : ∃ n0, m % 18446744073709551616 = n0 := ⟨_, rfl⟩
  obtain ⟨t0, ht0⟩ : ∃ t0, T1 % 18446744073709551616 = t0 := ⟨_, rfl⟩
  rw [hn0] at h4
  rw [ht0]
  obtain ⟨u, hu⟩ : ∃ u, t0 * inv % 18446744073709551616 = u := ⟨_, rfl⟩
  rw [hu]
  have e2 : ((t0 * inv : Nat) : Int) = (t0 : Int) * (inv : Int) := by push_cast; rfl
  have e3 : ((n0 * inv : Nat) : Int) = (n0 : Int) * (inv : Int) := by push_cast; rfl
  generalize ha : t0 * inv = p at *
  generalize hb : n0 * inv = r at *
  have h := mont_alg 18446744073709551616 (T1 : Int) (t0 : Int) ((T1 / 18446744073709551616 : Nat) : Int) (u : Int) (inv : Int) ((p / 18446744073709551616 : Nat) : Int) (m : Int) (n0 : Int) ((m / 18446744073709551616 : Nat) : Int) (((r + 1) / 18446744073709551616 : Nat) : Int)
    (by omega) (by rw [← e2]; omega) (by omega) (by rw [← e3]; omega)
  have e4 : ((T1 + u * m : Nat) : Int) = (T1 : Int) + (u : Int) * (m : Int) := by push_cast; rfl
  rw [← e4] at h
  generalize T1 + u * m = S at *
  generalize (t0 : Int) * _ + _ + _ - _ - _ = Z at h
  omega

/-- where a product stands, i limbs of a being done -/
def MP (m b A Wi T : Nat) : Prop := T < 2 * m ∧ ∃ q, T * Wi = A * b + q * m
theorem MP.zero {m b : Nat} (hm : 0 < m) : MP m b 0 1 0 := ⟨by omega, 0, by simp⟩
theorem mp_alg (W T T2 Wi a b A q u m T' : Nat) (h : T * Wi = A * b + q * m) (h2 : T2 = T + a * b + u * m) (h3 : T2 = W * T') : T' * (Wi * W) = (A + Wi * a) * b + (q + u * Wi) * m := by
  have e : T' * (Wi * W) = (W * T') * Wi := by rw [Nat.mul_comm Wi W, ← Nat.mul_assoc, Nat.mul_comm T' W]
  rw [e, ← h3, h2]
  grind
theorem MP.next {m b A Wi T a inv : Nat} (h : MP m b A Wi T) (hb : b < m) (ha : a < 18446744073709551616) (hi : MInv (m % 18446744073709551616) inv) :
    MP m b (A + Wi * a) (Wi * 18446744073709551616) ((T + a * b + ((T + a * b) % 18446744073709551616 * inv % 18446744073709551616) * m) / 18446744073709551616) ∧
      T + a * b + ((T + a * b) % 18446744073709551616 * inv % 18446744073709551616) * m < 2 * 18446744073709551616 * m ∧ T + a * b < 18446744073709551616 * m + m := by
  obtain ⟨hT, q, hq⟩ := h
  have h0 := mont_zero (T1 := T + a * b) hi
  obtain ⟨u, hu⟩ : ∃ u, (T + a * b) % 18446744073709551616 * inv % 18446744073709551616 = u := ⟨_, rfl⟩
  have hub : u ≤ 18446744073709551615 := by rw [← hu]; have := Nat.mod_lt ((T + a * b) % 18446744073709551616 * inv) (show 0 < 18446744073709551616 by omega); omega
  rw [hu] at h0 ⊢
  have m1 : u * m ≤ 18446744073709551615 * m := Nat.mul_le_mul_right _ hub
  have m2 : a * b ≤ 18446744073709551615 * m := Nat.mul_le_mul (by omega) (Nat.le_of_lt hb)
  obtain ⟨S, hS⟩ : ∃ S, T + a * b + u * m = S := ⟨_, rfl⟩
  rw [hS] at h0 ⊢
  have hS2 : S = 18446744073709551616 * (S / 18446744073709551616) := by omega
  refine ⟨⟨by omega, q + u * Wi, mp_alg 18446744073709551616 T S Wi a b A q u m _ hq hS.symm hS2⟩, by omega, by omega⟩

/-- what a product of Montgomery's way is -/
def MontR (m k p v : Nat) : Prop := v < m ∧ v * 18446744073709551616 ^ k % m = p % m
theorem MP.done {m b A T k : Nat} (h : MP m b A (18446744073709551616 ^ k) T) : MontR m k (A * b) (if T < m then T else T - m) := by
  obtain ⟨hT, q, hq⟩ := h
  split
  · refine ⟨‹_›, ?_⟩
    rw [hq, Nat.add_mul_mod_self_right]
  · refine ⟨by omega, ?_⟩
    have : (T - m) * 18446744073709551616 ^ k + 18446744073709551616 ^ k * m = A * b + q * m := by
      rw [← hq, Nat.sub_mul]
      have := Nat.mul_le_mul_right (18446744073709551616 ^ k) (show m ≤ T by omega)
      rw [Nat.mul_comm (18446744073709551616 ^ k) m]; omega
    have e := congrArg (· % m) this
    simp only [Nat.add_mul_mod_self_right] at e
    exact e
end Go.Proofs.Yteelppebdcgbpaa

/- Montgomery's way: the walk of a product. -/
namespace Go.Proofs.Yteelppebdcgbpaa
set_option linter.unusedSimpArgs false
set_option linter.unusedVariables false
open Go.RowKit

theorem below_row {B g : Nat} {w0 w w' : World} (hb : Below B w0 w) (hg : w.grownBy w' (some g)) (hBg : B ≤ g) (hs : B ≤ w.heap.size) : Below B w0 w' :=
  hb.trans ⟨hg.os, hg.tape, hg.output, hg.size, fun k hk => hg.block k (by omega) (by simp; omega)⟩

theorem fit2 {X P m : Nat} (h : X < 2 * 18446744073709551616 * m) (hm : m < P) : X < P * 18446744073709551616 * 18446744073709551616 := by
  have h1 : m * 18446744073709551616 ≤ P * 18446744073709551616 := Nat.mul_le_mul_right _ (Nat.le_of_lt hm)
  have e : 2 * 18446744073709551616 * m = 2 * (m * 18446744073709551616) := by rw [Nat.mul_assoc, Nat.mul_comm 18446744073709551616 m]
  rw [e] at h
  obtain ⟨R, hR⟩ : ∃ R, m * 18446744073709551616 = R := ⟨_, rfl⟩
  obtain ⟨Q, hQ⟩ : ∃ Q, P * 18446744073709551616 = Q := ⟨_, rfl⟩
  rw [hR] at h h1
  rw [hQ] at h1 ⊢
  clear hR hQ e hm
  omega
/-- the row without its first limb, and a nought behind it -/
theorem grown_own {w' : World} {v' : Value} {base n : Nat} {xs : List Nat} (h : w'.ownsRow base 35 1 v' (n + 1) (vs .u64 xs ++ vs .u64 [0])) : ∃ g c, v' = .slice (some ⟨g, 0, none⟩) (n + 1) c ∧ base ≤ g ∧ g < w'.heap.size ∧ Own .u64 35 w' base (some ⟨g, 0, none⟩) (n + 1) c (xs ++ [0]) := by
  rw [← vs_append] at h
  rcases h.2 with ⟨h1, h2⟩ | ⟨g, cap, cur, h1, h2, h3, _⟩
  · simp at h2
  · subst h1
    exact ⟨g, cap, rfl, h2, (Array.getElem?_eq_some_iff.1 h3).1, h⟩


set_option maxHeartbeats 2000000 in
theorem mont_mul_any (w : World) {N A B : Option Addr} {k cn ca cb inv m : Nat} {xs zs ys : List Nat} (hN : Rd .u64 w N k cn xs) (bN : B64 xs) (hm : nv xs = m) (hk : 0 < k) (hk2 : k ≤ 4096) (hmp : 0 < m) (hi : MInv (m % 18446744073709551616) inv)
    (hA : Rd .u64 w A k ca zs) (bA : B64 zs) (hB : Rd .u64 w B k cb ys) (bB : B64 ys) (hb : nv ys < m) :
    Calls Try.prog 70 #[mv N k cn inv, .slice A k ca, .slice B k cb] w fun e w' => ∃ v, MontR m k (nv zs * nv ys) v ∧ RetW k v w e w' := by
  have hmW : m < 18446744073709551616 ^ k := by rw [← hm, ← hN.len]; exact nv_lt bN
  have HN := Lib.hid hN
  have BN := Lib.hid bN
  have HM := Lib.hid hm
  have HI := Lib.hid hi
  have HA := Lib.hid hA
  have BA := Lib.hid bA
  have HB := Lib.hid hB
  have BB := Lib.hid bB
  have HMW := Lib.hid hmW
  have hmk := fun w => run_mk (k + 2) (by omega) w
  rw [show ((k + 2 : Nat) : Int) = (k : Int) + 2 from rfl] at hmk
  clear hN bN hm hi hA bA hB bB hmW
  unfold mv
  go_enter Try.func70, Try.ntmps70
  go_wp2_with fail
  obtain ⟨w1, hw1⟩ : ∃ w1, w1 = (w.alloc (.cells #[.slice N k cn, .int .u64 inv] 79)) := ⟨_, rfl⟩
  have hs1 : w1.heap.size = w.heap.size + 1 := by rw [hw1]; simp
  have k1 : Bk w1 w.heap.size 79 #[.slice N k cn, .int .u64 inv] := by rw [hw1]; exact Bk.new _ _ _
  have hb1 : Below w.heap.size w w1 := by rw [hw1]; (repeat (first | (with_reducible exact Below.refl _ _) | (with_reducible assumption) | (with_reducible refine Below.drew ?_) | (with_reducible refine below_drewN ?_ _) | ((with_reducible refine Below.setCell ?_ (p := ⟨_, _, _⟩) ?_ _); rotate_left; (simp <;> omega)) | ((with_reducible refine Below.alloc ?_ ?_ _); rotate_left; (simp <;> omega)) | ((with_reducible refine Below.trans ?_ (Below.mono (by with_reducible assumption) ?_)); rotate_left; (simp <;> omega))))
  rw [← hw1]
  have HB1 := Lib.hid hb1
  have K1 := Lib.hid k1
  clear hw1 k1 hb1
  go_loopw [8, 19] (fun tv i wr => ∃ (j g ct : Nat) (ts : List Nat), j ≤ k ∧ i = .int .i64 (j : Int) ∧ tv = .slice (some ⟨g, 0, none⟩) (k + 2) ct ∧ w.heap.size + 1 ≤ g ∧ g < wr.heap.size ∧ Own .u64 35 wr (w.heap.size + 1) (some ⟨g, 0, none⟩) (k + 2) ct ts ∧ B64 ts ∧ Below (w.heap.size + 1) w1 wr ∧ MP m (nv ys) (nv (zs.take j)) (18446744073709551616 ^ j) (nv ts)) (fun _ i _ => k - (intOf i).toNat)
  case atStart =>
    refine ⟨0, w.heap.size + 1, k + 2, List.replicate (k + 2) 0, by omega, rfl, rfl, by omega, by simp; omega, Own.of_bk (by rw [← hs1]; exact Bk.new _ _ _) (by omega) (by simp) (by omega), B64.replicate _, (Below.refl _ _).alloc (by omega) _, ?_⟩
    rw [nv_replicate, Nat.pow_zero, List.take_zero]
    exact MP.zero hmp
  case round =>
    obtain ⟨j, g, ct, ts, hj, rfl, rfl, hg1, hg2, ho, bt, hbl, hmp⟩ := hrel
    have HO := Lib.hid ho
    have BT := Lib.hid bt
    have HBL := Lib.hid hbl
    have HMP := Lib.hid hmp
    clear ho bt hbl hmp
    by_cases hlt : j < k
    · have hbw : Below w.heap.size w wr := HB1.out.trans (HBL.out.mono (by omega))
      have q0 : wr.cell? ⟨w.heap.size, 0, none⟩ = some (.slice N k cn) := (HBL.out.cell (p := ⟨w.heap.size, 0, none⟩) (by simp)).trans ((K1.out.cell 0).trans rfl)
      have q1 : wr.cell? ⟨w.heap.size, 1, none⟩ = some (.int .u64 inv) := (HBL.out.cell (p := ⟨w.heap.size, 1, none⟩) (by simp)).trans ((K1.out.cell 1).trans rfl)
      obtain ⟨ad, rfl, hab, hac⟩ := HA.out.form (by omega)
      have hxc := (hbw.cell (p := ad.add j) (adlt hab j)).trans (hac j hlt)
      have hga := BA.out.gd j
      have hcA := HA.out.cap
      have hmA := HA.out.max
      obtain ⟨aj, haj⟩ : ∃ aj, gd zs j = aj := ⟨_, rfl⟩
      rw [haj] at hxc hga
      obtain ⟨hstep, hS2, hS1⟩ := HMP.out.next hb hga HI.out
      clear hac
      go_wp2_with fail
      go_still_tail 7, (by kernel_rfl)
      change wpList _ _ _ _ _ wr.drew
      have hneA : ∀ {Z : Option Addr} {n c : Nat} {vs : List Nat}, Rd .u64 w Z n c vs → 0 < n → ∀ ad, Z = some ad → ad.block ≠ g := fun h h0 ad e => by
        obtain ⟨ad', e', hlt', _⟩ := h.form h0
        rw [e] at e'; obtain rfl := Option.some.inj e'; omega
      have hbw2 : Below w.heap.size w wr.drew := hbw.drew
      have hW2 : 18446744073709551616 ^ (k + 2) = 18446744073709551616 ^ k * 18446744073709551616 * 18446744073709551616 := by rw [Nat.pow_succ, Nat.pow_succ]
      have hmW := HMW.out
      have hrow := row_any wr.drew (N := N) (cn := cn) (inv := inv) (HO.out.drewN 1) BT.out (HB.out.below hbw2) BB.out (hneA HB.out hk) hga (by omega) (by rw [hW2]; omega) hg2
      have HROW := Lib.hid hrow
      have HSTEP := Lib.hid hstep
      have HS2 := Lib.hid hS2
      have HW2 := Lib.hid hW2
      clear hrow hstep hS1 hS2 hW2 hmW hbw
      unfold mv at HROW
      go_wp2_with fail
      refine HROW.out.mono ?_
      rintro e w2 ⟨us, rfl, ho2, bu, hgr, hnu⟩
      have hs2 : wr.heap.size ≤ w2.heap.size := hgr.size
      have hbl2 : Below (w.heap.size + 1) w1 w2 := below_row (HBL.out.drew) hgr hg1 (by simp; omega)
      have p0 : w2.cell? ⟨w.heap.size, 0, none⟩ = some (.slice N k cn) := (hbl2.cell (p := ⟨w.heap.size, 0, none⟩) (by simp)).trans ((K1.out.cell 0).trans rfl)
      have p1 : w2.cell? ⟨w.heap.size, 1, none⟩ = some (.int .u64 inv) := (hbl2.cell (p := ⟨w.heap.size, 1, none⟩) (by simp)).trans ((K1.out.cell 1).trans rfl)
      have hc0 := ho2.cellAt (show 0 < k + 2 by omega)
      have hu0 := gd0_mod bu
      rw [hnu] at hu0
      obtain ⟨t0, ht0⟩ : ∃ t0, gd us 0 = t0 := ⟨_, rfl⟩
      rw [ht0] at hc0 hu0
      obtain ⟨u, hu⟩ : ∃ u, t0 * inv % 18446744073709551616 = u := ⟨_, rfl⟩
      have huw : IntKind.u64.wrap ((t0 : Int) * (inv : Int)) = (u : Int) := by
        rw [show (t0 : Int) * (inv : Int) = ((t0 * inv : Nat) : Int) by push_cast; rfl, wrap_u64_nat, hu]
      have hu64 : u < 18446744073709551616 := by rw [← hu]; exact Nat.mod_lt _ (by omega)
      have hmx := ho2.rd.max
      have hcx := ho2.rd.cap
      have HU := Lib.hid hu
      have HT0 := Lib.hid hu0
      have HNU := Lib.hid hnu
      have HO2 := Lib.hid ho2
      have HGR := Lib.hid hgr
      have HBL2 := Lib.hid hbl2
      clear hu hu0 hnu ho2 hgr hbl2 q0 q1 ht0
      have h02 : (0 : Int) < (k : Int) + 2 := by omega
      have h02' : (0 : Int) < ((k + 2 : Nat) : Int) := by omega
      go_wp2_with fail
      go_still_tail 10, (by kernel_rfl)
      change wpList _ _ _ _ _ w2.drew
      have hbw3 : Below w.heap.size w w2.drew := HB1.out.trans ((HBL2.out.drew).mono (by omega))
      have hst := HSTEP.out
      have hs2' := HS2.out
      rw [← HT0.out, HU.out] at hst hs2'
      have hmW := HMW.out
      have hfit2 : nv us + u * nv xs < 18446744073709551616 ^ (k + 2) := by
        have e1 := HM.out
        have e2 := HNU.out
        have e3 := HW2.out
        rw [e1, e2, e3]
        exact fit2 hs2' HMW.out
      have hrow2 := row_any w2.drew (N := N) (cn := cn) (inv := inv) (HO2.out.drewN 1) bu (HN.out.below hbw3) BN.out (hneA HN.out hk) hu64 (by omega) hfit2 (by simp; omega)
      rw [HM.out, HNU.out] at hrow2
      obtain ⟨S, hS⟩ : ∃ S, nv ts + aj * nv ys + u * m = S := ⟨_, rfl⟩
      rw [hS] at hrow2 hst
      have HROW2 := Lib.hid hrow2
      have HST := Lib.hid hst
      clear hrow2 hst hs2' hS hmW hbw3 p0 p1 hc0 huw
      unfold mv at HROW2
      go_wp2_with fail
      refine HROW2.out.mono ?_
      rintro e w3 ⟨us3, rfl, ho3, bu3, hgr3, hnu3⟩
      have hs3 : w2.heap.size ≤ w3.heap.size := hgr3.size
      have hbl3 : Below (w.heap.size + 1) w1 w3 := below_row (HBL2.out.drew) hgr3 hg1 (by simp; omega)
      have HO3 := Lib.hid ho3
      have HBL3 := Lib.hid hbl3
      have HNU3 := Lib.hid hnu3
      clear ho3 hgr3 hbl3 hnu3
      have h1 : (1 : Int) ≤ (k : Int) + 2 := by omega
      have h2 : (k : Int) + 2 ≤ (ct : Int) := by omega
      obtain ⟨w4, hw4⟩ : ∃ w4, w4 = w3.alloc (.cells #[.int .u64 0] 35) := ⟨_, rfl⟩
      have hb4 : Below (w.heap.size + 1) w1 w4 := by rw [hw4]; exact HBL3.out.alloc (by omega) _
      have hs4 : w.heap.size + 1 ≤ w4.heap.size := by rw [hw4]; simp; omega
      have hn4 : ∀ j u, (vs .u64 [0])[j]? = some u → w4.cell? ((⟨w3.heap.size, 0, none⟩ : Addr).add j) = some u := by
        intro j u hu
        rw [hw4, ad_plain]
        exact ((Bk.new w3 35 #[.int .u64 0]).cell j).trans (by simpa [vs] using hu)
      have ho4 : ∀ b, some (⟨g, 1, none⟩ : Addr) = some b → ∀ j u, (vs .u64 (us3.drop 1))[j]? = some u → w4.cell? (b.add j) = some u := by
        intro b e j u hu
        obtain rfl := Option.some.inj e
        have hr := (HO3.out.rd.drop (m := 1) (by omega)).alloc (.cells #[.int .u64 0] 35)
        rw [if_neg (by omega), ← hw4] at hr
        simp only [Option.map_some, ad_plain] at hr
        exact hr.cells rfl j u hu
      have hl4 : (vs .u64 (us3.drop 1)).length = (k + 1) * 1 := by rw [vs_length, List.length_drop, HO3.out.len]; omega
      obtain ⟨i0, hi0, hz0, hz1, hz2⟩ := info_parts u64_info
      have HB4 := Lib.hid hb4
      clear hb4
      go_wp2_with (at_builtin; rw [← hw4]; refine wpList_append_grows w4 rfl (.tmp 46) (.tmp 47) _ rfl 35 i0 (.int .u64 0) 1 8 Try.underlying22 hi0 hz0 hz1 hz2 rfl (by omega) (some ⟨g, 1, none⟩) (k + 1) (k + 1) (vs .u64 (us3.drop 1)) rfl (fun e => by cases e) hl4 ho4 ⟨w3.heap.size, 0, none⟩ 1 1 (vs .u64 [0]) rfl rfl hn4 (vs_one _ _) (by omega) (by simp only [maxLen]; omega) (by omega) ?_)
      intro v' w5 how hgr5
      obtain ⟨g5, c5, rfl, hg5, hl5, ho5⟩ := grown_own how
      have hb5 : Below (w.heap.size + 1) w1 w5 := by
        have := hgr5.size
        refine HB4.out.trans ?_
        rw [hw4]
        exact ⟨hgr5.os, hgr5.tape, hgr5.output, hgr5.size, fun q hq => hgr5.block q (by simp; omega) (by simp)⟩
      have HO5 := Lib.hid ho5
      have HB5 := Lib.hid hb5
      clear how hgr5 hb5 ho5 hn4 ho4 hl4
      go_wp2_with fail
      refine ⟨⟨j + 1, g5, c5, us3.tail ++ [0], by omega, by go_num, rfl, by omega, hl5, HO5.out.lower (by omega), ?_, HB5.out, ?_⟩, by simp [intOf]; omega⟩
      · exact B64.append (fun x hx => bu3 x (List.mem_of_mem_tail hx)) (B64.cons (by omega) B64.nil)
      · rw [nv_take, Nat.pow_succ, haj]
        have e : nv (us3.tail ++ [0]) = S / 18446744073709551616 := by
          rw [nv_app, ← List.drop_one, nv_drop1 bu3, HNU3.out]; simp [nv]
        rw [e]
        exact HST.out
    · obtain rfl : k = j := by omega
      have hdone := HMP.out.done
      rw [List.take_of_length_le (by rw [HA.out.len]; omega)] at hdone
      have hbw : Below w.heap.size w wr := HB1.out.trans (HBL.out.mono (by omega))
      have q0 : wr.cell? ⟨w.heap.size, 0, none⟩ = some (.slice N k cn) := (HBL.out.cell (p := ⟨w.heap.size, 0, none⟩) (by simp)).trans ((K1.out.cell 0).trans rfl)
      have hsz := HBL.out.size
      have hsub := sub_any wr (x := nv ts) (y := m) ⟨ts, HO.out.rd, BT.out, rfl⟩ ⟨xs, HN.out.below hbw, BN.out, HM.out⟩ (by omega) (by omega)
      have hnt : NA wr (some ⟨g, 0, none⟩) (k + 2) ct (nv ts) := ⟨ts, HO.out.rd, BT.out, rfl⟩
      have HNT := Lib.hid hnt
      have hT2 := HMP.out.1
      have HBW := Lib.hid hbw
      clear hnt hbw
      by_cases ht : nv ts < m
      · rw [if_pos ht] at hsub hdone
        have hfit : nv ts < 18446744073709551616 ^ k := Nat.lt_trans ht HMW.out
        generalize nv ts = T at *
        have HSUB := Lib.hid hsub
        have HD := Lib.hid hdone
        have HF := Lib.hid hfit
        clear hsub hdone hfit hT2
        go_wp2_with fail
        refine HSUB.out.mono ?_
        rintro e w2 ⟨A2, c2, rfl, -, hb2⟩
        have p0 : w2.cell? ⟨w.heap.size, 0, none⟩ = some (.slice N k cn) := (hb2.cell (p := ⟨w.heap.size, 0, none⟩) (by simp; omega)).trans q0
        have p1 : w2.cell? ⟨w.heap.size, 1, none⟩ = some (.int .u64 inv) := (hb2.cell (p := ⟨w.heap.size, 1, none⟩) (by simp; omega)).trans ((HBL.out.cell (p := ⟨w.heap.size, 1, none⟩) (by simp)).trans ((K1.out.cell 1).trans rfl))
        have hwide := wide_any (inv := inv) (cn := cn) (N := N) w2 (HNT.out.below hb2) (show k ≤ 4194304 by omega) HF.out
        unfold mv at hwide
        have HW := Lib.hid hwide
        have HB2 := Lib.hid (HBW.out.trans (hb2.mono HBW.out.size))
        clear hwide hb2
        go_wp2_with fail
        refine HW.out.mono ?_
        rintro e w3 h
        have h := h.lift HB2.out
        obtain ⟨g3, us3, rfl, h1, h2, h3, h4⟩ := h
        go_wp2_with fail
        go_ret
        exact ⟨T, HD.out, g3, us3, rfl, h1, h2, h3, h4⟩
      · rw [if_neg ht] at hsub hdone
        have hfit : nv ts - m < 18446744073709551616 ^ k := by have := HMW.out; omega
        generalize nv ts - m = T at *
        have HSUB := Lib.hid hsub
        have HD := Lib.hid hdone
        have HF := Lib.hid hfit
        clear hsub hdone hfit hT2
        go_wp2_with fail
        refine HSUB.out.mono ?_
        rintro e w2 ⟨A2, c2, rfl, ho2, hb2⟩
        have p0 : w2.cell? ⟨w.heap.size, 0, none⟩ = some (.slice N k cn) := (hb2.cell (p := ⟨w.heap.size, 0, none⟩) (by simp; omega)).trans q0
        have p1 : w2.cell? ⟨w.heap.size, 1, none⟩ = some (.int .u64 inv) := (hb2.cell (p := ⟨w.heap.size, 1, none⟩) (by simp; omega)).trans ((HBL.out.cell (p := ⟨w.heap.size, 1, none⟩) (by simp)).trans ((K1.out.cell 1).trans rfl))
        have hwide := wide_any (inv := inv) (cn := cn) (N := N) w2 ho2.na (show k ≤ 4194304 by omega) HF.out
        unfold mv at hwide
        have HW := Lib.hid hwide
        have HB2 := Lib.hid (HBW.out.trans (hb2.mono HBW.out.size))
        clear hwide hb2
        go_wp2_with fail
        refine HW.out.mono ?_
        rintro e w3 h
        have h := h.lift HB2.out
        obtain ⟨g3, us3, rfl, h1, h2, h3, h4⟩ := h
        go_wp2_with fail
        go_ret
        exact ⟨T, HD.out, g3, us3, rfl, h1, h2, h3, h4⟩
end Go.Proofs.Yteelppebdcgbpaa

/- Powers modulo an odd number: the plain law of Montgomery's way. -/
namespace Go.Proofs.Yteelppebdcgbpaa
set_option linter.unusedSimpArgs false
set_option linter.unusedVariables false
open Go.RowKit

theorem halve_mod {a b m : Nat} (hm : m % 2 = 1) (h : a * 2 % m = b * 2 % m) : a % m = b % m := by
  have e := congrArg (fun t => t * ((m + 1) / 2) % m) h
  simp only [Nat.mod_mul_mod] at e
  have e2 : ∀ c, c * 2 * ((m + 1) / 2) = c + c * m := fun c => by
    rw [Nat.mul_assoc, show 2 * ((m + 1) / 2) = m + 1 by omega, Nat.mul_add, Nat.mul_one, Nat.add_comm]
  rw [e2, e2, Nat.add_mul_mod_self_right, Nat.add_mul_mod_self_right] at e
  exact e
theorem halve_pow {m : Nat} (hm : m % 2 = 1) : ∀ (n : Nat) {a b : Nat}, a * 2 ^ n % m = b * 2 ^ n % m → a % m = b % m := by
  intro n
  induction n with
  | zero => intro a b h; simpa using h
  | succ n ih =>
    intro a b h
    rw [Nat.pow_succ, ← Nat.mul_assoc, ← Nat.mul_assoc] at h
    exact ih (halve_mod hm h)
theorem cancelW {m : Nat} (hm : m % 2 = 1) (k : Nat) {a b : Nat} (h : a * 18446744073709551616 ^ k % m = b * 18446744073709551616 ^ k % m) : a % m = b % m := by
  rw [show (18446744073709551616 : Nat) = 2 ^ 64 by decide +kernel, ← Nat.pow_mul] at h
  exact halve_pow hm _ h

/-- v is p in Montgomery's form -/
def MF (m k p v : Nat) : Prop := v = p * 18446744073709551616 ^ k % m
theorem MF.mul {m k p q u v r : Nat} (hm : m % 2 = 1) (hu : MF m k p u) (hv : MF m k q v) (h : MontR m k (u * v) r) : MF m k (p * q) r := by
  obtain ⟨h1, h2⟩ := h
  unfold MF at *
  rw [hu, hv, ← Nat.mul_mod] at h2
  have : p * 18446744073709551616 ^ k * (q * 18446744073709551616 ^ k) = p * q * 18446744073709551616 ^ k * 18446744073709551616 ^ k := by
    rw [Nat.mul_assoc, Nat.mul_left_comm (18446744073709551616 ^ k), ← Nat.mul_assoc, ← Nat.mul_assoc]
  rw [this] at h2
  have := cancelW hm k h2
  rw [Nat.mod_eq_of_lt h1] at this
  exact this
theorem MF.out1 {m k p u r : Nat} (hm : m % 2 = 1) (hu : MF m k p u) (h : MontR m k (u * 1) r) : r = p % m := by
  obtain ⟨h1, h2⟩ := h
  unfold MF at *
  rw [hu, Nat.mul_one, Nat.mod_mod] at h2
  have := cancelW hm k h2
  rw [Nat.mod_eq_of_lt h1] at this
  exact this
theorem MF.lt {m k p u : Nat} (hm : 0 < m) (hu : MF m k p u) : u < m := by rw [hu]; exact Nat.mod_lt _ hm

/-- how far a power has come: the digits of e below j are done -/
def PB (x e j : Nat) : Nat := x ^ (e % 2 ^ j)
def QB (x j : Nat) : Nat := x ^ (2 ^ j)
theorem PB.zero (x e : Nat) : PB x e 0 = 1 := by unfold PB; rw [Nat.pow_zero, Nat.mod_one, Nat.pow_zero]
theorem QB.zero (x : Nat) : QB x 0 = x := by unfold QB; rw [Nat.pow_zero, Nat.pow_one]
theorem QB.next (x j : Nat) : QB x j * QB x j = QB x (j + 1) := by unfold QB; rw [← Nat.pow_add, Nat.pow_succ]; congr 1; omega
theorem mod_pow_next (e j : Nat) : e % 2 ^ (j + 1) = e % 2 ^ j + e / 2 ^ j % 2 * 2 ^ j := by
  rw [Nat.pow_succ, Nat.mod_mul, Nat.mul_comm (2 ^ j)]
theorem PB.one {x e j : Nat} (h : e / 2 ^ j % 2 = 1) : PB x e j * QB x j = PB x e (j + 1) := by
  unfold PB QB; rw [← Nat.pow_add, mod_pow_next, h, Nat.one_mul]
theorem PB.none {x e j : Nat} (h : e / 2 ^ j % 2 = 0) : PB x e j = PB x e (j + 1) := by
  unfold PB; rw [mod_pow_next, h, Nat.zero_mul, Nat.add_zero]
theorem PB.done (x e : Nat) : PB x e (blen e) = x ^ e := by
  unfold PB; rw [Nat.mod_eq_of_lt (blen_le.1 (Nat.le_refl _))]
end Go.Proofs.Yteelppebdcgbpaa

/- Powers modulo an odd number: the walk. -/
namespace Go.Proofs.Yteelppebdcgbpaa
set_option linter.unusedSimpArgs false
set_option linter.unusedVariables false
open Go.RowKit

theorem chainB {B : Nat} {w0 w w' : World} (h : Below B w0 w) (hb : Below w.heap.size w w') (hs : B ≤ w0.heap.size) : Below B w0 w' := h.trans (hb.mono (Nat.le_trans hs h.size))

set_option maxHeartbeats 2000000 in
theorem odd_any (w : World) {A E N : Option Addr} {n c ne ce k cn x e m : Nat} {xs : List Nat} (hA : NA w A n c x) (hE : NA w E ne ce e) (hN : Rd .u64 w N k cn xs) (bN : B64 xs) (hm : nv xs = m) (hmo : m % 2 = 1) (hm1 : 1 < m)
    (hn : n ≤ 4096) (hne : ne ≤ 4096) (hce : ne ≤ ce) (hk : k ≤ 1024) :
    Calls Try.prog 41 #[.slice A n c, .slice E ne ce, .slice N k cn] w (RetN (x ^ e % m) w) := by
  have hmp : 0 < m := by omega
  have hk0 : 0 < k := by
    rcases Nat.eq_zero_or_pos k with h | h
    · subst h
      have := hN.len
      obtain rfl : xs = [] := List.eq_nil_of_length_eq_zero this
      simp [nv] at hm; omega
    · exact h
  have hg0 := gd0_mod bN
  rw [hm] at hg0
  have hopen := open_any w hN bN hk0 (by omega)
  rw [hg0] at hopen
  have HA := Lib.hid hA
  have HE := Lib.hid hE
  have HN := Lib.hid hN
  have BN := Lib.hid bN
  have HM := Lib.hid hm
  have HO := Lib.hid hopen
  clear hopen hA hE hN bN hm hg0
  go_enter Try.func41, Try.ntmps41
  go_wp2_with fail
  refine HO.out.mono ?_
  rintro e1 w1 ⟨inv, rfl, hinv, hb1⟩
  have HI := Lib.hid hinv
  have HB1 := Lib.hid hb1
  clear hinv hb1
  unfold mv
  go_wp2_with fail
  obtain ⟨w2, hw2⟩ : ∃ w2, w2 = (w1.alloc (.cells #[.slice N k cn, .int .u64 inv] 79)) := ⟨_, rfl⟩
  have hs2 : w2.heap.size = w1.heap.size + 1 := by rw [hw2]; simp
  have k2 : Bk w2 w1.heap.size 79 #[.slice N k cn, .int .u64 inv] := by rw [hw2]; exact Bk.new _ _ _
  have hb2 : Below w.heap.size w w2 := by rw [hw2]; exact HB1.out.alloc HB1.out.size _
  rw [← hw2]
  clear hw2
  have hof := of_any w2 1 (by omega)
  simp only [Int.natCast_one] at hof
  refine hof.mono ?_
  rintro e3 w3 ⟨A1, c1, rfl, ho3, hb3⟩
  have hw3 : Below w.heap.size w w3 := chainB hb2 hb3 (Nat.le_refl _)
  have hlt3 : w1.heap.size < w3.heap.size := by have := hb3.size; omega
  have T0 : w3.cell? ⟨w1.heap.size, 0, none⟩ = some (.slice N k cn) := (hb3.cell (p := ⟨w1.heap.size, 0, none⟩) (by simp; omega)).trans ((k2.cell 0).trans rfl)
  have T1 : w3.cell? ⟨w1.heap.size, 1, none⟩ = some (.int .u64 inv) := (hb3.cell (p := ⟨w1.heap.size, 1, none⟩) (by simp; omega)).trans ((k2.cell 1).trans rfl)
  have hone : NA w3 A1 (ln 1) c1 1 := ho3.na
  have hl1 : ln 1 ≤ 1 := ln_le.2 (by omega)
  have hS1 : ∀ W, Below w3.heap.size w3 W → Calls Try.prog 69 #[.agg #[.slice N k cn, .int .u64 inv], .slice A1 (ln 1) c1] W (RetW k (1 * 18446744073709551616 ^ k % m) W) := fun W hW =>
    shifted_any W (hone.below hW) ⟨xs, (HN.out.below hw3).below hW, BN.out, HM.out⟩ hmp (by omega) hk
  have hSa : ∀ W, Below w3.heap.size w3 W → Calls Try.prog 69 #[.agg #[.slice N k cn, .int .u64 inv], .slice A n c] W (RetW k (x * 18446744073709551616 ^ k % m) W) := fun W hW =>
    shifted_any W ((HA.out.below hw3).below hW) ⟨xs, (HN.out.below hw3).below hW, BN.out, HM.out⟩ hmp (by omega) hk
  obtain ⟨v1, hv1⟩ : ∃ v1, v1 = 1 * 18446744073709551616 ^ k % m := ⟨_, rfl⟩
  obtain ⟨va', hva⟩ : ∃ va', va' = x * 18446744073709551616 ^ k % m := ⟨_, rfl⟩
  rw [← hv1] at hS1
  rw [← hva] at hSa
  have M1 : MF m k 1 v1 := hv1
  have MA : MF m k x va' := hva
  have HM1 := Lib.hid M1
  have HMA := Lib.hid MA
  have HS1 := Lib.hid hS1
  have HSA := Lib.hid hSa
  have HW3 := Lib.hid hw3
  have HONE := Lib.hid hone
  clear M1 MA hS1 hSa hv1 hva hw3 ho3 hb3 hone hb2 k2 hof
  go_wp2_with fail
  have S0 : w3.drew.cell? ⟨w1.heap.size, 0, none⟩ = some (.slice N k cn) ∧ w3.drew.cell? ⟨w1.heap.size, 1, none⟩ = some (.int .u64 inv) := ⟨T0, T1⟩
  have B0 : Below w3.heap.size w3 w3.drew := (Below.refl _ _).drew
  go_region_held3 (fun w' => w'.cell? ⟨w1.heap.size, 0, none⟩ = some (.slice N k cn) ∧ w'.cell? ⟨w1.heap.size, 1, none⟩ = some (.int .u64 inv))
    (with_reducible assumption)
    ((first | (go_at_call 69; (with_reducible refine (HS1.out _ (by with_reducible assumption)).mono ?_); rintro e4 w4 ⟨g4, us4, rfl, ho4, bu4, hv4, hb4⟩; have hbn4 : Below w3.heap.size w3 w4 := chainB (by with_reducible assumption) hb4 (Nat.le_refl _); have S4 : w4.cell? ⟨w1.heap.size, 0, none⟩ = some (.slice N k cn) ∧ w4.cell? ⟨w1.heap.size, 1, none⟩ = some (.int .u64 inv) := ⟨(hbn4.cell (p := ⟨w1.heap.size, 0, none⟩) hlt3).trans T0, (hbn4.cell (p := ⟨w1.heap.size, 1, none⟩) hlt3).trans T1⟩) | (go_at_call 69; (with_reducible refine (HSA.out _ (by with_reducible assumption)).mono ?_); rintro e5 w5 ⟨g5, us5, rfl, ho5, bu5, hv5, hb5⟩; have hbn5 : Below w3.heap.size w3 w5 := chainB (by with_reducible assumption) hb5 (Nat.le_refl _); have S5 : w5.cell? ⟨w1.heap.size, 0, none⟩ = some (.slice N k cn) ∧ w5.cell? ⟨w1.heap.size, 1, none⟩ = some (.int .u64 inv) := ⟨(hbn5.cell (p := ⟨w1.heap.size, 0, none⟩) hlt3).trans T0, (hbn5.cell (p := ⟨w1.heap.size, 1, none⟩) hlt3).trans T1⟩)))
  have HW5 := Lib.hid (HW3.out.trans (hbn5.mono HW3.out.size))
  have hr4 := ho4.rd.below hb5
  have hr5 := ho5.rd
  have hone5 := HONE.out.below hbn5
  have hs5 := hbn5.size
  have hbits := bits_any w5 (HE.out.below HW5.out) (by omega) hce
  rw [hv4.symm] at HM1
  rw [hv5.symm] at HMA
  have HBITS := Lib.hid hbits
  have HR4 := Lib.hid hr4
  have HR5 := Lib.hid hr5
  have HONE5 := Lib.hid hone5
  clear ho4 ho5 hv4 hv5 hb4 hb5 hbn4 hbn5 S4 S0 T0 T1 hr4 hr5 hone5 hbits hs2 HONE HS1 HSA
  go_wp2_with fail
  refine HBITS.out.mono ?_
  rintro e6 w6 ⟨rfl, hb6⟩
  have T0 : w6.cell? ⟨w1.heap.size, 0, none⟩ = some (.slice N k cn) := (hb6.cell (p := ⟨w1.heap.size, 0, none⟩) (by simp; omega)).trans S5.1
  have T1 : w6.cell? ⟨w1.heap.size, 1, none⟩ = some (.int .u64 inv) := (hb6.cell (p := ⟨w1.heap.size, 1, none⟩) (by simp; omega)).trans S5.2
  have hlt6 : w1.heap.size < w6.heap.size := by have := hb6.size; omega
  have HR6 := Lib.hid (HR4.out.below hb6)
  have HB6 := Lib.hid (HR5.out.below hb6)
  have HONE6 := Lib.hid (HONE5.out.below hb6)
  have HW6 := Lib.hid (chainB HW5.out hb6 (Nat.le_refl _))
  have hbe : blen e ≤ 64 * ne := by
    rw [blen_le]
    obtain ⟨es, h1, h2, rfl⟩ := HE.out
    have h3 := nv_lt h2
    rw [h1.len, show (18446744073709551616 : Nat) = 2 ^ 64 by decide +kernel, ← Nat.pow_mul] at h3
    exact h3
  obtain ⟨L, hL⟩ : ∃ L, blen e = L := ⟨_, rfl⟩
  have HL := Lib.hid hL
  rw [hL] at hbe
  simp only [hL]
  have hmult := fun (W : World) (hW : Below w6.heap.size w6 W) (g h : Nat) (us vs : List Nat) (h1 : Rd .u64 W (some ⟨g, 0, none⟩) k k us) (b1 : B64 us) (h2 : Rd .u64 W (some ⟨h, 0, none⟩) k k vs) (b2 : B64 vs) (h3 : nv vs < m) =>
    mont_mul_any W (cn := cn) ((HN.out.below HW6.out).below hW) BN.out HM.out hk0 (by omega) hmp HI.out h1 b1 h2 b2 h3
  unfold mv at hmult
  have HMUL := Lib.hid hmult
  clear hmult
  clear hb6 hL HBITS HR4 HR5 HONE5 HW5 hs5 S5
  go_wp2_with fail
  go_loopw [9, 10, 23] (fun o b i wr => ∃ (j g h : Nat) (us vs : List Nat), j ≤ L ∧ i = .int .i64 (j : Int) ∧ o = .slice (some ⟨g, 0, none⟩) k k ∧ b = .slice (some ⟨h, 0, none⟩) k k ∧ Rd .u64 wr (some ⟨g, 0, none⟩) k k us ∧ B64 us ∧ MF m k (PB x e j) (nv us) ∧ Rd .u64 wr (some ⟨h, 0, none⟩) k k vs ∧ B64 vs ∧ MF m k (QB x j) (nv vs) ∧ Below w6.heap.size w6 wr) (fun _ _ i _ => L - (intOf i).toNat)
  case atStart =>
    exact ⟨0, g4, g5, us4, us5, by omega, rfl, rfl, rfl, HR6.out, bu4, by rw [PB.zero]; exact HM1.out, HB6.out, bu5, by rw [QB.zero]; exact HMA.out, Below.refl _ _⟩
  case round =>
    obtain ⟨j, g, h, us, vs', hj, rfl, rfl, rfl, hru, bu, hmu, hrv, bv, hmv, hbl⟩ := hrel
    have HRU := Lib.hid hru
    have BU := Lib.hid bu
    have HMU := Lib.hid hmu
    have HRV := Lib.hid hrv
    have BV := Lib.hid bv
    have HMV := Lib.hid hmv
    have HBL := Lib.hid hbl
    clear hru bu hmu hrv bv hmv hbl
    by_cases hlt : j < L
    · have q0 : wr.cell? ⟨w1.heap.size, 0, none⟩ = some (.slice N k cn) := (HBL.out.cell (p := ⟨w1.heap.size, 0, none⟩) hlt6).trans T0
      have q1 : wr.cell? ⟨w1.heap.size, 1, none⟩ = some (.int .u64 inv) := (HBL.out.cell (p := ⟨w1.heap.size, 1, none⟩) hlt6).trans T1
      have hbit := bit_any wr j ((HE.out.below HW6.out).below HBL.out) (by omega) (by omega) hce
      obtain ⟨bt, hbt⟩ : ∃ bt, e / 2 ^ j % 2 = bt := ⟨_, rfl⟩
      have hb2 : bt = 0 ∨ bt = 1 := by have := Nat.mod_lt (e / 2 ^ j) (show 0 < 2 by omega); omega
      rw [hbt] at hbit
      have HBT := Lib.hid hbt
      have HBIT := Lib.hid hbit
      clear hbt hbit
      rcases hb2 with rfl | rfl
      · go_wp2_with fail
        refine HBIT.out.mono ?_
        rintro e7 w7 ⟨rfl, nd, rfl⟩
        have hbl7 : Below w6.heap.size w6 (wr.drewN nd) := below_drewN HBL.out nd
        have hm2 := HMUL.out (wr.drewN nd) hbl7 h h vs' vs' (HRV.out.drewN nd) BV.out (HRV.out.drewN nd) BV.out (HMV.out.lt hmp)
        have HM2 := Lib.hid hm2
        have HBL7 := Lib.hid hbl7
        clear hm2 hbl7
        simp only [Int.natCast_zero]
        go_wp2_with fail
        refine HM2.out.mono ?_
        rintro e8 w8 ⟨v, hmr, g8, us8, rfl, ho8, b8, hv8, hb8⟩
        have HBL8 := Lib.hid (chainB HBL7.out hb8 (Nat.le_refl _))
        have HR8 := Lib.hid ho8.rd
        have HRU8 := Lib.hid ((HRU.out.drewN nd).below hb8)
        have HV8 := Lib.hid (show MF m k (QB x (j + 1)) (nv us8) by rw [← QB.next, hv8]; exact HMV.out.mul hmo HMV.out hmr)
        have HU8 := Lib.hid (show MF m k (PB x e (j + 1)) (nv us) by rw [← PB.none HBT.out]; exact HMU.out)
        clear ho8 hb8 hmr hv8
        go_wp2_with fail
        exact ⟨⟨j + 1, g, g8, us, us8, by omega, by go_num, rfl, rfl, HRU8.out, BU.out, HU8.out, HR8.out, b8, HV8.out, HBL8.out⟩, by simp [intOf]; omega⟩
      · go_wp2_with fail
        refine HBIT.out.mono ?_
        rintro e7 w7 ⟨rfl, nd, rfl⟩
        have hbl7 : Below w6.heap.size w6 (wr.drewN nd) := below_drewN HBL.out nd
        have hm2 := HMUL.out (wr.drewN nd) hbl7 g h us vs' (HRU.out.drewN nd) BU.out (HRV.out.drewN nd) BV.out (HMV.out.lt hmp)
        have HM2 := Lib.hid hm2
        have HBL7 := Lib.hid hbl7
        clear hm2 hbl7
        simp only [Int.natCast_one]
        go_wp2_with fail
        refine HM2.out.mono ?_
        rintro e8 w8 ⟨v, hmr, g8, us8, rfl, ho8, b8, hv8, hb8⟩
        have hbl8 := chainB HBL7.out hb8 (Nat.le_refl _)
        have r0 : w8.cell? ⟨w1.heap.size, 0, none⟩ = some (.slice N k cn) := (hbl8.cell (p := ⟨w1.heap.size, 0, none⟩) hlt6).trans T0
        have r1 : w8.cell? ⟨w1.heap.size, 1, none⟩ = some (.int .u64 inv) := (hbl8.cell (p := ⟨w1.heap.size, 1, none⟩) hlt6).trans T1
        have hrv8 := (HRV.out.drewN nd).below hb8
        have hm3 := HMUL.out w8 hbl8 h h vs' vs' hrv8 BV.out hrv8 BV.out (HMV.out.lt hmp)
        have HM3 := Lib.hid hm3
        have HBL8 := Lib.hid hbl8
        have HR8 := Lib.hid ho8.rd
        have HU8 := Lib.hid (show MF m k (PB x e (j + 1)) (nv us8) by rw [← PB.one HBT.out, hv8]; exact HMU.out.mul hmo HMV.out hmr)
        clear ho8 hb8 hmr hv8 hbl8 hrv8 hm3 HM2
        go_wp2_with fail
        refine HM3.out.mono ?_
        rintro e9 w9 ⟨v9, hmr, g9, us9, rfl, ho9, b9, hv9, hb9⟩
        have HBL9 := Lib.hid (chainB HBL8.out hb9 (Nat.le_refl _))
        have HR9 := Lib.hid ho9.rd
        have HRU9 := Lib.hid (HR8.out.below hb9)
        have HV9 := Lib.hid (show MF m k (QB x (j + 1)) (nv us9) by rw [← QB.next, hv9]; exact HMV.out.mul hmo HMV.out hmr)
        clear ho9 hb9 hmr hv9
        go_wp2_with fail
        exact ⟨⟨j + 1, g8, g9, us8, us9, by omega, by go_num, rfl, rfl, HRU9.out, b8, HU8.out, HR9.out, b9, HV9.out, HBL9.out⟩, by simp [intOf]; omega⟩
    · obtain rfl : L = j := by omega
      have B0 : Below w6.heap.size w6 wr.drew := HBL.out.drew
      have q0 : wr.drew.cell? ⟨w1.heap.size, 0, none⟩ = some (.slice N k cn) := (HBL.out.cell (p := ⟨w1.heap.size, 0, none⟩) hlt6).trans T0
      have q1 : wr.drew.cell? ⟨w1.heap.size, 1, none⟩ = some (.int .u64 inv) := (HBL.out.cell (p := ⟨w1.heap.size, 1, none⟩) hlt6).trans T1
      have S0 : wr.drew.cell? ⟨w1.heap.size, 0, none⟩ = some (.slice N k cn) ∧ wr.drew.cell? ⟨w1.heap.size, 1, none⟩ = some (.int .u64 inv) := ⟨q0, q1⟩
      have hfit1 : 1 < 18446744073709551616 ^ k := Nat.lt_of_lt_of_le (by omega) (Nat.pow_le_pow_right (n := 18446744073709551616) (by omega) hk0)
      have hl1 : ln 1 ≤ 1 := ln_le.2 (by omega)
      have hwide := wide_any (inv := inv) (cn := cn) (N := N) wr.drew (HONE6.out.below B0) (show k ≤ 4194304 by omega) hfit1
      unfold mv at hwide
      have hrud := HRU.out.drewN 1
      have HWI := Lib.hid hwide
      have HRD := Lib.hid (show Rd .u64 wr.drew (some ⟨g, 0, none⟩) k k us from hrud)
      clear hwide hrud hfit1
      go_wp2_with fail
      go_region_held3 (fun w' => w'.cell? ⟨w1.heap.size, 0, none⟩ = some (.slice N k cn) ∧ w'.cell? ⟨w1.heap.size, 1, none⟩ = some (.int .u64 inv))
        (with_reducible assumption)
        ((first | (go_at_call 71; (with_reducible refine HWI.out.mono ?_); rintro e8 w8 ⟨g8, us8, rfl, ho8, b8, hv8, hb8⟩; have hbl8 := chainB B0 hb8 (Nat.le_refl _); have S8 : w8.cell? ⟨w1.heap.size, 0, none⟩ = some (.slice N k cn) ∧ w8.cell? ⟨w1.heap.size, 1, none⟩ = some (.int .u64 inv) := ⟨(hbl8.cell (p := ⟨w1.heap.size, 0, none⟩) hlt6).trans T0, (hbl8.cell (p := ⟨w1.heap.size, 1, none⟩) hlt6).trans T1⟩; have hmm := HMUL.out w8 hbl8 g g8 us us8 (HRD.out.below hb8) BU.out ho8.rd b8 (by rw [hv8]; exact hm1)) | (go_at_call 70; (with_reducible refine hmm.mono ?_); rintro e9 w9 ⟨v9, hmr, g9, us9, rfl, ho9, b9, hv9, hb9⟩; have hbl9 := chainB hbl8 hb9 (Nat.le_refl _); have S9 : w9.cell? ⟨w1.heap.size, 0, none⟩ = some (.slice N k cn) ∧ w9.cell? ⟨w1.heap.size, 1, none⟩ = some (.int .u64 inv) := ⟨(hbl9.cell (p := ⟨w1.heap.size, 0, none⟩) hlt6).trans T0, (hbl9.cell (p := ⟨w1.heap.size, 1, none⟩) hlt6).trans T1⟩; have htr := trim_any w9 (x := v9) ⟨us9, ho9.rd, b9, hv9⟩ (by omega)) | (go_at_call 40; (with_reducible refine htr.mono ?_); rintro e10 w10 ⟨A10, c10, rfl, ho10, hb10⟩; have hbl10 := chainB hbl9 hb10 (Nat.le_refl _); have S10 : w10.cell? ⟨w1.heap.size, 0, none⟩ = some (.slice N k cn) ∧ w10.cell? ⟨w1.heap.size, 1, none⟩ = some (.int .u64 inv) := ⟨(hbl10.cell (p := ⟨w1.heap.size, 0, none⟩) hlt6).trans T0, (hbl10.cell (p := ⟨w1.heap.size, 1, none⟩) hlt6).trans T1⟩)))
      rw [hv8] at hmr
      have hfin : v9 = x ^ e % m := by
        have h1 := MF.out1 hmo HMU.out hmr
        rw [h1, ← HL.out, PB.done]
      have HF := Lib.hid hfin
      have HOF := Lib.hid ho10
      have HBF := Lib.hid (HW6.out.trans (hbl10.mono HW6.out.size))
      have hsz := (HW6.out.trans (hbl9.mono HW6.out.size)).size
      clear hfin ho10 hbl10 hmr hmm htr hv8 ho8 hv9 ho9
      go_wp2_with fail
      go_ret
      rw [← HF.out]
      exact ⟨A10, c10, rfl, HOF.out.lower hsz, HBF.out⟩
end Go.Proofs.Yteelppebdcgbpaa

/- Powers modulo an odd number, in the words of the printed texts. -/
namespace Go.Proofs.Yteelppebdcgbpaa
set_option linter.unusedSimpArgs false
set_option linter.unusedVariables false
open Go.RowKit Go.Proofs.YteelppebdcgbpaaW.PrintWords Go.Proofs.YteelppebdcgbpaaW.PrintLast

/-- a power modulo m -/
def powM (a e m : Nat) : Nat := a ^ e % m
theorem odd_giv {A0 A1 A2 : Option Addr} {c0 c1 c2 : Nat} {l0 l1 l2 : List Int} {w : World} {r : List Int} (hr0 : Kd.C (Kd.int .u64) w A0 l0.length l0) (hc0 : l0.length ≤ c0) (hr1 : Kd.C (Kd.int .u64) w A1 l1.length l1) (hc1 : l1.length ≤ c1) (hr2 : Kd.C (Kd.int .u64) w A2 l2.length l2) (hc2 : l2.length ≤ c2)
    (h : (if okN 4096 l0 ∧ okN 4096 l1 ∧ okN 1024 l2 ∧ nI l2 % 2 = 1 ∧ 1 < nI l2 then some (ofN (powM (nI l0) (nI l1) (nI l2))) else none) = some r) :
    Calls Try.prog 41 #[.slice A0 l0.length c0, .slice A1 l1.length c1, .slice A2 l2.length c2] w fun e w' => ∃ v0_ : Value, e = .returned (v0_) ∧ Kd.R (Kd.int .u64) 35 w' w.heap.size (fun _ => True) v0_ r ∧ Below w.heap.size w w' := by
  obtain ⟨⟨h0, h1, h2, h3, h4⟩, rfl⟩ := of_ite h
  exact (odd_any w (na_of_C hr0 hc0 h0) (na_of_C hr1 hc1 h1) (rd_of_C hr2 hc2 h2) h2.b64 rfl h3 h4 h0.1 h1.1 hc1 h2.1).mono fun _ _ h => retN_R h
end Go.Proofs.Yteelppebdcgbpaa
