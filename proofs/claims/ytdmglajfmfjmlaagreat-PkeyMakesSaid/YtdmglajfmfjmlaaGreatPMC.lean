/- Texts of this claim, joined: what its laws use. -/
import Derived.Test.YtdmglajfmfjmlaaGreatPMB
import Derived.ArgAppend
import Derived.StillTailTactics
import Derived.Test.YtdmglajfmfjmlaaGreatProg
import Derived.Below
import Derived.Deep.Draws
import Derived.Deep.AppendLies
import Derived.Maps.AppendAt
import Derived.OwnWalk
import Derived.Laws.BytesArg
import Derived.Laws.MakeOwn
import Derived.Laws.OwnMore
import Derived.Deep.OwnRows
import Derived.Tactics
import Derived.Lib.ConvBytes
import Derived.Laws.Slices
import Derived.WalkKit
import Derived.KernelRfl
import Derived.RowKit3
import Derived.Deep.LoopGhost
import Derived.Deep.QuietTactic
import Derived.BigQuiet
import Derived.WideLaws
import Derived.Deep.DeepCutAuto
import Derived.Deep.CutBlock
import Derived.Deep.RegionHeld3
import Derived.Laws.Rows
import Derived.Lib.AppendStr
import Derived.Laws.IdiomCopy
import Derived.OrdersHeld
import Derived.Laws.BitsLemmas
import Derived.RowKit
import Derived.Laws.BitsAllLaws
import Derived.Deep.WholeRow
import Derived.RangeFuncNested
import Derived.RangeFuncBound
import Derived.RangeFuncCalls
import Derived.RangeFuncLeaves
import Derived.OrdersIn
import Derived.StillTail
import Derived.OwnWalkIn
import Derived.TacticsInMore
import Derived.Still
import Derived.LoopNIn
import Derived.LoopIn
import Derived.Shelf.RegionOpen
import Derived.Laws.CopyOwn
import Derived.Lib.Bytes
namespace Go.Proofs.YtdmglajfmfjmlaaGreat
set_option linter.unusedSimpArgs false
set_option linter.unusedVariables false
set_option maxRecDepth 100000
open Go.RowKit
theorem below_row {B g : Nat} {w0 w w' : World} (hb : Below B w0 w) (hg : w.grownBy w' (some g)) (hBg : B ≤ g) (hs : B ≤ w.heap.size) : Below B w0 w' :=
  hb.trans ⟨hg.os, hg.tape, hg.output, hg.size, fun k hk => hg.block k (by omega) (by simp; omega)⟩
theorem fit2 {X P m : Nat} (h : X < 2 * 18446744073709551616 * m) (hm : m < P) : X < P * 18446744073709551616 * 18446744073709551616 := by
  have h1 : m * 18446744073709551616 ≤ P * 18446744073709551616 := Nat.mul_le_mul_right _ (Nat.le_of_lt hm)
  have e : 2 * 18446744073709551616 * m = 2 * (m * 18446744073709551616) := by rw [Nat.mul_assoc, Nat.mul_comm 18446744073709551616 m]
  rw [e] at h
  obtain ⟨R, hR⟩ : ∃ R, m * 18446744073709551616 = R := ⟨_, rfl⟩
  obtain ⟨Q, hQ⟩ : ∃ Q, P * 18446744073709551616 = Q := ⟨_, rfl⟩
  rw [hR] at h h1
  rw [hQ] at h1 ⊢
  clear hR hQ e hm
  omega
theorem grown_own {w' : World} {v' : Value} {base n : Nat} {xs : List Nat} (h : w'.ownsRow base 23 1 v' (n + 1) (vs .u64 xs ++ vs .u64 [0])) : ∃ g c, v' = .slice (some ⟨g, 0, none⟩) (n + 1) c ∧ base ≤ g ∧ g < w'.heap.size ∧ Own .u64 23 w' base (some ⟨g, 0, none⟩) (n + 1) c (xs ++ [0]) := by
  rw [← vs_append] at h
  rcases h.2 with ⟨h1, h2⟩ | ⟨g, cap, cur, h1, h2, h3, _⟩
  · simp at h2
  · subst h1
    exact ⟨g, cap, rfl, h2, (Array.getElem?_eq_some_iff.1 h3).1, h⟩
set_option maxHeartbeats 2000000 in
theorem mont_mul_any (w : World) {N A B : Option Addr} {k cn ca cb inv m : Nat} {xs zs ys : List Nat} (hN : Rd .u64 w N k cn xs) (bN : B64 xs) (hm : nv xs = m) (hk : 0 < k) (hk2 : k ≤ 4096) (hmp : 0 < m) (hi : MInv (m % 18446744073709551616) inv)
    (hA : Rd .u64 w A k ca zs) (bA : B64 zs) (hB : Rd .u64 w B k cb ys) (bB : B64 ys) (hb : nv ys < m) :
    Calls Tryz.prog 193 #[mv N k cn inv, .slice A k ca, .slice B k cb] w fun e w' => ∃ v, MontR m k (nv zs * nv ys) v ∧ RetW k v w e w' := by
  have hmW : m < 18446744073709551616 ^ k := by rw [← hm, ← hN.len]; exact nv_lt bN
  have HN := Lib.hid hN
  have BN := Lib.hid bN
  have HM := Lib.hid hm
  have HI := Lib.hid hi
  have HA := Lib.hid hA
  have BA := Lib.hid bA
  have HB := Lib.hid hB
  have BB := Lib.hid bB
  have HMW := Lib.hid hmW
  have hmk := fun w => run_mk (k + 2) (by omega) w
  rw [show ((k + 2 : Nat) : Int) = (k : Int) + 2 from rfl] at hmk
  clear hN bN hm hi hA bA hB bB hmW
  unfold mv
  go_enter Tryz.func193, Tryz.ntmps193
  go_wp2_with fail
  obtain ⟨w1, hw1⟩ : ∃ w1, w1 = (w.alloc (.cells #[.slice N k cn, .int .u64 inv] 162)) := ⟨_, rfl⟩
  have hs1 : w1.heap.size = w.heap.size + 1 := by rw [hw1]; simp
  have k1 : Bk w1 w.heap.size 162 #[.slice N k cn, .int .u64 inv] := by rw [hw1]; exact Bk.new _ _ _
  have hb1 : Below w.heap.size w w1 := by rw [hw1]; (repeat (first | (with_reducible exact Below.refl _ _) | (with_reducible assumption) | (with_reducible refine Below.drew ?_) | (with_reducible refine below_drewN ?_ _) | ((with_reducible refine Below.setCell ?_ (p := ⟨_, _, _⟩) ?_ _); rotate_left; (simp <;> omega)) | ((with_reducible refine Below.alloc ?_ ?_ _); rotate_left; (simp <;> omega)) | ((with_reducible refine Below.trans ?_ (Below.mono (by with_reducible assumption) ?_)); rotate_left; (simp <;> omega))))
  rw [← hw1]
  have HB1 := Lib.hid hb1
  have K1 := Lib.hid k1
  clear hw1 k1 hb1
  go_loopw [8, 19] (fun tv i wr => ∃ (j g ct : Nat) (ts : List Nat), j ≤ k ∧ i = .int .i64 (j : Int) ∧ tv = .slice (some ⟨g, 0, none⟩) (k + 2) ct ∧ w.heap.size + 1 ≤ g ∧ g < wr.heap.size ∧ Own .u64 23 wr (w.heap.size + 1) (some ⟨g, 0, none⟩) (k + 2) ct ts ∧ B64 ts ∧ Below (w.heap.size + 1) w1 wr ∧ MP m (nv ys) (nv (zs.take j)) (18446744073709551616 ^ j) (nv ts)) (fun _ i _ => k - (intOf i).toNat)
  case atStart =>
    refine ⟨0, w.heap.size + 1, k + 2, List.replicate (k + 2) 0, by omega, rfl, rfl, by omega, by simp; omega, Own.of_bk (by rw [← hs1]; exact Bk.new _ _ _) (by omega) (by simp) (by omega), B64.replicate _, (Below.refl _ _).alloc (by omega) _, ?_⟩
    rw [nv_replicate, Nat.pow_zero, List.take_zero]
    exact MP.zero hmp
  case round =>
    obtain ⟨j, g, ct, ts, hj, rfl, rfl, hg1, hg2, ho, bt, hbl, hmp⟩ := hrel
    have HO := Lib.hid ho
    have BT := Lib.hid bt
    have HBL := Lib.hid hbl
    have HMP := Lib.hid hmp
    clear ho bt hbl hmp
    by_cases hlt : j < k
    · have hbw : Below w.heap.size w wr := HB1.out.trans (HBL.out.mono (by omega))
      have q0 : wr.cell? ⟨w.heap.size, 0, none⟩ = some (.slice N k cn) := (HBL.out.cell (p := ⟨w.heap.size, 0, none⟩) (by simp)).trans ((K1.out.cell 0).trans rfl)
      have q1 : wr.cell? ⟨w.heap.size, 1, none⟩ = some (.int .u64 inv) := (HBL.out.cell (p := ⟨w.heap.size, 1, none⟩) (by simp)).trans ((K1.out.cell 1).trans rfl)
      obtain ⟨ad, rfl, hab, hac⟩ := HA.out.form (by omega)
      have hxc := (hbw.cell (p := ad.add j) (adlt hab j)).trans (hac j hlt)
      have hga := BA.out.gd j
      have hcA := HA.out.cap
      have hmA := HA.out.max
      obtain ⟨aj, haj⟩ : ∃ aj, gd zs j = aj := ⟨_, rfl⟩
      rw [haj] at hxc hga
      obtain ⟨hstep, hS2, hS1⟩ := HMP.out.next hb hga HI.out
      clear hac
      go_wp2_with fail
      go_still_tail 7, (by kernel_rfl)
      change wpList _ _ _ _ _ wr.drew
      have hneA : ∀ {Z : Option Addr} {n c : Nat} {vs : List Nat}, Rd .u64 w Z n c vs → 0 < n → ∀ ad, Z = some ad → ad.block ≠ g := fun h h0 ad e => by
        obtain ⟨ad', e', hlt', _⟩ := h.form h0
        rw [e] at e'; obtain rfl := Option.some.inj e'; omega
      have hbw2 : Below w.heap.size w wr.drew := hbw.drew
      have hW2 : 18446744073709551616 ^ (k + 2) = 18446744073709551616 ^ k * 18446744073709551616 * 18446744073709551616 := by rw [Nat.pow_succ, Nat.pow_succ]
      have hmW := HMW.out
      have hrow := row_any wr.drew (N := N) (cn := cn) (inv := inv) (HO.out.drewN 1) BT.out (HB.out.below hbw2) BB.out (hneA HB.out hk) hga (by omega) (by rw [hW2]; omega) hg2
      have HROW := Lib.hid hrow
      have HSTEP := Lib.hid hstep
      have HS2 := Lib.hid hS2
      have HW2 := Lib.hid hW2
      clear hrow hstep hS1 hS2 hW2 hmW hbw
      unfold mv at HROW
      go_wp2_with fail
      refine HROW.out.mono ?_
      rintro e w2 ⟨us, rfl, ho2, bu, hgr, hnu⟩
      have hs2 : wr.heap.size ≤ w2.heap.size := hgr.size
      have hbl2 : Below (w.heap.size + 1) w1 w2 := below_row (HBL.out.drew) hgr hg1 (by simp; omega)
      have p0 : w2.cell? ⟨w.heap.size, 0, none⟩ = some (.slice N k cn) := (hbl2.cell (p := ⟨w.heap.size, 0, none⟩) (by simp)).trans ((K1.out.cell 0).trans rfl)
      have p1 : w2.cell? ⟨w.heap.size, 1, none⟩ = some (.int .u64 inv) := (hbl2.cell (p := ⟨w.heap.size, 1, none⟩) (by simp)).trans ((K1.out.cell 1).trans rfl)
      have hc0 := ho2.cellAt (show 0 < k + 2 by omega)
      have hu0 := gd0_mod bu
      rw [hnu] at hu0
      obtain ⟨t0, ht0⟩ : ∃ t0, gd us 0 = t0 := ⟨_, rfl⟩
      rw [ht0] at hc0 hu0
      obtain ⟨u, hu⟩ : ∃ u, t0 * inv % 18446744073709551616 = u := ⟨_, rfl⟩
      have huw : IntKind.u64.wrap ((t0 : Int) * (inv : Int)) = (u : Int) := by
        rw [show (t0 : Int) * (inv : Int) = ((t0 * inv : Nat) : Int) by push_cast; rfl, wrap_u64_nat, hu]
      have hu64 : u < 18446744073709551616 := by rw [← hu]; exact Nat.mod_lt _ (by omega)
      have hmx := ho2.rd.max
      have hcx := ho2.rd.cap
      have HU := Lib.hid hu
      have HT0 := Lib.hid hu0
      have HNU := Lib.hid hnu
      have HO2 := Lib.hid ho2
      have HGR := Lib.hid hgr
      have HBL2 := Lib.hid hbl2
      clear hu hu0 hnu ho2 hgr hbl2 q0 q1 ht0
      have h02 : (0 : Int) < (k : Int) + 2 := by omega
      have h02' : (0 : Int) < ((k + 2 : Nat) : Int) := by omega
      go_wp2_with fail
      go_still_tail 10, (by kernel_rfl)
      change wpList _ _ _ _ _ w2.drew
      have hbw3 : Below w.heap.size w w2.drew := HB1.out.trans ((HBL2.out.drew).mono (by omega))
      have hst := HSTEP.out
      have hs2' := HS2.out
      rw [← HT0.out, HU.out] at hst hs2'
      have hmW := HMW.out
      have hfit2 : nv us + u * nv xs < 18446744073709551616 ^ (k + 2) := by
        have e1 := HM.out
        have e2 := HNU.out
        have e3 := HW2.out
        rw [e1, e2, e3]
        exact fit2 hs2' HMW.out
      have hrow2 := row_any w2.drew (N := N) (cn := cn) (inv := inv) (HO2.out.drewN 1) bu (HN.out.below hbw3) BN.out (hneA HN.out hk) hu64 (by omega) hfit2 (by simp; omega)
      rw [HM.out, HNU.out] at hrow2
      obtain ⟨S, hS⟩ : ∃ S, nv ts + aj * nv ys + u * m = S := ⟨_, rfl⟩
      rw [hS] at hrow2 hst
      have HROW2 := Lib.hid hrow2
      have HST := Lib.hid hst
      clear hrow2 hst hs2' hS hmW hbw3 p0 p1 hc0 huw
      unfold mv at HROW2
      go_wp2_with fail
      refine HROW2.out.mono ?_
      rintro e w3 ⟨us3, rfl, ho3, bu3, hgr3, hnu3⟩
      have hs3 : w2.heap.size ≤ w3.heap.size := hgr3.size
      have hbl3 : Below (w.heap.size + 1) w1 w3 := below_row (HBL2.out.drew) hgr3 hg1 (by simp; omega)
      have HO3 := Lib.hid ho3
      have HBL3 := Lib.hid hbl3
      have HNU3 := Lib.hid hnu3
      clear ho3 hgr3 hbl3 hnu3
      have h1 : (1 : Int) ≤ (k : Int) + 2 := by omega
      have h2 : (k : Int) + 2 ≤ (ct : Int) := by omega
      obtain ⟨w4, hw4⟩ : ∃ w4, w4 = w3.alloc (.cells #[.int .u64 0] 23) := ⟨_, rfl⟩
      have hb4 : Below (w.heap.size + 1) w1 w4 := by rw [hw4]; exact HBL3.out.alloc (by omega) _
      have hs4 : w.heap.size + 1 ≤ w4.heap.size := by rw [hw4]; simp; omega
      have hn4 : ∀ j u, (vs .u64 [0])[j]? = some u → w4.cell? ((⟨w3.heap.size, 0, none⟩ : Addr).add j) = some u := by
        intro j u hu
        rw [hw4, ad_plain]
        exact ((Bk.new w3 23 #[.int .u64 0]).cell j).trans (by simpa [vs] using hu)
      have ho4 : ∀ b, some (⟨g, 1, none⟩ : Addr) = some b → ∀ j u, (vs .u64 (us3.drop 1))[j]? = some u → w4.cell? (b.add j) = some u := by
        intro b e j u hu
        obtain rfl := Option.some.inj e
        have hr := (HO3.out.rd.drop (m := 1) (by omega)).alloc (.cells #[.int .u64 0] 23)
        rw [if_neg (by omega), ← hw4] at hr
        simp only [Option.map_some, ad_plain] at hr
        exact hr.cells rfl j u hu
      have hl4 : (vs .u64 (us3.drop 1)).length = (k + 1) * 1 := by rw [vs_length, List.length_drop, HO3.out.len]; omega
      obtain ⟨i0, hi0, hz0, hz1, hz2⟩ := info_parts u64_info
      have HB4 := Lib.hid hb4
      clear hb4
      go_wp2_with (at_builtin; rw [← hw4]; refine wpList_append_grows w4 rfl (.tmp 46) (.tmp 47) _ rfl 23 i0 (.int .u64 0) 1 8 Tryz.underlying22 hi0 hz0 hz1 hz2 rfl (by omega) (some ⟨g, 1, none⟩) (k + 1) (k + 1) (vs .u64 (us3.drop 1)) rfl (fun e => by cases e) hl4 ho4 ⟨w3.heap.size, 0, none⟩ 1 1 (vs .u64 [0]) rfl rfl hn4 (vs_one _ _) (by omega) (by simp only [maxLen]; omega) (by omega) ?_)
      intro v' w5 how hgr5
      obtain ⟨g5, c5, rfl, hg5, hl5, ho5⟩ := grown_own how
      have hb5 : Below (w.heap.size + 1) w1 w5 := by
        have := hgr5.size
        refine HB4.out.trans ?_
        rw [hw4]
        exact ⟨hgr5.os, hgr5.tape, hgr5.output, hgr5.size, fun q hq => hgr5.block q (by simp; omega) (by simp)⟩
      have HO5 := Lib.hid ho5
      have HB5 := Lib.hid hb5
      clear how hgr5 hb5 ho5 hn4 ho4 hl4
      go_wp2_with fail
      refine ⟨⟨j + 1, g5, c5, us3.tail ++ [0], by omega, by go_num, rfl, by omega, hl5, HO5.out.lower (by omega), ?_, HB5.out, ?_⟩, by simp [intOf]; omega⟩
      · exact B64.append (fun x hx => bu3 x (List.mem_of_mem_tail hx)) (B64.cons (by omega) B64.nil)
      · rw [nv_take, Nat.pow_succ, haj]
        have e : nv (us3.tail ++ [0]) = S / 18446744073709551616 := by
          rw [nv_app, ← List.drop_one, nv_drop1 bu3, HNU3.out]; simp [nv]
        rw [e]
        exact HST.out
    · obtain rfl : k = j := by omega
      have hdone := HMP.out.done
      rw [List.take_of_length_le (by rw [HA.out.len]; omega)] at hdone
      have hbw : Below w.heap.size w wr := HB1.out.trans (HBL.out.mono (by omega))
      have q0 : wr.cell? ⟨w.heap.size, 0, none⟩ = some (.slice N k cn) := (HBL.out.cell (p := ⟨w.heap.size, 0, none⟩) (by simp)).trans ((K1.out.cell 0).trans rfl)
      have hsz := HBL.out.size
      have hsub := sub_any wr (x := nv ts) (y := m) ⟨ts, HO.out.rd, BT.out, rfl⟩ ⟨xs, HN.out.below hbw, BN.out, HM.out⟩ (by omega) (by omega)
      have hnt : NA wr (some ⟨g, 0, none⟩) (k + 2) ct (nv ts) := ⟨ts, HO.out.rd, BT.out, rfl⟩
      have HNT := Lib.hid hnt
      have hT2 := HMP.out.1
      have HBW := Lib.hid hbw
      clear hnt hbw
      by_cases ht : nv ts < m
      · rw [if_pos ht] at hsub hdone
        have hfit : nv ts < 18446744073709551616 ^ k := Nat.lt_trans ht HMW.out
        generalize nv ts = T at *
        have HSUB := Lib.hid hsub
        have HD := Lib.hid hdone
        have HF := Lib.hid hfit
        clear hsub hdone hfit hT2
        go_wp2_with fail
        refine HSUB.out.mono ?_
        rintro e w2 ⟨A2, c2, rfl, -, hb2⟩
        have p0 : w2.cell? ⟨w.heap.size, 0, none⟩ = some (.slice N k cn) := (hb2.cell (p := ⟨w.heap.size, 0, none⟩) (by simp; omega)).trans q0
        have p1 : w2.cell? ⟨w.heap.size, 1, none⟩ = some (.int .u64 inv) := (hb2.cell (p := ⟨w.heap.size, 1, none⟩) (by simp; omega)).trans ((HBL.out.cell (p := ⟨w.heap.size, 1, none⟩) (by simp)).trans ((K1.out.cell 1).trans rfl))
        have hwide := wide_any (inv := inv) (cn := cn) (N := N) w2 (HNT.out.below hb2) (show k ≤ 4194304 by omega) HF.out
        unfold mv at hwide
        have HW := Lib.hid hwide
        have HB2 := Lib.hid (HBW.out.trans (hb2.mono HBW.out.size))
        clear hwide hb2
        go_wp2_with fail
        refine HW.out.mono ?_
        rintro e w3 h
        have h := h.lift HB2.out
        obtain ⟨g3, us3, rfl, h1, h2, h3, h4⟩ := h
        go_wp2_with fail
        go_ret
        exact ⟨T, HD.out, g3, us3, rfl, h1, h2, h3, h4⟩
      · rw [if_neg ht] at hsub hdone
        have hfit : nv ts - m < 18446744073709551616 ^ k := by have := HMW.out; omega
        generalize nv ts - m = T at *
        have HSUB := Lib.hid hsub
        have HD := Lib.hid hdone
        have HF := Lib.hid hfit
        clear hsub hdone hfit hT2
        go_wp2_with fail
        refine HSUB.out.mono ?_
        rintro e w2 ⟨A2, c2, rfl, ho2, hb2⟩
        have p0 : w2.cell? ⟨w.heap.size, 0, none⟩ = some (.slice N k cn) := (hb2.cell (p := ⟨w.heap.size, 0, none⟩) (by simp; omega)).trans q0
        have p1 : w2.cell? ⟨w.heap.size, 1, none⟩ = some (.int .u64 inv) := (hb2.cell (p := ⟨w.heap.size, 1, none⟩) (by simp; omega)).trans ((HBL.out.cell (p := ⟨w.heap.size, 1, none⟩) (by simp)).trans ((K1.out.cell 1).trans rfl))
        have hwide := wide_any (inv := inv) (cn := cn) (N := N) w2 ho2.na (show k ≤ 4194304 by omega) HF.out
        unfold mv at hwide
        have HW := Lib.hid hwide
        have HB2 := Lib.hid (HBW.out.trans (hb2.mono HBW.out.size))
        clear hwide hb2
        go_wp2_with fail
        refine HW.out.mono ?_
        rintro e w3 h
        have h := h.lift HB2.out
        obtain ⟨g3, us3, rfl, h1, h2, h3, h4⟩ := h
        go_wp2_with fail
        go_ret
        exact ⟨T, HD.out, g3, us3, rfl, h1, h2, h3, h4⟩
end Go.Proofs.YtdmglajfmfjmlaaGreat
namespace Go.Proofs.YtdmglajfmfjmlaaGreat
set_option linter.unusedSimpArgs false
set_option linter.unusedVariables false
set_option maxRecDepth 100000
open Go.RowKit
theorem halve_mod {a b m : Nat} (hm : m % 2 = 1) (h : a * 2 % m = b * 2 % m) : a % m = b % m := by
  have e := congrArg (fun t => t * ((m + 1) / 2) % m) h
  simp only [Nat.mod_mul_mod] at e
  have e2 : ∀ c, c * 2 * ((m + 1) / 2) = c + c * m := fun c => by
    rw [Nat.mul_assoc, show 2 * ((m + 1) / 2) = m + 1 by omega, Nat.mul_add, Nat.mul_one, Nat.add_comm]
  rw [e2, e2, Nat.add_mul_mod_self_right, Nat.add_mul_mod_self_right] at e
  exact e
theorem halve_pow {m : Nat} (hm : m % 2 = 1) : ∀ (n : Nat) {a b : Nat}, a * 2 ^ n % m = b * 2 ^ n % m → a % m = b % m := by
  intro n
  induction n with
  | zero => intro a b h; simpa using h
  | succ n ih =>
    intro a b h
    rw [Nat.pow_succ, ← Nat.mul_assoc, ← Nat.mul_assoc] at h
    exact ih (halve_mod hm h)
theorem cancelW {m : Nat} (hm : m % 2 = 1) (k : Nat) {a b : Nat} (h : a * 18446744073709551616 ^ k % m = b * 18446744073709551616 ^ k % m) : a % m = b % m := by
  rw [show (18446744073709551616 : Nat) = 2 ^ 64 by decide +kernel, ← Nat.pow_mul] at h
  exact halve_pow hm _ h
def MF (m k p v : Nat) : Prop := v = p * 18446744073709551616 ^ k % m
theorem MF.mul {m k p q u v r : Nat} (hm : m % 2 = 1) (hu : MF m k p u) (hv : MF m k q v) (h : MontR m k (u * v) r) : MF m k (p * q) r := by
  obtain ⟨h1, h2⟩ := h
  unfold MF at *
  rw [hu, hv, ← Nat.mul_mod] at h2
  have : p * 18446744073709551616 ^ k * (q * 18446744073709551616 ^ k) = p * q * 18446744073709551616 ^ k * 18446744073709551616 ^ k := by
    rw [Nat.mul_assoc, Nat.mul_left_comm (18446744073709551616 ^ k), ← Nat.mul_assoc, ← Nat.mul_assoc]
  rw [this] at h2
  have := cancelW hm k h2
  rw [Nat.mod_eq_of_lt h1] at this
  exact this
theorem MF.out1 {m k p u r : Nat} (hm : m % 2 = 1) (hu : MF m k p u) (h : MontR m k (u * 1) r) : r = p % m := by
  obtain ⟨h1, h2⟩ := h
  unfold MF at *
  rw [hu, Nat.mul_one, Nat.mod_mod] at h2
  have := cancelW hm k h2
  rw [Nat.mod_eq_of_lt h1] at this
  exact this
theorem MF.lt {m k p u : Nat} (hm : 0 < m) (hu : MF m k p u) : u < m := by rw [hu]; exact Nat.mod_lt _ hm
def PB (x e j : Nat) : Nat := x ^ (e % 2 ^ j)
def QB (x j : Nat) : Nat := x ^ (2 ^ j)
theorem PB.zero (x e : Nat) : PB x e 0 = 1 := by unfold PB; rw [Nat.pow_zero, Nat.mod_one, Nat.pow_zero]
theorem QB.zero (x : Nat) : QB x 0 = x := by unfold QB; rw [Nat.pow_zero, Nat.pow_one]
theorem QB.next (x j : Nat) : QB x j * QB x j = QB x (j + 1) := by unfold QB; rw [← Nat.pow_add, Nat.pow_succ]; congr 1; omega
theorem mod_pow_next (e j : Nat) : e % 2 ^ (j + 1) = e % 2 ^ j + e / 2 ^ j % 2 * 2 ^ j := by
  rw [Nat.pow_succ, Nat.mod_mul, Nat.mul_comm (2 ^ j)]
theorem PB.one {x e j : Nat} (h : e / 2 ^ j % 2 = 1) : PB x e j * QB x j = PB x e (j + 1) := by
  unfold PB QB; rw [← Nat.pow_add, mod_pow_next, h, Nat.one_mul]
theorem PB.none {x e j : Nat} (h : e / 2 ^ j % 2 = 0) : PB x e j = PB x e (j + 1) := by
  unfold PB; rw [mod_pow_next, h, Nat.zero_mul, Nat.add_zero]
theorem PB.done (x e : Nat) : PB x e (blen e) = x ^ e := by
  unfold PB; rw [Nat.mod_eq_of_lt (blen_le.1 (Nat.le_refl _))]
end Go.Proofs.YtdmglajfmfjmlaaGreat
namespace Go.Proofs.YtdmglajfmfjmlaaGreat
set_option linter.unusedSimpArgs false
set_option linter.unusedVariables false
set_option maxRecDepth 100000
open Go.RowKit
theorem chainB {B : Nat} {w0 w w' : World} (h : Below B w0 w) (hb : Below w.heap.size w w') (hs : B ≤ w0.heap.size) : Below B w0 w' := h.trans (hb.mono (Nat.le_trans hs h.size))
set_option maxHeartbeats 2000000 in
theorem odd_any (w : World) {A E N : Option Addr} {n c ne ce k cn x e m : Nat} {xs : List Nat} (hA : NA w A n c x) (hE : NA w E ne ce e) (hN : Rd .u64 w N k cn xs) (bN : B64 xs) (hm : nv xs = m) (hmo : m % 2 = 1) (hm1 : 1 < m)
    (hn : n ≤ 4096) (hne : ne ≤ 4096) (hce : ne ≤ ce) (hk : k ≤ 1024) :
    Calls Tryz.prog 160 #[.slice A n c, .slice E ne ce, .slice N k cn] w (RetN (x ^ e % m) w) := by
  have hmp : 0 < m := by omega
  have hk0 : 0 < k := by
    rcases Nat.eq_zero_or_pos k with h | h
    · subst h
      have := hN.len
      obtain rfl : xs = [] := List.eq_nil_of_length_eq_zero this
      simp [nv] at hm; omega
    · exact h
  have hg0 := gd0_mod bN
  rw [hm] at hg0
  have hopen := open_any w hN bN hk0 (by omega)
  rw [hg0] at hopen
  have HA := Lib.hid hA
  have HE := Lib.hid hE
  have HN := Lib.hid hN
  have BN := Lib.hid bN
  have HM := Lib.hid hm
  have HO := Lib.hid hopen
  clear hopen hA hE hN bN hm hg0
  go_enter Tryz.func160, Tryz.ntmps160
  go_wp2_with fail
  refine HO.out.mono ?_
  rintro e1 w1 ⟨inv, rfl, hinv, hb1⟩
  have HI := Lib.hid hinv
  have HB1 := Lib.hid hb1
  clear hinv hb1
  unfold mv
  go_wp2_with fail
  obtain ⟨w2, hw2⟩ : ∃ w2, w2 = (w1.alloc (.cells #[.slice N k cn, .int .u64 inv] 162)) := ⟨_, rfl⟩
  have hs2 : w2.heap.size = w1.heap.size + 1 := by rw [hw2]; simp
  have k2 : Bk w2 w1.heap.size 162 #[.slice N k cn, .int .u64 inv] := by rw [hw2]; exact Bk.new _ _ _
  have hb2 : Below w.heap.size w w2 := by rw [hw2]; exact HB1.out.alloc HB1.out.size _
  rw [← hw2]
  clear hw2
  have hof := of_any w2 1 (by omega)
  simp only [Int.natCast_one] at hof
  refine hof.mono ?_
  rintro e3 w3 ⟨A1, c1, rfl, ho3, hb3⟩
  have hw3 : Below w.heap.size w w3 := chainB hb2 hb3 (Nat.le_refl _)
  have hlt3 : w1.heap.size < w3.heap.size := by have := hb3.size; omega
  have T0 : w3.cell? ⟨w1.heap.size, 0, none⟩ = some (.slice N k cn) := (hb3.cell (p := ⟨w1.heap.size, 0, none⟩) (by simp; omega)).trans ((k2.cell 0).trans rfl)
  have T1 : w3.cell? ⟨w1.heap.size, 1, none⟩ = some (.int .u64 inv) := (hb3.cell (p := ⟨w1.heap.size, 1, none⟩) (by simp; omega)).trans ((k2.cell 1).trans rfl)
  have hone : NA w3 A1 (ln 1) c1 1 := ho3.na
  have hl1 : ln 1 ≤ 1 := ln_le.2 (by omega)
  have hS1 : ∀ W, Below w3.heap.size w3 W → Calls Tryz.prog 192 #[.agg #[.slice N k cn, .int .u64 inv], .slice A1 (ln 1) c1] W (RetW k (1 * 18446744073709551616 ^ k % m) W) := fun W hW =>
    shifted_any W (hone.below hW) ⟨xs, (HN.out.below hw3).below hW, BN.out, HM.out⟩ hmp (by omega) hk
  have hSa : ∀ W, Below w3.heap.size w3 W → Calls Tryz.prog 192 #[.agg #[.slice N k cn, .int .u64 inv], .slice A n c] W (RetW k (x * 18446744073709551616 ^ k % m) W) := fun W hW =>
    shifted_any W ((HA.out.below hw3).below hW) ⟨xs, (HN.out.below hw3).below hW, BN.out, HM.out⟩ hmp (by omega) hk
  obtain ⟨v1, hv1⟩ : ∃ v1, v1 = 1 * 18446744073709551616 ^ k % m := ⟨_, rfl⟩
  obtain ⟨va', hva⟩ : ∃ va', va' = x * 18446744073709551616 ^ k % m := ⟨_, rfl⟩
  rw [← hv1] at hS1
  rw [← hva] at hSa
  have M1 : MF m k 1 v1 := hv1
  have MA : MF m k x va' := hva
  have HM1 := Lib.hid M1
  have HMA := Lib.hid MA
  have HS1 := Lib.hid hS1
  have HSA := Lib.hid hSa
  have HW3 := Lib.hid hw3
  have HONE := Lib.hid hone
  clear M1 MA hS1 hSa hv1 hva hw3 ho3 hb3 hone hb2 k2 hof
  go_wp2_with fail
  have S0 : w3.drew.cell? ⟨w1.heap.size, 0, none⟩ = some (.slice N k cn) ∧ w3.drew.cell? ⟨w1.heap.size, 1, none⟩ = some (.int .u64 inv) := ⟨T0, T1⟩
  have B0 : Below w3.heap.size w3 w3.drew := (Below.refl _ _).drew
  go_region_held3 (fun w' => w'.cell? ⟨w1.heap.size, 0, none⟩ = some (.slice N k cn) ∧ w'.cell? ⟨w1.heap.size, 1, none⟩ = some (.int .u64 inv))
    (with_reducible assumption)
    ((first | (go_at_call 192; (with_reducible refine (HS1.out _ (by with_reducible assumption)).mono ?_); rintro e4 w4 ⟨g4, us4, rfl, ho4, bu4, hv4, hb4⟩; have hbn4 : Below w3.heap.size w3 w4 := chainB (by with_reducible assumption) hb4 (Nat.le_refl _); have S4 : w4.cell? ⟨w1.heap.size, 0, none⟩ = some (.slice N k cn) ∧ w4.cell? ⟨w1.heap.size, 1, none⟩ = some (.int .u64 inv) := ⟨(hbn4.cell (p := ⟨w1.heap.size, 0, none⟩) hlt3).trans T0, (hbn4.cell (p := ⟨w1.heap.size, 1, none⟩) hlt3).trans T1⟩) | (go_at_call 192; (with_reducible refine (HSA.out _ (by with_reducible assumption)).mono ?_); rintro e5 w5 ⟨g5, us5, rfl, ho5, bu5, hv5, hb5⟩; have hbn5 : Below w3.heap.size w3 w5 := chainB (by with_reducible assumption) hb5 (Nat.le_refl _); have S5 : w5.cell? ⟨w1.heap.size, 0, none⟩ = some (.slice N k cn) ∧ w5.cell? ⟨w1.heap.size, 1, none⟩ = some (.int .u64 inv) := ⟨(hbn5.cell (p := ⟨w1.heap.size, 0, none⟩) hlt3).trans T0, (hbn5.cell (p := ⟨w1.heap.size, 1, none⟩) hlt3).trans T1⟩)))
  have HW5 := Lib.hid (HW3.out.trans (hbn5.mono HW3.out.size))
  have hr4 := ho4.rd.below hb5
  have hr5 := ho5.rd
  have hone5 := HONE.out.below hbn5
  have hs5 := hbn5.size
  have hbits := bits_any w5 (HE.out.below HW5.out) (by omega) hce
  rw [hv4.symm] at HM1
  rw [hv5.symm] at HMA
  have HBITS := Lib.hid hbits
  have HR4 := Lib.hid hr4
  have HR5 := Lib.hid hr5
  have HONE5 := Lib.hid hone5
  clear ho4 ho5 hv4 hv5 hb4 hb5 hbn4 hbn5 S4 S0 T0 T1 hr4 hr5 hone5 hbits hs2 HONE HS1 HSA
  go_wp2_with fail
  refine HBITS.out.mono ?_
  rintro e6 w6 ⟨rfl, hb6⟩
  have T0 : w6.cell? ⟨w1.heap.size, 0, none⟩ = some (.slice N k cn) := (hb6.cell (p := ⟨w1.heap.size, 0, none⟩) (by simp; omega)).trans S5.1
  have T1 : w6.cell? ⟨w1.heap.size, 1, none⟩ = some (.int .u64 inv) := (hb6.cell (p := ⟨w1.heap.size, 1, none⟩) (by simp; omega)).trans S5.2
  have hlt6 : w1.heap.size < w6.heap.size := by have := hb6.size; omega
  have HR6 := Lib.hid (HR4.out.below hb6)
  have HB6 := Lib.hid (HR5.out.below hb6)
  have HONE6 := Lib.hid (HONE5.out.below hb6)
  have HW6 := Lib.hid (chainB HW5.out hb6 (Nat.le_refl _))
  have hbe : blen e ≤ 64 * ne := by
    rw [blen_le]
    obtain ⟨es, h1, h2, rfl⟩ := HE.out
    have h3 := nv_lt h2
    rw [h1.len, show (18446744073709551616 : Nat) = 2 ^ 64 by decide +kernel, ← Nat.pow_mul] at h3
    exact h3
  obtain ⟨L, hL⟩ : ∃ L, blen e = L := ⟨_, rfl⟩
  have HL := Lib.hid hL
  rw [hL] at hbe
  simp only [hL]
  have hmult := fun (W : World) (hW : Below w6.heap.size w6 W) (g h : Nat) (us vs : List Nat) (h1 : Rd .u64 W (some ⟨g, 0, none⟩) k k us) (b1 : B64 us) (h2 : Rd .u64 W (some ⟨h, 0, none⟩) k k vs) (b2 : B64 vs) (h3 : nv vs < m) =>
    mont_mul_any W (cn := cn) ((HN.out.below HW6.out).below hW) BN.out HM.out hk0 (by omega) hmp HI.out h1 b1 h2 b2 h3
  unfold mv at hmult
  have HMUL := Lib.hid hmult
  clear hmult
  clear hb6 hL HBITS HR4 HR5 HONE5 HW5 hs5 S5
  go_wp2_with fail
  go_loopw [9, 10, 23] (fun o b i wr => ∃ (j g h : Nat) (us vs : List Nat), j ≤ L ∧ i = .int .i64 (j : Int) ∧ o = .slice (some ⟨g, 0, none⟩) k k ∧ b = .slice (some ⟨h, 0, none⟩) k k ∧ Rd .u64 wr (some ⟨g, 0, none⟩) k k us ∧ B64 us ∧ MF m k (PB x e j) (nv us) ∧ Rd .u64 wr (some ⟨h, 0, none⟩) k k vs ∧ B64 vs ∧ MF m k (QB x j) (nv vs) ∧ Below w6.heap.size w6 wr) (fun _ _ i _ => L - (intOf i).toNat)
  case atStart =>
    exact ⟨0, g4, g5, us4, us5, by omega, rfl, rfl, rfl, HR6.out, bu4, by rw [PB.zero]; exact HM1.out, HB6.out, bu5, by rw [QB.zero]; exact HMA.out, Below.refl _ _⟩
  case round =>
    obtain ⟨j, g, h, us, vs', hj, rfl, rfl, rfl, hru, bu, hmu, hrv, bv, hmv, hbl⟩ := hrel
    have HRU := Lib.hid hru
    have BU := Lib.hid bu
    have HMU := Lib.hid hmu
    have HRV := Lib.hid hrv
    have BV := Lib.hid bv
    have HMV := Lib.hid hmv
    have HBL := Lib.hid hbl
    clear hru bu hmu hrv bv hmv hbl
    by_cases hlt : j < L
    · have q0 : wr.cell? ⟨w1.heap.size, 0, none⟩ = some (.slice N k cn) := (HBL.out.cell (p := ⟨w1.heap.size, 0, none⟩) hlt6).trans T0
      have q1 : wr.cell? ⟨w1.heap.size, 1, none⟩ = some (.int .u64 inv) := (HBL.out.cell (p := ⟨w1.heap.size, 1, none⟩) hlt6).trans T1
      have hbit := bit_any wr j ((HE.out.below HW6.out).below HBL.out) (by omega) (by omega) hce
      obtain ⟨bt, hbt⟩ : ∃ bt, e / 2 ^ j % 2 = bt := ⟨_, rfl⟩
      have hb2 : bt = 0 ∨ bt = 1 := by have := Nat.mod_lt (e / 2 ^ j) (show 0 < 2 by omega); omega
      rw [hbt] at hbit
      have HBT := Lib.hid hbt
      have HBIT := Lib.hid hbit
      clear hbt hbit
      rcases hb2 with rfl | rfl
      · go_wp2_with fail
        refine HBIT.out.mono ?_
        rintro e7 w7 ⟨rfl, nd, rfl⟩
        have hbl7 : Below w6.heap.size w6 (wr.drewN nd) := below_drewN HBL.out nd
        have hm2 := HMUL.out (wr.drewN nd) hbl7 h h vs' vs' (HRV.out.drewN nd) BV.out (HRV.out.drewN nd) BV.out (HMV.out.lt hmp)
        have HM2 := Lib.hid hm2
        have HBL7 := Lib.hid hbl7
        clear hm2 hbl7
        simp only [Int.natCast_zero]
        go_wp2_with fail
        refine HM2.out.mono ?_
        rintro e8 w8 ⟨v, hmr, g8, us8, rfl, ho8, b8, hv8, hb8⟩
        have HBL8 := Lib.hid (chainB HBL7.out hb8 (Nat.le_refl _))
        have HR8 := Lib.hid ho8.rd
        have HRU8 := Lib.hid ((HRU.out.drewN nd).below hb8)
        have HV8 := Lib.hid (show MF m k (QB x (j + 1)) (nv us8) by rw [← QB.next, hv8]; exact HMV.out.mul hmo HMV.out hmr)
        have HU8 := Lib.hid (show MF m k (PB x e (j + 1)) (nv us) by rw [← PB.none HBT.out]; exact HMU.out)
        clear ho8 hb8 hmr hv8
        go_wp2_with fail
        exact ⟨⟨j + 1, g, g8, us, us8, by omega, by go_num, rfl, rfl, HRU8.out, BU.out, HU8.out, HR8.out, b8, HV8.out, HBL8.out⟩, by simp [intOf]; omega⟩
      · go_wp2_with fail
        refine HBIT.out.mono ?_
        rintro e7 w7 ⟨rfl, nd, rfl⟩
        have hbl7 : Below w6.heap.size w6 (wr.drewN nd) := below_drewN HBL.out nd
        have hm2 := HMUL.out (wr.drewN nd) hbl7 g h us vs' (HRU.out.drewN nd) BU.out (HRV.out.drewN nd) BV.out (HMV.out.lt hmp)
        have HM2 := Lib.hid hm2
        have HBL7 := Lib.hid hbl7
        clear hm2 hbl7
        simp only [Int.natCast_one]
        go_wp2_with fail
        refine HM2.out.mono ?_
        rintro e8 w8 ⟨v, hmr, g8, us8, rfl, ho8, b8, hv8, hb8⟩
        have hbl8 := chainB HBL7.out hb8 (Nat.le_refl _)
        have r0 : w8.cell? ⟨w1.heap.size, 0, none⟩ = some (.slice N k cn) := (hbl8.cell (p := ⟨w1.heap.size, 0, none⟩) hlt6).trans T0
        have r1 : w8.cell? ⟨w1.heap.size, 1, none⟩ = some (.int .u64 inv) := (hbl8.cell (p := ⟨w1.heap.size, 1, none⟩) hlt6).trans T1
        have hrv8 := (HRV.out.drewN nd).below hb8
        have hm3 := HMUL.out w8 hbl8 h h vs' vs' hrv8 BV.out hrv8 BV.out (HMV.out.lt hmp)
        have HM3 := Lib.hid hm3
        have HBL8 := Lib.hid hbl8
        have HR8 := Lib.hid ho8.rd
        have HU8 := Lib.hid (show MF m k (PB x e (j + 1)) (nv us8) by rw [← PB.one HBT.out, hv8]; exact HMU.out.mul hmo HMV.out hmr)
        clear ho8 hb8 hmr hv8 hbl8 hrv8 hm3 HM2
        go_wp2_with fail
        refine HM3.out.mono ?_
        rintro e9 w9 ⟨v9, hmr, g9, us9, rfl, ho9, b9, hv9, hb9⟩
        have HBL9 := Lib.hid (chainB HBL8.out hb9 (Nat.le_refl _))
        have HR9 := Lib.hid ho9.rd
        have HRU9 := Lib.hid (HR8.out.below hb9)
        have HV9 := Lib.hid (show MF m k (QB x (j + 1)) (nv us9) by rw [← QB.next, hv9]; exact HMV.out.mul hmo HMV.out hmr)
        clear ho9 hb9 hmr hv9
        go_wp2_with fail
        exact ⟨⟨j + 1, g8, g9, us8, us9, by omega, by go_num, rfl, rfl, HRU9.out, b8, HU8.out, HR9.out, b9, HV9.out, HBL9.out⟩, by simp [intOf]; omega⟩
    · obtain rfl : L = j := by omega
      have B0 : Below w6.heap.size w6 wr.drew := HBL.out.drew
      have q0 : wr.drew.cell? ⟨w1.heap.size, 0, none⟩ = some (.slice N k cn) := (HBL.out.cell (p := ⟨w1.heap.size, 0, none⟩) hlt6).trans T0
      have q1 : wr.drew.cell? ⟨w1.heap.size, 1, none⟩ = some (.int .u64 inv) := (HBL.out.cell (p := ⟨w1.heap.size, 1, none⟩) hlt6).trans T1
      have S0 : wr.drew.cell? ⟨w1.heap.size, 0, none⟩ = some (.slice N k cn) ∧ wr.drew.cell? ⟨w1.heap.size, 1, none⟩ = some (.int .u64 inv) := ⟨q0, q1⟩
      have hfit1 : 1 < 18446744073709551616 ^ k := Nat.lt_of_lt_of_le (by omega) (Nat.pow_le_pow_right (n := 18446744073709551616) (by omega) hk0)
      have hl1 : ln 1 ≤ 1 := ln_le.2 (by omega)
      have hwide := wide_any (inv := inv) (cn := cn) (N := N) wr.drew (HONE6.out.below B0) (show k ≤ 4194304 by omega) hfit1
      unfold mv at hwide
      have hrud := HRU.out.drewN 1
      have HWI := Lib.hid hwide
      have HRD := Lib.hid (show Rd .u64 wr.drew (some ⟨g, 0, none⟩) k k us from hrud)
      clear hwide hrud hfit1
      go_wp2_with fail
      go_region_held3 (fun w' => w'.cell? ⟨w1.heap.size, 0, none⟩ = some (.slice N k cn) ∧ w'.cell? ⟨w1.heap.size, 1, none⟩ = some (.int .u64 inv))
        (with_reducible assumption)
        ((first | (go_at_call 194; (with_reducible refine HWI.out.mono ?_); rintro e8 w8 ⟨g8, us8, rfl, ho8, b8, hv8, hb8⟩; have hbl8 := chainB B0 hb8 (Nat.le_refl _); have S8 : w8.cell? ⟨w1.heap.size, 0, none⟩ = some (.slice N k cn) ∧ w8.cell? ⟨w1.heap.size, 1, none⟩ = some (.int .u64 inv) := ⟨(hbl8.cell (p := ⟨w1.heap.size, 0, none⟩) hlt6).trans T0, (hbl8.cell (p := ⟨w1.heap.size, 1, none⟩) hlt6).trans T1⟩; have hmm := HMUL.out w8 hbl8 g g8 us us8 (HRD.out.below hb8) BU.out ho8.rd b8 (by rw [hv8]; exact hm1)) | (go_at_call 193; (with_reducible refine hmm.mono ?_); rintro e9 w9 ⟨v9, hmr, g9, us9, rfl, ho9, b9, hv9, hb9⟩; have hbl9 := chainB hbl8 hb9 (Nat.le_refl _); have S9 : w9.cell? ⟨w1.heap.size, 0, none⟩ = some (.slice N k cn) ∧ w9.cell? ⟨w1.heap.size, 1, none⟩ = some (.int .u64 inv) := ⟨(hbl9.cell (p := ⟨w1.heap.size, 0, none⟩) hlt6).trans T0, (hbl9.cell (p := ⟨w1.heap.size, 1, none⟩) hlt6).trans T1⟩; have htr := trim_any w9 (x := v9) ⟨us9, ho9.rd, b9, hv9⟩ (by omega)) | (go_at_call 126; (with_reducible refine htr.mono ?_); rintro e10 w10 ⟨A10, c10, rfl, ho10, hb10⟩; have hbl10 := chainB hbl9 hb10 (Nat.le_refl _); have S10 : w10.cell? ⟨w1.heap.size, 0, none⟩ = some (.slice N k cn) ∧ w10.cell? ⟨w1.heap.size, 1, none⟩ = some (.int .u64 inv) := ⟨(hbl10.cell (p := ⟨w1.heap.size, 0, none⟩) hlt6).trans T0, (hbl10.cell (p := ⟨w1.heap.size, 1, none⟩) hlt6).trans T1⟩)))
      rw [hv8] at hmr
      have hfin : v9 = x ^ e % m := by
        have h1 := MF.out1 hmo HMU.out hmr
        rw [h1, ← HL.out, PB.done]
      have HF := Lib.hid hfin
      have HOF := Lib.hid ho10
      have HBF := Lib.hid (HW6.out.trans (hbl10.mono HW6.out.size))
      have hsz := (HW6.out.trans (hbl9.mono HW6.out.size)).size
      clear hfin ho10 hbl10 hmr hmm htr hv8 ho8 hv9 ho9
      go_wp2_with fail
      go_ret
      rw [← HF.out]
      exact ⟨A10, c10, rfl, HOF.out.lower hsz, HBF.out⟩
end Go.Proofs.YtdmglajfmfjmlaaGreat
namespace Go.Proofs.YtdmglajfmfjmlaaGreat
set_option linter.unusedSimpArgs false
set_option linter.unusedVariables false
set_option maxRecDepth 100000
open Go.RowKit Go.Proofs.YtdmglajfmfjmlaaGreatW.PrintWords Go.Proofs.YtdmglajfmfjmlaaGreatW.PrintLast
def powM (a e m : Nat) : Nat := a ^ e % m
theorem odd_giv {A0 A1 A2 : Option Addr} {c0 c1 c2 : Nat} {l0 l1 l2 : List Int} {w : World} {r : List Int} (hr0 : Kd.C (Kd.int .u64) w A0 l0.length l0) (hc0 : l0.length ≤ c0) (hr1 : Kd.C (Kd.int .u64) w A1 l1.length l1) (hc1 : l1.length ≤ c1) (hr2 : Kd.C (Kd.int .u64) w A2 l2.length l2) (hc2 : l2.length ≤ c2)
    (h : (if okN 4096 l0 ∧ okN 4096 l1 ∧ okN 1024 l2 ∧ nI l2 % 2 = 1 ∧ 1 < nI l2 then some (ofN (powM (nI l0) (nI l1) (nI l2))) else none) = some r) :
    Calls Tryz.prog 160 #[.slice A0 l0.length c0, .slice A1 l1.length c1, .slice A2 l2.length c2] w fun e w' => ∃ v0_ : Value, e = .returned (v0_) ∧ Kd.R (Kd.int .u64) 23 w' w.heap.size (fun _ => True) v0_ r ∧ Below w.heap.size w w' := by
  obtain ⟨⟨h0, h1, h2, h3, h4⟩, rfl⟩ := of_ite h
  exact (odd_any w (na_of_C hr0 hc0 h0) (na_of_C hr1 hc1 h1) (rd_of_C hr2 hc2 h2) h2.b64 rfl h3 h4 h0.1 h1.1 hc1 h2.1).mono fun _ _ h => retN_R h
end Go.Proofs.YtdmglajfmfjmlaaGreat
namespace Go.Proofs.YtdmglajfmfjmlaaGreat.Cm
open Go.RowKit Go.Proofs.YtdmglajfmfjmlaaGreatW.PrintWords Go.Proofs.YtdmglajfmfjmlaaGreatW.PrintLast Go.Proofs.YtdmglajfmfjmlaaGreatW.PrintMore
attribute [local go_sem] max2_int min2_int max_two min_two max_three min_three max_four min_four   -- for this text's walks alone
set_option linter.unusedVariables false
set_option linter.unusedSimpArgs false
end Go.Proofs.YtdmglajfmfjmlaaGreat.Cm
namespace Go.Proofs.YtdmglajfmfjmlaaGreat.Cm
open Go.RowKit Go.Proofs.YtdmglajfmfjmlaaGreatW.PrintWords Go.Proofs.YtdmglajfmfjmlaaGreatW.PrintLast Go.Proofs.YtdmglajfmfjmlaaGreatW.PrintMore
attribute [local go_sem] max2_int min2_int max_two min_two max_three min_three max_four min_four   -- for this text's walks alone
set_option linter.unusedVariables false
set_option linter.unusedSimpArgs false
def nat_Div.f (l0 : List Int) (l1 : List Int) : Option (List Int × List Int × Int) := if okN 262144 l0 ∧ okN 262144 l1 then some (divR (nI l0) (nI l1)) else none
theorem nat_Div.calls (A0 : Option Addr) (c0 : Nat) (l0 : List Int) (A1 : Option Addr) (c1 : Nat) (l1 : List Int) (r1 : List Int) (r2 : List Int) (r3 : Int) (w : World) (hr0 : Kd.C (Kd.int .u64) w A0 l0.length l0) (hc0 : l0.length ≤ c0) (hr1 : Kd.C (Kd.int .u64) w A1 l1.length l1) (hc1 : l1.length ≤ c1) (h : nat_Div.f l0 l1 = some (r1, r2, r3)) :
  Calls Tryz.prog 110 #[.slice A0 l0.length c0, .slice A1 l1.length c1] w fun e w' => ∃ v0_ v1_ : Value, e = .returned (.tuple #[v0_, v1_, .int .i64 r3]) ∧ Kd.R (Kd.int .u64) 23 w' w.heap.size (fun k_ => some k_ ≠ (v1_ : Value).ownBlock) v0_ r1 ∧ Kd.R (Kd.int .u64) 23 w' w.heap.size (fun k_ => some k_ ≠ (v0_ : Value).ownBlock) v1_ r2 ∧ Below w.heap.size w w' := by
 exact div_giv hr0 hc0 hr1 hc1 h
def modn_Mod.f (l0 : List Int) (l1 : List Int) : Option (List Int × Int) := (nat_Div.f l0 l1).bind fun bt101 => (some (bt101.2.1, bt101.2.2))
set_option maxHeartbeats 8000000 in
set_option maxRecDepth 100000 in
theorem modn_Mod.calls (A0 : Option Addr) (c0 : Nat) (l0 : List Int) (A1 : Option Addr) (c1 : Nat) (l1 : List Int) (r1 : List Int) (r2 : Int) (w : World) (hr0 : Kd.C (Kd.int .u64) w A0 l0.length l0) (hc0 : l0.length ≤ c0) (hr1 : Kd.C (Kd.int .u64) w A1 l1.length l1) (hc1 : l1.length ≤ c1) (h : modn_Mod.f l0 l1 = some (r1, r2)) :
  Calls Tryz.prog 93 #[.slice A0 l0.length c0, .slice A1 l1.length c1] w fun e w' => ∃ v0_ : Value, e = .returned (.tuple #[v0_, .int .i64 r2]) ∧ Kd.R (Kd.int .u64) 23 w' w.heap.size (fun _ => True) v0_ r1 ∧ Below w.heap.size w w' := by
 have HR0 := Aside0.mk hr0
 have HC0 := Aside0.mk hc0
 clear hr0 hc0
 have HR1 := Aside0.mk hr1
 have HC1 := Aside0.mk hc1
 clear hr1 hc1
 have HB := Aside0.mk (Below.refl w.heap.size w)
 have H : ((nat_Div.f l0 l1).bind fun bt101 => (some (bt101.2.1, bt101.2.2))) = some (r1, r2) := h
 clear h
 replace H := Option.bind_eq_some_iff.mp H
 obtain ⟨⟨t101, t102, t103⟩, A30, H⟩ := H
 try dsimp only at H
 have A3 := Aside0.mk A30
 clear A30
 simp only [Option.some.injEq, Prod.mk.injEq] at H
 obtain ⟨rfl, rfl⟩ := H
 go_enter Tryz.func93, Tryz.ntmps93
 go_wp2_with ((((with_reducible refine gate_callee (f := 110) rfl ?_); refine goesL_ (some 12) rfl rfl Tryz.func110 (by kernel_rfl) rfl #[.slice A0 l0.length c0, .slice A1 l1.length c1] rfl (by (try simp only [List.map_toArray, List.map_cons, List.map_nil]); rfl) ?_; (with_reducible refine (nat_Div.calls _ _ l0 _ _ l1 t101 t102 t103 _ ?side1 ?side2 ?side3 ?side4 A3.out).mono ?_); (case side1 => exact HR0.out); (case side2 => exact HC0.out); (case side3 => exact HR1.out); (case side4 => exact HC1.out); rintro e w4 ⟨v104, v106, rfl, ho0, ho1, hb⟩; refine ⟨_, rfl, ?_⟩; have HO105 := Aside0.mk (Kd.R_lower ho0 (below_size HB.out)); have HO107 := Aside0.mk (Kd.R_lower ho1 (below_size HB.out)); replace HB := Aside0.mk (below_step HB.out hb); clear hb ho0 ho1)))
 go_ret2
 exact ⟨_, by rfl, by exact Kd.R_mono HO107.out (fun _ hk => trivial), HB.out⟩
def nat_Mul.f (l0 : List Int) (l1 : List Int) : Option (List Int) := if okN 262144 l0 ∧ okN 262144 l1 then some (ofN (nI l0 * nI l1)) else none
theorem nat_Mul.calls (A0 : Option Addr) (c0 : Nat) (l0 : List Int) (A1 : Option Addr) (c1 : Nat) (l1 : List Int) (r : List Int) (w : World) (hr0 : Kd.C (Kd.int .u64) w A0 l0.length l0) (hc0 : l0.length ≤ c0) (hr1 : Kd.C (Kd.int .u64) w A1 l1.length l1) (hc1 : l1.length ≤ c1) (h : nat_Mul.f l0 l1 = some r) :
  Calls Tryz.prog 61 #[.slice A0 l0.length c0, .slice A1 l1.length c1] w fun e w' => ∃ v0_ : Value, e = .returned (v0_) ∧ Kd.R (Kd.int .u64) 23 w' w.heap.size (fun _ => True) v0_ r ∧ Below w.heap.size w w' := by
 exact mul_giv hr0 hc0 hr1 hc1 h
def modn_Mul.f (l0 : List Int) (l1 : List Int) (l2 : List Int) : Option (List Int × Int) := (nat_Mul.f l0 l1).bind fun t108 => ((modn_Mod.f t108 l2).bind fun bt111 => (some (bt111.1, bt111.2)))
set_option maxHeartbeats 8000000 in
set_option maxRecDepth 100000 in
theorem modn_Mul.calls (A0 : Option Addr) (c0 : Nat) (l0 : List Int) (A1 : Option Addr) (c1 : Nat) (l1 : List Int) (A2 : Option Addr) (c2 : Nat) (l2 : List Int) (r1 : List Int) (r2 : Int) (w : World) (hr0 : Kd.C (Kd.int .u64) w A0 l0.length l0) (hc0 : l0.length ≤ c0) (hr1 : Kd.C (Kd.int .u64) w A1 l1.length l1) (hc1 : l1.length ≤ c1) (hr2 : Kd.C (Kd.int .u64) w A2 l2.length l2) (hc2 : l2.length ≤ c2) (h : modn_Mul.f l0 l1 l2 = some (r1, r2)) :
  Calls Tryz.prog 103 #[.slice A0 l0.length c0, .slice A1 l1.length c1, .slice A2 l2.length c2] w fun e w' => ∃ v0_ : Value, e = .returned (.tuple #[v0_, .int .i64 r2]) ∧ Kd.R (Kd.int .u64) 23 w' w.heap.size (fun _ => True) v0_ r1 ∧ Below w.heap.size w w' := by
 have HR0 := Aside0.mk hr0
 have HC0 := Aside0.mk hc0
 clear hr0 hc0
 have HR1 := Aside0.mk hr1
 have HC1 := Aside0.mk hc1
 clear hr1 hc1
 have HR2 := Aside0.mk hr2
 have HC2 := Aside0.mk hc2
 clear hr2 hc2
 have HB := Aside0.mk (Below.refl w.heap.size w)
 have H : ((nat_Mul.f l0 l1).bind fun t108 => ((modn_Mod.f t108 l2).bind fun bt111 => (some (bt111.1, bt111.2)))) = some (r1, r2) := h
 clear h
 replace H := Option.bind_eq_some_iff.mp H
 obtain ⟨t108, A40, H⟩ := H
 try dsimp only at H
 have A4 := Aside0.mk A40
 clear A40
 replace H := Option.bind_eq_some_iff.mp H
 obtain ⟨⟨t111, t112⟩, A50, H⟩ := H
 try dsimp only at H
 have A5 := Aside0.mk A50
 clear A50
 simp only [Option.some.injEq, Prod.mk.injEq] at H
 obtain ⟨rfl, rfl⟩ := H
 go_enter Tryz.func103, Tryz.ntmps103
 go_wp2_with (first | ((with_reducible refine gate_callee (f := 61) rfl ?_); refine goesL_ (some 10) rfl rfl Tryz.func61 (by kernel_rfl) rfl #[.slice A0 l0.length c0, .slice A1 l1.length c1] rfl (by (try simp only [List.map_toArray, List.map_cons, List.map_nil]); rfl) ?_; (with_reducible refine (nat_Mul.calls _ _ l0 _ _ l1 t108 _ ?side1 ?side2 ?side3 ?side4 A4.out).mono ?_); (case side1 => exact HR0.out); (case side2 => exact HC0.out); (case side3 => exact HR1.out); (case side4 => exact HC1.out); rintro e w6 ⟨v109, rfl, ho0, hb⟩; refine ⟨_, rfl, ?_⟩; have HO110 := Aside0.mk (Kd.R_lower ho0 (below_size HB.out)); replace HB := Aside0.mk (below_step HB.out hb); clear hb ho0; obtain ⟨Ao7, co7, eo7⟩ := Kd.R_slice HO110.out; subst eo7) | ((with_reducible refine gate_callee (f := 93) rfl ?_); refine goesL_ (some 12) rfl rfl Tryz.func93 (by kernel_rfl) rfl #[.slice Ao7 t108.length co7, .slice A2 l2.length c2] rfl (by (try simp only [List.map_toArray, List.map_cons, List.map_nil]); rfl) ?_; (with_reducible refine (modn_Mod.calls _ _ t108 _ _ l2 t111 t112 _ ?side1 ?side2 ?side3 ?side4 A5.out).mono ?_); (case side1 => exact (Kd.R_reads' HO110.out).2.2); (case side2 => exact (Kd.R_reads' HO110.out).2.1); (case side3 => exact (Kd.C_below HR2.out HB.out)); (case side4 => exact HC2.out); rintro e w8 ⟨v113, rfl, ho0, hb⟩; refine ⟨_, rfl, ?_⟩; have HO114 := Aside0.mk (Kd.R_lower (Kd.R_new' ho0 (Kd.R_lt HO110.out)) (below_size HB.out)); replace HO110 := Aside0.mk (Kd.R_elder' HO110.out (Kd.R_base ho0) hb); replace HB := Aside0.mk (below_step HB.out hb); clear hb ho0))
 go_ret2
 exact ⟨_, by rfl, by exact Kd.R_mono HO114.out (fun _ hk => trivial), HB.out⟩
def nat_Of.f (a0 : Int) : Option (List Int) := if 0 ≤ a0 ∧ a0 < 18446744073709551616 then some (ofN a0.toNat) else none
theorem nat_Of.calls (a0 : Int) (r : List Int) (w : World) (h : nat_Of.f a0 = some r) :
  Calls Tryz.prog 57 #[.int .u64 a0] w fun e w' => ∃ v0_ : Value, e = .returned (v0_) ∧ Kd.R (Kd.int .u64) 23 w' w.heap.size (fun _ => True) v0_ r ∧ Below w.heap.size w w' := by
 exact of_giv h
def nat_Cmp.f (l0 : List Int) (l1 : List Int) : Option (Int) := if okN 262144 l0 ∧ okN 262144 l1 then some (cmpN (nI l0) (nI l1)) else none
theorem nat_Cmp.calls (A0 : Option Addr) (c0 : Nat) (l0 : List Int) (A1 : Option Addr) (c1 : Nat) (l1 : List Int) (r : Int) (w : World) (hr0 : Kd.C (Kd.int .u64) w A0 l0.length l0) (hc0 : l0.length ≤ c0) (hr1 : Kd.C (Kd.int .u64) w A1 l1.length l1) (hc1 : l1.length ≤ c1) (h : nat_Cmp.f l0 l1 = some r) :
  Calls Tryz.prog 58 #[.slice A0 l0.length c0, .slice A1 l1.length c1] w fun e w' => e = .returned (.int .i64 r) ∧ Drawn0 w w' := by
 exact cmp_giv hr0 hc0 hr1 hc1 h
def nat_Bits.f (l0 : List Int) : Option (Int) := if okN 262144 l0 then some ((blen (nI l0) : Nat) : Int) else none
theorem nat_Bits.calls (A0 : Option Addr) (c0 : Nat) (l0 : List Int) (r : Int) (w : World) (hr0 : Kd.C (Kd.int .u64) w A0 l0.length l0) (hc0 : l0.length ≤ c0) (h : nat_Bits.f l0 = some r) :
  Calls Tryz.prog 74 #[.slice A0 l0.length c0] w fun e w' => e = .returned (.int .i64 r) ∧ Below w.heap.size w w' := by
 exact bits_giv hr0 hc0 h
def nat_Trim.f (l0 : List Int) : Option (List Int) := if okN 262144 l0 then some (ofN (nI l0)) else none
theorem nat_Trim.calls (A0 : Option Addr) (c0 : Nat) (l0 : List Int) (r : List Int) (w : World) (hr0 : Kd.C (Kd.int .u64) w A0 l0.length l0) (hc0 : l0.length ≤ c0) (h : nat_Trim.f l0 = some r) :
  Calls Tryz.prog 126 #[.slice A0 l0.length c0] w fun e w' => ∃ v0_ : Value, e = .returned (v0_) ∧ Kd.R (Kd.int .u64) 23 w' w.heap.size (fun _ => True) v0_ r ∧ Below w.heap.size w w' := by
 exact trim_giv hr0 hc0 h
def nat_Bit.f (l0 : List Int) (a1 : Int) : Option (Int) := if okN 262144 l0 ∧ a1 ≤ 9223372036854775807 then some (if a1 < 0 then 0 else ((nI l0 / 2 ^ a1.toNat % 2 : Nat) : Int)) else none
theorem nat_Bit.calls (A0 : Option Addr) (c0 : Nat) (l0 : List Int) (a1 : Int) (r : Int) (w : World) (hr0 : Kd.C (Kd.int .u64) w A0 l0.length l0) (hc0 : l0.length ≤ c0) (h : nat_Bit.f l0 a1 = some r) :
  Calls Tryz.prog 133 #[.slice A0 l0.length c0, .int .i64 a1] w fun e w' => e = .returned (.int .i64 r) ∧ Drawn0 w w' := by
 exact bit_giv hr0 hc0 h
def modn_odd.f (l0 : List Int) (l1 : List Int) (l2 : List Int) : Option (List Int) := if okN 4096 l0 ∧ okN 4096 l1 ∧ okN 1024 l2 ∧ nI l2 % 2 = 1 ∧ 1 < nI l2 then some (ofN (powM (nI l0) (nI l1) (nI l2))) else none
theorem modn_odd.calls (A0 : Option Addr) (c0 : Nat) (l0 : List Int) (A1 : Option Addr) (c1 : Nat) (l1 : List Int) (A2 : Option Addr) (c2 : Nat) (l2 : List Int) (r : List Int) (w : World) (hr0 : Kd.C (Kd.int .u64) w A0 l0.length l0) (hc0 : l0.length ≤ c0) (hr1 : Kd.C (Kd.int .u64) w A1 l1.length l1) (hc1 : l1.length ≤ c1) (hr2 : Kd.C (Kd.int .u64) w A2 l2.length l2) (hc2 : l2.length ≤ c2) (h : modn_odd.f l0 l1 l2 = some r) :
  Calls Tryz.prog 160 #[.slice A0 l0.length c0, .slice A1 l1.length c1, .slice A2 l2.length c2] w fun e w' => ∃ v0_ : Value, e = .returned (v0_) ∧ Kd.R (Kd.int .u64) 23 w' w.heap.size (fun _ => True) v0_ r ∧ Below w.heap.size w w' := by
 exact odd_giv hr0 hc0 hr1 hc1 hr2 hc2 h
def modn_Pow.l0 : Nat → List Int → List Int → List Int → List Int → Int → Option (List Int × Int)
 | 0, _, _, _, _, _ => none
 | k + 1, x1, x2, x8, x10, x11 => if x11 ≥ 0 then ((modn_Mul.f x10 x10 x2).bind fun bt134 => ((nat_Bit.f x1 x11).bind fun t138 => (if t138 = 1 then ((modn_Mul.f bt134.1 x8 x2).bind fun bt139 => (modn_Pow.l0 k x1 x2 x8 bt139.1 (wrap64 (x11 - 1)))) else (modn_Pow.l0 k x1 x2 x8 bt134.1 (wrap64 (x11 - 1)))))) else (some (x10, 0))
def modn_Pow.f (k : Nat) (l0 : List Int) (l1 : List Int) (l2 : List Int) : Option (List Int × Int) := (nat_Trim.f l2).bind fun t115 => ((modn_Mod.f l0 t115).bind fun bt118 => (if bt118.2 = 0 then ((nat_Of.f 1).bind fun t122 => ((nat_Cmp.f t115 t122).bind fun t125 => (if t125 = 0 then (some (([] : List Int), 0)) else (if 0 < (t115.length : Int) then (if (Go.bits .and .u64 (rd t115 0) 1) = 1 then ((modn_odd.f bt118.1 l1 t115).bind fun t127 => (some (t127, 0))) else ((nat_Of.f 1).bind fun t130 => ((nat_Bits.f l1).bind fun t133 => (modn_Pow.l0 k l1 t115 bt118.1 t130 (wrap64 (t133 - 1)))))) else (none))))) else (some (([] : List Int), bt118.2))))
set_option maxHeartbeats 8000000 in
set_option maxRecDepth 100000 in
theorem modn_Pow.calls (k : Nat) (A0 : Option Addr) (c0 : Nat) (l0 : List Int) (A1 : Option Addr) (c1 : Nat) (l1 : List Int) (A2 : Option Addr) (c2 : Nat) (l2 : List Int) (r1 : List Int) (r2 : Int) (w : World) (hr0 : Kd.C (Kd.int .u64) w A0 l0.length l0) (hc0 : l0.length ≤ c0) (hr1 : Kd.C (Kd.int .u64) w A1 l1.length l1) (hc1 : l1.length ≤ c1) (hr2 : Kd.C (Kd.int .u64) w A2 l2.length l2) (hc2 : l2.length ≤ c2) (h : modn_Pow.f k l0 l1 l2 = some (r1, r2)) :
  Calls Tryz.prog 95 #[.slice A0 l0.length c0, .slice A1 l1.length c1, .slice A2 l2.length c2] w fun e w' => ∃ v0_ : Value, e = .returned (.tuple #[v0_, .int .i64 r2]) ∧ Kd.R (Kd.int .u64) 23 w' w.heap.size (fun _ => True) v0_ r1 ∧ Below w.heap.size w w' := by
 have HR0 := Aside0.mk hr0
 have HC0 := Aside0.mk hc0
 clear hr0 hc0
 have HR1 := Aside0.mk hr1
 have HC1 := Aside0.mk hc1
 clear hr1 hc1
 have HR2 := Aside0.mk hr2
 have HC2 := Aside0.mk hc2
 clear hr2 hc2
 have HB := Aside0.mk (Below.refl w.heap.size w)
 have H : ((nat_Trim.f l2).bind fun t115 => ((modn_Mod.f l0 t115).bind fun bt118 => (if bt118.2 = 0 then ((nat_Of.f 1).bind fun t122 => ((nat_Cmp.f t115 t122).bind fun t125 => (if t125 = 0 then (some (([] : List Int), 0)) else (if 0 < (t115.length : Int) then (if (Go.bits .and .u64 (rd t115 0) 1) = 1 then ((modn_odd.f bt118.1 l1 t115).bind fun t127 => (some (t127, 0))) else ((nat_Of.f 1).bind fun t130 => ((nat_Bits.f l1).bind fun t133 => (modn_Pow.l0 k l1 t115 bt118.1 t130 (wrap64 (t133 - 1)))))) else (none))))) else (some (([] : List Int), bt118.2))))) = some (r1, r2) := h
 clear h
 replace H := Option.bind_eq_some_iff.mp H
 obtain ⟨t115, A40, H⟩ := H
 try dsimp only at H
 have A4 := Aside0.mk A40
 clear A40
 replace H := Option.bind_eq_some_iff.mp H
 obtain ⟨⟨t118, t119⟩, A50, H⟩ := H
 try dsimp only at H
 have A5 := Aside0.mk A50
 clear A50
 by_cases c6 : t119 = 0
 ·rw [if_pos c6] at H
  have c6b0 : (t119 == 0) = true := beq_iff_eq.mpr c6
  have c6b1 : (t119 != 0) = false := bne_eq_false_iff_eq.mpr c6
  clear c6
  replace H := Option.bind_eq_some_iff.mp H
  obtain ⟨t122, A70, H⟩ := H
  try dsimp only at H
  have A7 := Aside0.mk A70
  clear A70
  replace H := Option.bind_eq_some_iff.mp H
  obtain ⟨t125, A80, H⟩ := H
  try dsimp only at H
  have A8 := Aside0.mk A80
  clear A80
  by_cases c9 : t125 = 0
  ·rw [if_pos c9] at H
   have c9b0 : (t125 == 0) = true := beq_iff_eq.mpr c9
   have c9b1 : (t125 != 0) = false := bne_eq_false_iff_eq.mpr c9
   clear c9
   simp only [Option.some.injEq, Prod.mk.injEq] at H
   obtain ⟨rfl, rfl⟩ := H
   go_enter Tryz.func95, Tryz.ntmps95
   go_wp2_with (first | ((with_reducible refine gate_callee (f := 126) rfl ?_); refine goesL_ (some 13) rfl rfl Tryz.func126 (by kernel_rfl) rfl #[.slice A2 l2.length c2] rfl (by (try simp only [List.map_toArray, List.map_cons, List.map_nil]); rfl) ?_; (with_reducible refine (nat_Trim.calls _ _ l2 t115 _ ?side1 ?side2 A4.out).mono ?_); (case side1 => exact HR2.out); (case side2 => exact HC2.out); rintro e w10 ⟨v116, rfl, ho0, hb⟩; refine ⟨_, rfl, ?_⟩; have HO117 := Aside0.mk (Kd.R_lower ho0 (below_size HB.out)); replace HB := Aside0.mk (below_step HB.out hb); clear hb ho0; obtain ⟨Ao11, co11, eo11⟩ := Kd.R_slice HO117.out; subst eo11) | ((with_reducible refine gate_callee (f := 93) rfl ?_); refine goesL_ (some 17) rfl rfl Tryz.func93 (by kernel_rfl) rfl #[.slice A0 l0.length c0, .slice Ao11 t115.length co11] rfl (by (try simp only [List.map_toArray, List.map_cons, List.map_nil]); rfl) ?_; (with_reducible refine (modn_Mod.calls _ _ l0 _ _ t115 t118 t119 _ ?side1 ?side2 ?side3 ?side4 A5.out).mono ?_); (case side1 => exact (Kd.C_below HR0.out HB.out)); (case side2 => exact HC0.out); (case side3 => exact (Kd.R_reads' HO117.out).2.2); (case side4 => exact (Kd.R_reads' HO117.out).2.1); rintro e w12 ⟨v120, rfl, ho0, hb⟩; refine ⟨_, rfl, ?_⟩; have HO121 := Aside0.mk (Kd.R_lower (Kd.R_new' ho0 (Kd.R_lt HO117.out)) (below_size HB.out)); replace HO117 := Aside0.mk (Kd.R_elder' HO117.out (Kd.R_base ho0) hb); replace HB := Aside0.mk (below_step HB.out hb); clear hb ho0) | ((with_reducible refine gate_callee (f := 57) rfl ?_); refine goesL_ (some 24) rfl rfl Tryz.func57 (by kernel_rfl) rfl #[.int .u64 1] rfl (by (try simp only [List.map_toArray, List.map_cons, List.map_nil]); rfl) ?_; (with_reducible refine (nat_Of.calls 1 t122 _ A7.out).mono ?_); rintro e w13 ⟨v123, rfl, ho0, hb⟩; refine ⟨_, rfl, ?_⟩; have HO124 := Aside0.mk (Kd.R_lower (Kd.R_new' (Kd.R_new' ho0 (Kd.R_lt HO117.out)) (Kd.R_lt HO121.out)) (below_size HB.out)); replace HO117 := Aside0.mk (Kd.R_elder' HO117.out (Kd.R_base ho0) hb); replace HO121 := Aside0.mk (Kd.R_elder' HO121.out (Kd.R_base ho0) hb); replace HB := Aside0.mk (below_step HB.out hb); clear hb ho0; obtain ⟨Ao14, co14, eo14⟩ := Kd.R_slice HO124.out; subst eo14) | ((with_reducible refine gate_callee (f := 58) rfl ?_); refine goesL_ (some 25) rfl rfl Tryz.func58 (by kernel_rfl) rfl #[.slice Ao11 t115.length co11, .slice Ao14 t122.length co14] rfl (by (try simp only [List.map_toArray, List.map_cons, List.map_nil]); rfl) ?_; (with_reducible refine (nat_Cmp.calls _ _ t115 _ _ t122 t125 _ ?side1 ?side2 ?side3 ?side4 A8.out).mono ?_); (case side1 => exact (Kd.R_reads' HO117.out).2.2); (case side2 => exact (Kd.R_reads' HO117.out).2.1); (case side3 => exact (Kd.R_reads' HO124.out).2.2); (case side4 => exact (Kd.R_reads' HO124.out).2.1); rintro e w' ⟨rfl, ⟨nd, rfl⟩⟩; refine ⟨_, rfl, ?_⟩))
   go_ret2
   exact ⟨_, by rfl, by (exact Kd.R_nil _ _ _ _ _), by repeat ((with_reducible first | exact HB.out | apply pw_below_drewN))⟩
  ·rw [if_neg c9] at H
   have c9b0 : (t125 == 0) = false := beq_eq_false_iff_ne.mpr c9
   have c9b1 : (t125 != 0) = true := bne_iff_ne.mpr c9
   by_cases c15 : 0 < (t115.length : Int)
   ·rw [if_pos c15] at H
    have c15b0 : decide (0 < (t115.length : Int)) = true := decide_eq_true c15
    have c15b1 : decide (0 < t115.length) = true := decide_eq_true (by omega)
    clear c15
    by_cases c16 : (Go.bits .and .u64 (rd t115 0) 1) = 1
    ·rw [if_pos c16] at H
     have c16b0 : ((Go.bits .and .u64 (rd t115 0) 1) == 1) = true := beq_iff_eq.mpr c16
     have c16b1 : ((Go.bits .and .u64 (rd t115 0) 1) != 1) = false := bne_eq_false_iff_eq.mpr c16
     clear c16
     replace H := Option.bind_eq_some_iff.mp H
     obtain ⟨t127, A170, H⟩ := H
     try dsimp only at H
     have A17 := Aside0.mk A170
     clear A170
     simp only [Option.some.injEq, Prod.mk.injEq] at H
     obtain ⟨rfl, rfl⟩ := H
     go_enter Tryz.func95, Tryz.ntmps95
     go_wp2_with (first | ((with_reducible refine gate_callee (f := 126) rfl ?_); refine goesL_ (some 13) rfl rfl Tryz.func126 (by kernel_rfl) rfl #[.slice A2 l2.length c2] rfl (by (try simp only [List.map_toArray, List.map_cons, List.map_nil]); rfl) ?_; (with_reducible refine (nat_Trim.calls _ _ l2 t115 _ ?side1 ?side2 A4.out).mono ?_); (case side1 => exact HR2.out); (case side2 => exact HC2.out); rintro e w18 ⟨v116, rfl, ho0, hb⟩; refine ⟨_, rfl, ?_⟩; have HO117 := Aside0.mk (Kd.R_lower ho0 (below_size HB.out)); replace HB := Aside0.mk (below_step HB.out hb); clear hb ho0; obtain ⟨Ao19, co19, eo19⟩ := Kd.R_slice HO117.out; subst eo19) | ((with_reducible refine gate_callee (f := 93) rfl ?_); refine goesL_ (some 17) rfl rfl Tryz.func93 (by kernel_rfl) rfl #[.slice A0 l0.length c0, .slice Ao19 t115.length co19] rfl (by (try simp only [List.map_toArray, List.map_cons, List.map_nil]); rfl) ?_; (with_reducible refine (modn_Mod.calls _ _ l0 _ _ t115 t118 t119 _ ?side1 ?side2 ?side3 ?side4 A5.out).mono ?_); (case side1 => exact (Kd.C_below HR0.out HB.out)); (case side2 => exact HC0.out); (case side3 => exact (Kd.R_reads' HO117.out).2.2); (case side4 => exact (Kd.R_reads' HO117.out).2.1); rintro e w20 ⟨v120, rfl, ho0, hb⟩; refine ⟨_, rfl, ?_⟩; have HO121 := Aside0.mk (Kd.R_lower (Kd.R_new' ho0 (Kd.R_lt HO117.out)) (below_size HB.out)); replace HO117 := Aside0.mk (Kd.R_elder' HO117.out (Kd.R_base ho0) hb); replace HB := Aside0.mk (below_step HB.out hb); clear hb ho0) | ((with_reducible refine gate_callee (f := 57) rfl ?_); refine goesL_ (some 24) rfl rfl Tryz.func57 (by kernel_rfl) rfl #[.int .u64 1] rfl (by (try simp only [List.map_toArray, List.map_cons, List.map_nil]); rfl) ?_; (with_reducible refine (nat_Of.calls 1 t122 _ A7.out).mono ?_); rintro e w21 ⟨v123, rfl, ho0, hb⟩; refine ⟨_, rfl, ?_⟩; have HO124 := Aside0.mk (Kd.R_lower (Kd.R_new' (Kd.R_new' ho0 (Kd.R_lt HO117.out)) (Kd.R_lt HO121.out)) (below_size HB.out)); replace HO117 := Aside0.mk (Kd.R_elder' HO117.out (Kd.R_base ho0) hb); replace HO121 := Aside0.mk (Kd.R_elder' HO121.out (Kd.R_base ho0) hb); replace HB := Aside0.mk (below_step HB.out hb); clear hb ho0; obtain ⟨Ao22, co22, eo22⟩ := Kd.R_slice HO124.out; subst eo22) | ((with_reducible refine gate_callee (f := 58) rfl ?_); refine goesL_ (some 25) rfl rfl Tryz.func58 (by kernel_rfl) rfl #[.slice Ao19 t115.length co19, .slice Ao22 t122.length co22] rfl (by (try simp only [List.map_toArray, List.map_cons, List.map_nil]); rfl) ?_; (with_reducible refine (nat_Cmp.calls _ _ t115 _ _ t122 t125 _ ?side1 ?side2 ?side3 ?side4 A8.out).mono ?_); (case side1 => exact (Kd.R_reads' HO117.out).2.2); (case side2 => exact (Kd.R_reads' HO117.out).2.1); (case side3 => exact (Kd.R_reads' HO124.out).2.2); (case side4 => exact (Kd.R_reads' HO124.out).2.1); rintro e w' ⟨rfl, ⟨nd, rfl⟩⟩; refine ⟨_, rfl, ?_⟩; have p126 : 0 ≤ (0 : Int) := (by omega); have q126 : 0 < (t115.length : Int) := of_decide_eq_true (by (with_reducible assumption)); obtain ⟨ad126, e126, hx126_0⟩ := Kd.at_int (Kd.R_reads' HO117.out).2.2 0 p126 q126; cases e126; have qi126 : (0 < t115.length) = True := eq_true (by omega); (try rw [show ((0 : Int)).toNat = 0 from rfl] at hx126_0); (try rw [Addr.add_zero'] at hx126_0); replace p126 := eq_true p126; replace q126 := eq_true q126; obtain ⟨Ao23, co23, eo23⟩ := Kd.R_slice HO121.out; subst eo23) | ((with_reducible refine gate_callee (f := 160) rfl ?_); refine goesL_ (some 35) rfl rfl Tryz.func160 (by kernel_rfl) rfl #[.slice Ao23 t118.length co23, .slice A1 l1.length c1, .slice (some ad126) t115.length co19] rfl (by (try simp only [List.map_toArray, List.map_cons, List.map_nil]); rfl) ?_; (with_reducible refine (modn_odd.calls _ _ t118 _ _ l1 _ _ t115 t127 _ ?side1 ?side2 ?side3 ?side4 ?side5 ?side6 A17.out).mono ?_); (case side1 => exact (Kd.R_reads' HO121.out).2.2); (case side2 => exact (Kd.R_reads' HO121.out).2.1); (case side3 => repeat ((exact (Kd.C_below HR1.out (by repeat ((with_reducible first | exact HB.out | apply pw_below_drewN))))))); (case side4 => exact HC1.out); (case side5 => exact (Kd.R_reads' HO117.out).2.2); (case side6 => exact (Kd.R_reads' HO117.out).2.1); rintro e w24 ⟨v128, rfl, ho0, hb⟩; refine ⟨_, rfl, ?_⟩; have HO129 := Aside0.mk (Kd.R_lower (Kd.R_new' (Kd.R_new' (Kd.R_new' ho0 (Kd.R_lt (by (with_reducible repeat ((apply Kd.R_drewN))); exact HO117.out))) (Kd.R_lt (by (with_reducible repeat ((apply Kd.R_drewN))); exact HO121.out))) (Kd.R_lt (by (with_reducible repeat ((apply Kd.R_drewN))); exact HO124.out))) (below_size (by repeat ((with_reducible first | exact HB.out | apply pw_below_drewN))))); replace HO117 := Aside0.mk (Kd.R_elder' (by (with_reducible repeat ((apply Kd.R_drewN))); exact HO117.out) (Kd.R_base ho0) hb); replace HO121 := Aside0.mk (Kd.R_elder' (by (with_reducible repeat ((apply Kd.R_drewN))); exact HO121.out) (Kd.R_base ho0) hb); replace HO124 := Aside0.mk (Kd.R_elder' (by (with_reducible repeat ((apply Kd.R_drewN))); exact HO124.out) (Kd.R_base ho0) hb); replace HB := Aside0.mk (below_step (by repeat ((with_reducible first | exact HB.out | apply pw_below_drewN))) hb); clear hb ho0))
     go_ret2
     exact ⟨_, by rfl, by exact Kd.R_mono HO129.out (fun _ hk => trivial), HB.out⟩
    ·rw [if_neg c16] at H
     have c16b0 : ((Go.bits .and .u64 (rd t115 0) 1) == 1) = false := beq_eq_false_iff_ne.mpr c16
     have c16b1 : ((Go.bits .and .u64 (rd t115 0) 1) != 1) = true := bne_iff_ne.mpr c16
     replace H := Option.bind_eq_some_iff.mp H
     obtain ⟨t130, A250, H⟩ := H
     try dsimp only at H
     have A25 := Aside0.mk A250
     clear A250
     replace H := Option.bind_eq_some_iff.mp H
     obtain ⟨t133, A260, H⟩ := H
     try dsimp only at H
     have A26 := Aside0.mk A260
     clear A260
     have H' := Aside0.mk H
     clear H
     go_enter Tryz.func95, Tryz.ntmps95
     go_wp2_with (first | ((with_reducible refine gate_callee (f := 126) rfl ?_); refine goesL_ (some 13) rfl rfl Tryz.func126 (by kernel_rfl) rfl #[.slice A2 l2.length c2] rfl (by (try simp only [List.map_toArray, List.map_cons, List.map_nil]); rfl) ?_; (with_reducible refine (nat_Trim.calls _ _ l2 t115 _ ?side1 ?side2 A4.out).mono ?_); (case side1 => exact HR2.out); (case side2 => exact HC2.out); rintro e w27 ⟨v116, rfl, ho0, hb⟩; refine ⟨_, rfl, ?_⟩; have HO117 := Aside0.mk (Kd.R_lower ho0 (below_size HB.out)); replace HB := Aside0.mk (below_step HB.out hb); clear hb ho0; obtain ⟨Ao28, co28, eo28⟩ := Kd.R_slice HO117.out; subst eo28) | ((with_reducible refine gate_callee (f := 93) rfl ?_); refine goesL_ (some 17) rfl rfl Tryz.func93 (by kernel_rfl) rfl #[.slice A0 l0.length c0, .slice Ao28 t115.length co28] rfl (by (try simp only [List.map_toArray, List.map_cons, List.map_nil]); rfl) ?_; (with_reducible refine (modn_Mod.calls _ _ l0 _ _ t115 t118 t119 _ ?side1 ?side2 ?side3 ?side4 A5.out).mono ?_); (case side1 => exact (Kd.C_below HR0.out HB.out)); (case side2 => exact HC0.out); (case side3 => exact (Kd.R_reads' HO117.out).2.2); (case side4 => exact (Kd.R_reads' HO117.out).2.1); rintro e w29 ⟨v120, rfl, ho0, hb⟩; refine ⟨_, rfl, ?_⟩; have HO121 := Aside0.mk (Kd.R_lower (Kd.R_new' ho0 (Kd.R_lt HO117.out)) (below_size HB.out)); replace HO117 := Aside0.mk (Kd.R_elder' HO117.out (Kd.R_base ho0) hb); replace HB := Aside0.mk (below_step HB.out hb); clear hb ho0) | ((with_reducible refine gate_callee (f := 57) rfl ?_); refine goesL_ (some 24) rfl rfl Tryz.func57 (by kernel_rfl) rfl #[.int .u64 1] rfl (by (try simp only [List.map_toArray, List.map_cons, List.map_nil]); rfl) ?_; (with_reducible refine (nat_Of.calls 1 t122 _ A7.out).mono ?_); rintro e w30 ⟨v123, rfl, ho0, hb⟩; refine ⟨_, rfl, ?_⟩; have HO124 := Aside0.mk (Kd.R_lower (Kd.R_new' (Kd.R_new' ho0 (Kd.R_lt HO117.out)) (Kd.R_lt HO121.out)) (below_size HB.out)); replace HO117 := Aside0.mk (Kd.R_elder' HO117.out (Kd.R_base ho0) hb); replace HO121 := Aside0.mk (Kd.R_elder' HO121.out (Kd.R_base ho0) hb); replace HB := Aside0.mk (below_step HB.out hb); clear hb ho0; obtain ⟨Ao31, co31, eo31⟩ := Kd.R_slice HO124.out; subst eo31) | ((with_reducible refine gate_callee (f := 58) rfl ?_); refine goesL_ (some 25) rfl rfl Tryz.func58 (by kernel_rfl) rfl #[.slice Ao28 t115.length co28, .slice Ao31 t122.length co31] rfl (by (try simp only [List.map_toArray, List.map_cons, List.map_nil]); rfl) ?_; (with_reducible refine (nat_Cmp.calls _ _ t115 _ _ t122 t125 _ ?side1 ?side2 ?side3 ?side4 A8.out).mono ?_); (case side1 => exact (Kd.R_reads' HO117.out).2.2); (case side2 => exact (Kd.R_reads' HO117.out).2.1); (case side3 => exact (Kd.R_reads' HO124.out).2.2); (case side4 => exact (Kd.R_reads' HO124.out).2.1); rintro e w' ⟨rfl, ⟨nd, rfl⟩⟩; refine ⟨_, rfl, ?_⟩; have p126 : 0 ≤ (0 : Int) := (by omega); have q126 : 0 < (t115.length : Int) := of_decide_eq_true (by (with_reducible assumption)); obtain ⟨ad126, e126, hx126_0⟩ := Kd.at_int (Kd.R_reads' HO117.out).2.2 0 p126 q126; cases e126; have qi126 : (0 < t115.length) = True := eq_true (by omega); (try rw [show ((0 : Int)).toNat = 0 from rfl] at hx126_0); (try rw [Addr.add_zero'] at hx126_0); replace p126 := eq_true p126; replace q126 := eq_true q126) | ((with_reducible refine gate_callee (f := 57) rfl ?_); refine goesL_ (some 36) rfl rfl Tryz.func57 (by kernel_rfl) rfl #[.int .u64 1] rfl (by (try simp only [List.map_toArray, List.map_cons, List.map_nil]); rfl) ?_; (with_reducible refine (nat_Of.calls 1 t130 _ A25.out).mono ?_); rintro e w32 ⟨v131, rfl, ho0, hb⟩; refine ⟨_, rfl, ?_⟩; have HO132 := Aside0.mk (Kd.R_lower (Kd.R_new' (Kd.R_new' (Kd.R_new' ho0 (Kd.R_lt (by (with_reducible repeat ((apply Kd.R_drewN))); exact HO117.out))) (Kd.R_lt (by (with_reducible repeat ((apply Kd.R_drewN))); exact HO121.out))) (Kd.R_lt (by (with_reducible repeat ((apply Kd.R_drewN))); exact HO124.out))) (below_size (by repeat ((with_reducible first | exact HB.out | apply pw_below_drewN))))); replace HO117 := Aside0.mk (Kd.R_elder' (by (with_reducible repeat ((apply Kd.R_drewN))); exact HO117.out) (Kd.R_base ho0) hb); replace HO121 := Aside0.mk (Kd.R_elder' (by (with_reducible repeat ((apply Kd.R_drewN))); exact HO121.out) (Kd.R_base ho0) hb); replace HO124 := Aside0.mk (Kd.R_elder' (by (with_reducible repeat ((apply Kd.R_drewN))); exact HO124.out) (Kd.R_base ho0) hb); replace HB := Aside0.mk (below_step (by repeat ((with_reducible first | exact HB.out | apply pw_below_drewN))) hb); clear hb ho0) | ((with_reducible refine gate_callee (f := 74) rfl ?_); refine goesL_ (some 38) rfl rfl Tryz.func74 (by kernel_rfl) rfl #[.slice A1 l1.length c1] rfl (by (try simp only [List.map_toArray, List.map_cons, List.map_nil]); rfl) ?_; (with_reducible refine (nat_Bits.calls _ _ l1 t133 _ ?side1 ?side2 A26.out).mono ?_); (case side1 => exact (Kd.C_below HR1.out HB.out)); (case side2 => exact HC1.out); rintro e w33 ⟨rfl, hb⟩; refine ⟨_, rfl, ?_⟩; replace HO117 := Aside0.mk (Kd.R_below HO117.out hb); replace HO121 := Aside0.mk (Kd.R_below HO121.out hb); replace HO124 := Aside0.mk (Kd.R_below HO124.out hb); replace HO132 := Aside0.mk (Kd.R_below HO132.out hb); replace HB := Aside0.mk (below_step HB.out hb); clear hb))
     go_loopg [10, 11] k (fun kq v10 v11 w' => ∃ (x10_1 : List Int) (x11_1 : Int), v11 = .int .i64 x11_1 ∧ Aside0 (modn_Pow.l0 kq l1 t115 t118 x10_1 x11_1 = some (r1, r2)) ∧ Aside0 (kq ≤ k) ∧ Aside0 (Kd.R (Kd.int .u64) 23 w' w.heap.size (fun k_ => some k_ ≠ (v120 : Value).ownBlock ∧ some k_ ≠ (v10 : Value).ownBlock) (.slice (some ad126) t115.length co28) t115) ∧ Aside0 (Kd.R (Kd.int .u64) 23 w' w.heap.size (fun k_ => some k_ ≠ ((.slice (some ad126) t115.length co28) : Value).ownBlock ∧ some k_ ≠ (v10 : Value).ownBlock) v120 t118) ∧ Aside0 (Kd.R (Kd.int .u64) 23 w' w.heap.size (fun k_ => some k_ ≠ ((.slice (some ad126) t115.length co28) : Value).ownBlock ∧ some k_ ≠ (v120 : Value).ownBlock) v10 x10_1) ∧ Aside0 (Below w.heap.size w w'))
     case atStart => exact ⟨(t130), (wrap64 (t133 - 1)), (by rfl), H', ⟨Nat.le_refl _⟩, ⟨by exact Kd.R_mono HO117.out (fun _ hk => by (exact ⟨hk.1.1.2, hk.2⟩))⟩, ⟨by exact Kd.R_mono HO121.out (fun _ hk => by (exact ⟨hk.1.1.2, hk.2⟩))⟩, ⟨by exact Kd.R_mono HO132.out (fun _ hk => by (exact ⟨hk.1.1.2, hk.1.2⟩))⟩, ⟨HB.out⟩⟩
     case round =>
      clear H'
      try clear c1
      try clear p1
      try clear q1
      try clear hx1
      try clear qi1
      try clear c2
      try clear p2
      try clear c5
      try clear c6
      try clear c6b0
      try clear c6b1
      try clear p6
      try clear c7
      try clear c9
      try clear c9b0
      try clear c9b1
      try clear c12
      try clear p12
      try clear q12
      try clear hx12
      try clear qi12
      try clear c15
      try clear c15b0
      try clear c15b1
      try clear c16
      try clear c16b0
      try clear c16b1
      try clear hx126_0
      try clear p126
      try clear q126
      obtain ⟨x10_1, x11_1, rfl, HA, HK1, HO_2, HO_8, HO_10, HB⟩ := hrel
      cases gk with
      | zero => exact absurd HA.out (by simp [modn_Pow.l0])
      | succ k1 =>
       have H := HA.out
       clear HA
       simp only [modn_Pow.l0] at H
       by_cases c34 : x11_1 ≥ 0
       ·rw [if_pos c34] at H
        have c34b0 : decide (0 ≤ x11_1) = true := decide_eq_true c34
        clear c34
        replace H := Option.bind_eq_some_iff.mp H
        obtain ⟨⟨t134, t135⟩, A350, H⟩ := H
        try dsimp only at H
        have A35 := Aside0.mk A350
        clear A350
        replace H := Option.bind_eq_some_iff.mp H
        obtain ⟨t138, A360, H⟩ := H
        try dsimp only at H
        have A36 := Aside0.mk A360
        clear A360
        by_cases c37 : t138 = 1
        ·rw [if_pos c37] at H
         have c37b0 : (t138 == 1) = true := beq_iff_eq.mpr c37
         have c37b1 : (t138 != 1) = false := bne_eq_false_iff_eq.mpr c37
         clear c37
         replace H := Option.bind_eq_some_iff.mp H
         obtain ⟨⟨t139, t140⟩, A380, H⟩ := H
         try dsimp only at H
         have A38 := Aside0.mk A380
         clear A380
         have H' := Aside0.mk H
         clear H
         obtain ⟨Ao39, co39, eo39⟩ := Kd.R_slice HO_10.out
         subst eo39
         go_wp2_with (first | ((with_reducible refine gate_callee (f := 103) rfl ?_); refine goesL_ (some 48) rfl rfl Tryz.func103 (by kernel_rfl) rfl #[.slice Ao39 x10_1.length co39, .slice Ao39 x10_1.length co39, .slice (some ad126) t115.length co28] rfl (by (try simp only [List.map_toArray, List.map_cons, List.map_nil]); rfl) ?_; (with_reducible refine (modn_Mul.calls _ _ x10_1 _ _ x10_1 _ _ t115 t134 t135 _ ?side1 ?side2 ?side3 ?side4 ?side5 ?side6 A35.out).mono ?_); (case side1 => exact (Kd.R_reads' HO_10.out).2.2); (case side2 => exact (Kd.R_reads' HO_10.out).2.1); (case side3 => exact (Kd.R_reads' HO_10.out).2.2); (case side4 => exact (Kd.R_reads' HO_10.out).2.1); (case side5 => exact (Kd.R_reads' HO_2.out).2.2); (case side6 => exact (Kd.R_reads' HO_2.out).2.1); rintro e w40 ⟨v136, rfl, ho0, hb⟩; refine ⟨_, rfl, ?_⟩; have HO137 := Aside0.mk (Kd.R_lower (Kd.R_new' (Kd.R_new' (Kd.R_new' ho0 (Kd.R_lt HO_2.out)) (Kd.R_lt HO_8.out)) (Kd.R_lt HO_10.out)) (below_size HB.out)); replace HO_2 := Aside0.mk (Kd.R_elder' HO_2.out (Kd.R_base ho0) hb); replace HO_8 := Aside0.mk (Kd.R_elder' HO_8.out (Kd.R_base ho0) hb); replace HO_10 := Aside0.mk (Kd.R_elder' HO_10.out (Kd.R_base ho0) hb); replace HB := Aside0.mk (below_step HB.out hb); clear hb ho0) | ((with_reducible refine gate_callee (f := 133) rfl ?_); refine goesL_ (some 53) rfl rfl Tryz.func133 (by kernel_rfl) rfl #[.slice A1 l1.length c1, .int .i64 x11_1] rfl (by (try simp only [List.map_toArray, List.map_cons, List.map_nil]); rfl) ?_; (with_reducible refine (nat_Bit.calls _ _ l1 x11_1 t138 _ ?side1 ?side2 A36.out).mono ?_); (case side1 => exact (Kd.C_below HR1.out HB.out)); (case side2 => exact HC1.out); rintro e w' ⟨rfl, ⟨nd, rfl⟩⟩; refine ⟨_, rfl, ?_⟩; obtain ⟨Ao41, co41, eo41⟩ := Kd.R_slice HO137.out; subst eo41; obtain ⟨Ao42, co42, eo42⟩ := Kd.R_slice HO_8.out; subst eo42) | ((with_reducible refine gate_callee (f := 103) rfl ?_); refine goesL_ (some 59) rfl rfl Tryz.func103 (by kernel_rfl) rfl #[.slice Ao41 t134.length co41, .slice Ao42 t118.length co42, .slice (some ad126) t115.length co28] rfl (by (try simp only [List.map_toArray, List.map_cons, List.map_nil]); rfl) ?_; (with_reducible refine (modn_Mul.calls _ _ t134 _ _ t118 _ _ t115 t139 t140 _ ?side1 ?side2 ?side3 ?side4 ?side5 ?side6 A38.out).mono ?_); (case side1 => exact (Kd.R_reads' HO137.out).2.2); (case side2 => exact (Kd.R_reads' HO137.out).2.1); (case side3 => exact (Kd.R_reads' HO_8.out).2.2); (case side4 => exact (Kd.R_reads' HO_8.out).2.1); (case side5 => exact (Kd.R_reads' HO_2.out).2.2); (case side6 => exact (Kd.R_reads' HO_2.out).2.1); rintro e w43 ⟨v141, rfl, ho0, hb⟩; refine ⟨_, rfl, ?_⟩; have HO142 := Aside0.mk (Kd.R_lower (Kd.R_new' (Kd.R_new' (Kd.R_new' (Kd.R_new' ho0 (Kd.R_lt (by (with_reducible repeat ((apply Kd.R_drewN))); exact HO_2.out))) (Kd.R_lt (by (with_reducible repeat ((apply Kd.R_drewN))); exact HO_8.out))) (Kd.R_lt (by (with_reducible repeat ((apply Kd.R_drewN))); exact HO_10.out))) (Kd.R_lt (by (with_reducible repeat ((apply Kd.R_drewN))); exact HO137.out))) (below_size (by repeat ((with_reducible first | exact HB.out | apply pw_below_drewN))))); replace HO_2 := Aside0.mk (Kd.R_elder' (by (with_reducible repeat ((apply Kd.R_drewN))); exact HO_2.out) (Kd.R_base ho0) hb); replace HO_8 := Aside0.mk (Kd.R_elder' (by (with_reducible repeat ((apply Kd.R_drewN))); exact HO_8.out) (Kd.R_base ho0) hb); replace HO_10 := Aside0.mk (Kd.R_elder' (by (with_reducible repeat ((apply Kd.R_drewN))); exact HO_10.out) (Kd.R_base ho0) hb); replace HO137 := Aside0.mk (Kd.R_elder' (by (with_reducible repeat ((apply Kd.R_drewN))); exact HO137.out) (Kd.R_base ho0) hb); replace HB := Aside0.mk (below_step (by repeat ((with_reducible first | exact HB.out | apply pw_below_drewN))) hb); clear hb ho0))
         go_roundg k1
         case measure => have := HK1.out; omega
         case rel => exact ⟨(t139), (wrap64 (x11_1 - 1)), (by rfl), H', ⟨by have := HK1.out; omega⟩, ⟨by exact Kd.R_mono HO_2.out (fun _ hk => by (exact ⟨hk.1.1.1, hk.2⟩))⟩, ⟨by exact Kd.R_mono HO_8.out (fun _ hk => by (exact ⟨hk.1.1.1, hk.2⟩))⟩, ⟨by exact Kd.R_mono HO142.out (fun _ hk => by (exact ⟨hk.1.1.1.2, hk.1.1.2⟩))⟩, ⟨HB.out⟩⟩
        ·rw [if_neg c37] at H
         have c37b0 : (t138 == 1) = false := beq_eq_false_iff_ne.mpr c37
         have c37b1 : (t138 != 1) = true := bne_iff_ne.mpr c37
         have H' := Aside0.mk H
         clear H
         obtain ⟨Ao44, co44, eo44⟩ := Kd.R_slice HO_10.out
         subst eo44
         go_wp2_with (first | ((with_reducible refine gate_callee (f := 103) rfl ?_); refine goesL_ (some 48) rfl rfl Tryz.func103 (by kernel_rfl) rfl #[.slice Ao44 x10_1.length co44, .slice Ao44 x10_1.length co44, .slice (some ad126) t115.length co28] rfl (by (try simp only [List.map_toArray, List.map_cons, List.map_nil]); rfl) ?_; (with_reducible refine (modn_Mul.calls _ _ x10_1 _ _ x10_1 _ _ t115 t134 t135 _ ?side1 ?side2 ?side3 ?side4 ?side5 ?side6 A35.out).mono ?_); (case side1 => exact (Kd.R_reads' HO_10.out).2.2); (case side2 => exact (Kd.R_reads' HO_10.out).2.1); (case side3 => exact (Kd.R_reads' HO_10.out).2.2); (case side4 => exact (Kd.R_reads' HO_10.out).2.1); (case side5 => exact (Kd.R_reads' HO_2.out).2.2); (case side6 => exact (Kd.R_reads' HO_2.out).2.1); rintro e w45 ⟨v136, rfl, ho0, hb⟩; refine ⟨_, rfl, ?_⟩; have HO137 := Aside0.mk (Kd.R_lower (Kd.R_new' (Kd.R_new' (Kd.R_new' ho0 (Kd.R_lt HO_2.out)) (Kd.R_lt HO_8.out)) (Kd.R_lt HO_10.out)) (below_size HB.out)); replace HO_2 := Aside0.mk (Kd.R_elder' HO_2.out (Kd.R_base ho0) hb); replace HO_8 := Aside0.mk (Kd.R_elder' HO_8.out (Kd.R_base ho0) hb); replace HO_10 := Aside0.mk (Kd.R_elder' HO_10.out (Kd.R_base ho0) hb); replace HB := Aside0.mk (below_step HB.out hb); clear hb ho0) | ((with_reducible refine gate_callee (f := 133) rfl ?_); refine goesL_ (some 53) rfl rfl Tryz.func133 (by kernel_rfl) rfl #[.slice A1 l1.length c1, .int .i64 x11_1] rfl (by (try simp only [List.map_toArray, List.map_cons, List.map_nil]); rfl) ?_; (with_reducible refine (nat_Bit.calls _ _ l1 x11_1 t138 _ ?side1 ?side2 A36.out).mono ?_); (case side1 => exact (Kd.C_below HR1.out HB.out)); (case side2 => exact HC1.out); rintro e w' ⟨rfl, ⟨nd, rfl⟩⟩; refine ⟨_, rfl, ?_⟩))
         go_roundg k1
         case measure => have := HK1.out; omega
         case rel => exact ⟨(t134), (wrap64 (x11_1 - 1)), (by rfl), H', ⟨by have := HK1.out; omega⟩, ⟨by (with_reducible repeat ((apply Kd.R_drewN))); exact Kd.R_mono HO_2.out (fun _ hk => by (exact ⟨hk.1.1, hk.2⟩))⟩, ⟨by (with_reducible repeat ((apply Kd.R_drewN))); exact Kd.R_mono HO_8.out (fun _ hk => by (exact ⟨hk.1.1, hk.2⟩))⟩, ⟨by (with_reducible repeat ((apply Kd.R_drewN))); exact Kd.R_mono HO137.out (fun _ hk => by (exact ⟨hk.1.1.2, hk.1.2⟩))⟩, ⟨by repeat ((with_reducible first | exact HB.out | apply pw_below_drewN))⟩⟩
       ·rw [if_neg c34] at H
        have c34b0 : decide (0 ≤ x11_1) = false := decide_eq_false c34
        clear c34
        simp only [Option.some.injEq, Prod.mk.injEq] at H
        obtain ⟨rfl, rfl⟩ := H
        go_wp2
        go_ret2
        exact ⟨_, by rfl, by exact Kd.R_mono HO_10.out (fun _ hk => trivial), HB.out⟩
   ·rw [if_neg c15] at H
    exact absurd H (by simp)
 ·rw [if_neg c6] at H
  have c6b0 : (t119 == 0) = false := beq_eq_false_iff_ne.mpr c6
  have c6b1 : (t119 != 0) = true := bne_iff_ne.mpr c6
  simp only [Option.some.injEq, Prod.mk.injEq] at H
  obtain ⟨rfl, rfl⟩ := H
  go_enter Tryz.func95, Tryz.ntmps95
  go_wp2_with (first | ((with_reducible refine gate_callee (f := 126) rfl ?_); refine goesL_ (some 13) rfl rfl Tryz.func126 (by kernel_rfl) rfl #[.slice A2 l2.length c2] rfl (by (try simp only [List.map_toArray, List.map_cons, List.map_nil]); rfl) ?_; (with_reducible refine (nat_Trim.calls _ _ l2 t115 _ ?side1 ?side2 A4.out).mono ?_); (case side1 => exact HR2.out); (case side2 => exact HC2.out); rintro e w46 ⟨v116, rfl, ho0, hb⟩; refine ⟨_, rfl, ?_⟩; have HO117 := Aside0.mk (Kd.R_lower ho0 (below_size HB.out)); replace HB := Aside0.mk (below_step HB.out hb); clear hb ho0; obtain ⟨Ao47, co47, eo47⟩ := Kd.R_slice HO117.out; subst eo47) | ((with_reducible refine gate_callee (f := 93) rfl ?_); refine goesL_ (some 17) rfl rfl Tryz.func93 (by kernel_rfl) rfl #[.slice A0 l0.length c0, .slice Ao47 t115.length co47] rfl (by (try simp only [List.map_toArray, List.map_cons, List.map_nil]); rfl) ?_; (with_reducible refine (modn_Mod.calls _ _ l0 _ _ t115 t118 t119 _ ?side1 ?side2 ?side3 ?side4 A5.out).mono ?_); (case side1 => exact (Kd.C_below HR0.out HB.out)); (case side2 => exact HC0.out); (case side3 => exact (Kd.R_reads' HO117.out).2.2); (case side4 => exact (Kd.R_reads' HO117.out).2.1); rintro e w48 ⟨v120, rfl, ho0, hb⟩; refine ⟨_, rfl, ?_⟩; have HO121 := Aside0.mk (Kd.R_lower (Kd.R_new' ho0 (Kd.R_lt HO117.out)) (below_size HB.out)); replace HO117 := Aside0.mk (Kd.R_elder' HO117.out (Kd.R_base ho0) hb); replace HB := Aside0.mk (below_step HB.out hb); clear hb ho0))
  go_ret2
  exact ⟨_, by rfl, by (exact Kd.R_nil _ _ _ _ _), HB.out⟩
def modn_zero.f (l0 : List Int) : Option (Bool) := (nat_Bits.f l0).bind fun t143 => (some (t143 == 0))
set_option maxHeartbeats 8000000 in
set_option maxRecDepth 100000 in
theorem modn_zero.calls (A0 : Option Addr) (c0 : Nat) (l0 : List Int) (r : Bool) (w : World) (hr0 : Kd.C (Kd.int .u64) w A0 l0.length l0) (hc0 : l0.length ≤ c0) (h : modn_zero.f l0 = some r) :
  Calls Tryz.prog 131 #[.slice A0 l0.length c0] w fun e w' => e = .returned (.bool r) ∧ Below w.heap.size w w' := by
 have HR0 := Aside0.mk hr0
 have HC0 := Aside0.mk hc0
 clear hr0 hc0
 have HB := Aside0.mk (Below.refl w.heap.size w)
 have H : ((nat_Bits.f l0).bind fun t143 => (some (t143 == 0))) = some r := h
 clear h
 replace H := Option.bind_eq_some_iff.mp H
 obtain ⟨t143, A20, H⟩ := H
 try dsimp only at H
 have A2 := Aside0.mk A20
 clear A20
 obtain rfl := Option.some.inj H
 simp only [Option.some.injEq, Prod.mk.injEq] at H
 obtain ⟨rfl⟩ := H
 go_enter Tryz.func131, Tryz.ntmps131
 go_wp2_with ((((with_reducible refine gate_callee (f := 74) rfl ?_); refine goesL_ (some 4) rfl rfl Tryz.func74 (by kernel_rfl) rfl #[.slice A0 l0.length c0] rfl (by (try simp only [List.map_toArray, List.map_cons, List.map_nil]); rfl) ?_; (with_reducible refine (nat_Bits.calls _ _ l0 t143 _ ?side1 ?side2 A2.out).mono ?_); (case side1 => exact HR0.out); (case side2 => exact HC0.out); rintro e w3 ⟨rfl, hb⟩; refine ⟨_, rfl, ?_⟩; replace HB := Aside0.mk (below_step HB.out hb); clear hb)))
 go_ret
 exact ⟨by rfl, HB.out⟩
def nat_Sub.f (l0 : List Int) (l1 : List Int) : Option (List Int × Int) := if okN 262144 l0 ∧ okN 262144 l1 then some (ofN (nI l0 - nI l1), (if nI l0 < nI l1 then 10 else 0 : Int)) else none
theorem nat_Sub.calls (A0 : Option Addr) (c0 : Nat) (l0 : List Int) (A1 : Option Addr) (c1 : Nat) (l1 : List Int) (r1 : List Int) (r2 : Int) (w : World) (hr0 : Kd.C (Kd.int .u64) w A0 l0.length l0) (hc0 : l0.length ≤ c0) (hr1 : Kd.C (Kd.int .u64) w A1 l1.length l1) (hc1 : l1.length ≤ c1) (h : nat_Sub.f l0 l1 = some (r1, r2)) :
  Calls Tryz.prog 94 #[.slice A0 l0.length c0, .slice A1 l1.length c1] w fun e w' => ∃ v0_ : Value, e = .returned (.tuple #[v0_, .int .i64 r2]) ∧ Kd.R (Kd.int .u64) 23 w' w.heap.size (fun _ => True) v0_ r1 ∧ Below w.heap.size w w' := by
 exact sub_giv hr0 hc0 hr1 hc1 h
def nat_Add.f (l0 : List Int) (l1 : List Int) : Option (List Int) := if okN 262144 l0 ∧ okN 262144 l1 then some (ofN (nI l0 + nI l1)) else none
theorem nat_Add.calls (A0 : Option Addr) (c0 : Nat) (l0 : List Int) (A1 : Option Addr) (c1 : Nat) (l1 : List Int) (r : List Int) (w : World) (hr0 : Kd.C (Kd.int .u64) w A0 l0.length l0) (hc0 : l0.length ≤ c0) (hr1 : Kd.C (Kd.int .u64) w A1 l1.length l1) (hc1 : l1.length ≤ c1) (h : nat_Add.f l0 l1 = some r) :
  Calls Tryz.prog 99 #[.slice A0 l0.length c0, .slice A1 l1.length c1] w fun e w' => ∃ v0_ : Value, e = .returned (v0_) ∧ Kd.R (Kd.int .u64) 23 w' w.heap.size (fun _ => True) v0_ r ∧ Below w.heap.size w w' := by
 exact add_giv hr0 hc0 hr1 hc1 h
def modn_minus.f (l0 : List Int) (l1 : List Int) (l2 : List Int) : Option (List Int) := (nat_Sub.f l0 l1).bind fun bt155 => (if bt155.2 = 0 then (some bt155.1) else ((nat_Add.f l0 l2).bind fun t159 => ((nat_Sub.f t159 l1).bind fun bt162 => (some bt162.1))))
set_option maxHeartbeats 8000000 in
set_option maxRecDepth 100000 in
theorem modn_minus.calls (A0 : Option Addr) (c0 : Nat) (l0 : List Int) (A1 : Option Addr) (c1 : Nat) (l1 : List Int) (A2 : Option Addr) (c2 : Nat) (l2 : List Int) (r : List Int) (w : World) (hr0 : Kd.C (Kd.int .u64) w A0 l0.length l0) (hc0 : l0.length ≤ c0) (hr1 : Kd.C (Kd.int .u64) w A1 l1.length l1) (hc1 : l1.length ≤ c1) (hr2 : Kd.C (Kd.int .u64) w A2 l2.length l2) (hc2 : l2.length ≤ c2) (h : modn_minus.f l0 l1 l2 = some r) :
  Calls Tryz.prog 132 #[.slice A0 l0.length c0, .slice A1 l1.length c1, .slice A2 l2.length c2] w fun e w' => ∃ v0_ : Value, e = .returned (v0_) ∧ Kd.R (Kd.int .u64) 23 w' w.heap.size (fun _ => True) v0_ r ∧ Below w.heap.size w w' := by
 have HR0 := Aside0.mk hr0
 have HC0 := Aside0.mk hc0
 clear hr0 hc0
 have HR1 := Aside0.mk hr1
 have HC1 := Aside0.mk hc1
 clear hr1 hc1
 have HR2 := Aside0.mk hr2
 have HC2 := Aside0.mk hc2
 clear hr2 hc2
 have HB := Aside0.mk (Below.refl w.heap.size w)
 have H : ((nat_Sub.f l0 l1).bind fun bt155 => (if bt155.2 = 0 then (some bt155.1) else ((nat_Add.f l0 l2).bind fun t159 => ((nat_Sub.f t159 l1).bind fun bt162 => (some bt162.1))))) = some r := h
 clear h
 replace H := Option.bind_eq_some_iff.mp H
 obtain ⟨⟨t155, t156⟩, A40, H⟩ := H
 try dsimp only at H
 have A4 := Aside0.mk A40
 clear A40
 by_cases c5 : t156 = 0
 ·rw [if_pos c5] at H
  have c5b0 : (t156 == 0) = true := beq_iff_eq.mpr c5
  have c5b1 : (t156 != 0) = false := bne_eq_false_iff_eq.mpr c5
  clear c5
  obtain rfl := Option.some.inj H
  simp only [Option.some.injEq, Prod.mk.injEq] at H
  obtain ⟨rfl⟩ := H
  go_enter Tryz.func132, Tryz.ntmps132
  go_wp2_with ((((with_reducible refine gate_callee (f := 94) rfl ?_); refine goesL_ (some 14) rfl rfl Tryz.func94 (by kernel_rfl) rfl #[.slice A0 l0.length c0, .slice A1 l1.length c1] rfl (by (try simp only [List.map_toArray, List.map_cons, List.map_nil]); rfl) ?_; (with_reducible refine (nat_Sub.calls _ _ l0 _ _ l1 t155 t156 _ ?side1 ?side2 ?side3 ?side4 A4.out).mono ?_); (case side1 => exact HR0.out); (case side2 => exact HC0.out); (case side3 => exact HR1.out); (case side4 => exact HC1.out); rintro e w6 ⟨v157, rfl, ho0, hb⟩; refine ⟨_, rfl, ?_⟩; have HO158 := Aside0.mk (Kd.R_lower ho0 (below_size HB.out)); replace HB := Aside0.mk (below_step HB.out hb); clear hb ho0)))
  go_ret
  exact ⟨_, by rfl, by exact HO158.out, HB.out⟩
 ·rw [if_neg c5] at H
  have c5b0 : (t156 == 0) = false := beq_eq_false_iff_ne.mpr c5
  have c5b1 : (t156 != 0) = true := bne_iff_ne.mpr c5
  replace H := Option.bind_eq_some_iff.mp H
  obtain ⟨t159, A70, H⟩ := H
  try dsimp only at H
  have A7 := Aside0.mk A70
  clear A70
  replace H := Option.bind_eq_some_iff.mp H
  obtain ⟨⟨t162, t163⟩, A80, H⟩ := H
  try dsimp only at H
  have A8 := Aside0.mk A80
  clear A80
  obtain rfl := Option.some.inj H
  simp only [Option.some.injEq, Prod.mk.injEq] at H
  obtain ⟨rfl⟩ := H
  go_enter Tryz.func132, Tryz.ntmps132
  go_wp2_with (first | ((with_reducible refine gate_callee (f := 94) rfl ?_); refine goesL_ (some 14) rfl rfl Tryz.func94 (by kernel_rfl) rfl #[.slice A0 l0.length c0, .slice A1 l1.length c1] rfl (by (try simp only [List.map_toArray, List.map_cons, List.map_nil]); rfl) ?_; (with_reducible refine (nat_Sub.calls _ _ l0 _ _ l1 t155 t156 _ ?side1 ?side2 ?side3 ?side4 A4.out).mono ?_); (case side1 => exact HR0.out); (case side2 => exact HC0.out); (case side3 => exact HR1.out); (case side4 => exact HC1.out); rintro e w9 ⟨v157, rfl, ho0, hb⟩; refine ⟨_, rfl, ?_⟩; have HO158 := Aside0.mk (Kd.R_lower ho0 (below_size HB.out)); replace HB := Aside0.mk (below_step HB.out hb); clear hb ho0) | ((with_reducible refine gate_callee (f := 99) rfl ?_); refine goesL_ (some 23) rfl rfl Tryz.func99 (by kernel_rfl) rfl #[.slice A0 l0.length c0, .slice A2 l2.length c2] rfl (by (try simp only [List.map_toArray, List.map_cons, List.map_nil]); rfl) ?_; (with_reducible refine (nat_Add.calls _ _ l0 _ _ l2 t159 _ ?side1 ?side2 ?side3 ?side4 A7.out).mono ?_); (case side1 => exact (Kd.C_below HR0.out HB.out)); (case side2 => exact HC0.out); (case side3 => exact (Kd.C_below HR2.out HB.out)); (case side4 => exact HC2.out); rintro e w10 ⟨v160, rfl, ho0, hb⟩; refine ⟨_, rfl, ?_⟩; have HO161 := Aside0.mk (Kd.R_lower (Kd.R_new' ho0 (Kd.R_lt HO158.out)) (below_size HB.out)); replace HO158 := Aside0.mk (Kd.R_elder' HO158.out (Kd.R_base ho0) hb); replace HB := Aside0.mk (below_step HB.out hb); clear hb ho0; obtain ⟨Ao11, co11, eo11⟩ := Kd.R_slice HO161.out; subst eo11) | ((with_reducible refine gate_callee (f := 94) rfl ?_); refine goesL_ (some 25) rfl rfl Tryz.func94 (by kernel_rfl) rfl #[.slice Ao11 t159.length co11, .slice A1 l1.length c1] rfl (by (try simp only [List.map_toArray, List.map_cons, List.map_nil]); rfl) ?_; (with_reducible refine (nat_Sub.calls _ _ t159 _ _ l1 t162 t163 _ ?side1 ?side2 ?side3 ?side4 A8.out).mono ?_); (case side1 => exact (Kd.R_reads' HO161.out).2.2); (case side2 => exact (Kd.R_reads' HO161.out).2.1); (case side3 => exact (Kd.C_below HR1.out HB.out)); (case side4 => exact HC1.out); rintro e w12 ⟨v164, rfl, ho0, hb⟩; refine ⟨_, rfl, ?_⟩; have HO165 := Aside0.mk (Kd.R_lower (Kd.R_new' (Kd.R_new' ho0 (Kd.R_lt HO158.out)) (Kd.R_lt HO161.out)) (below_size HB.out)); replace HO158 := Aside0.mk (Kd.R_elder' HO158.out (Kd.R_base ho0) hb); replace HO161 := Aside0.mk (Kd.R_elder' HO161.out (Kd.R_base ho0) hb); replace HB := Aside0.mk (below_step HB.out hb); clear hb ho0))
  go_ret
  exact ⟨_, by rfl, by exact Kd.R_mono HO165.out (fun _ hk => trivial), HB.out⟩
def modn_Inverse.l0 : Nat → List Int → List Int → List Int → List Int → List Int → Option (List Int × Int)
 | 0, _, _, _, _, _ => none
 | k + 1, x1, x6, x8, x9, x10 => (modn_zero.f x6).bind fun t181 => (if t181 = true then ((nat_Of.f 1).bind fun t196 => ((nat_Cmp.f x8 t196).bind fun t199 => (if t199 = 0 then (some (x10, 0)) else (some (([] : List Int), 30))))) else ((nat_Div.f x8 x6).bind fun bt182 => ((modn_Mul.f bt182.1 x9 x1).bind fun bt189 => ((modn_minus.f x10 bt189.1 x1).bind fun t193 => (modn_Inverse.l0 k x1 bt182.2.1 x6 t193 x9)))))
def modn_Inverse.f (k : Nat) (l0 : List Int) (l1 : List Int) : Option (List Int × Int) := (modn_zero.f l1).bind fun t166 => (if t166 = true then (some (([] : List Int), 11)) else ((nat_Trim.f l1).bind fun t167 => ((modn_Mod.f l0 t167).bind fun bt170 => ((nat_Of.f 1).bind fun t174 => ((modn_Mod.f t174 t167).bind fun bt177 => (modn_Inverse.l0 k t167 bt170.1 t167 bt177.1 ([] : List Int)))))))
set_option maxHeartbeats 8000000 in
set_option maxRecDepth 100000 in
theorem modn_Inverse.calls (k : Nat) (A0 : Option Addr) (c0 : Nat) (l0 : List Int) (A1 : Option Addr) (c1 : Nat) (l1 : List Int) (r1 : List Int) (r2 : Int) (w : World) (hr0 : Kd.C (Kd.int .u64) w A0 l0.length l0) (hc0 : l0.length ≤ c0) (hr1 : Kd.C (Kd.int .u64) w A1 l1.length l1) (hc1 : l1.length ≤ c1) (h : modn_Inverse.f k l0 l1 = some (r1, r2)) :
  Calls Tryz.prog 63 #[.slice A0 l0.length c0, .slice A1 l1.length c1] w fun e w' => ∃ v0_ : Value, e = .returned (.tuple #[v0_, .int .i64 r2]) ∧ Kd.R (Kd.int .u64) 23 w' w.heap.size (fun _ => True) v0_ r1 ∧ Below w.heap.size w w' := by
 have HR0 := Aside0.mk hr0
 have HC0 := Aside0.mk hc0
 clear hr0 hc0
 have HR1 := Aside0.mk hr1
 have HC1 := Aside0.mk hc1
 clear hr1 hc1
 have HB := Aside0.mk (Below.refl w.heap.size w)
 have H : ((modn_zero.f l1).bind fun t166 => (if t166 = true then (some (([] : List Int), 11)) else ((nat_Trim.f l1).bind fun t167 => ((modn_Mod.f l0 t167).bind fun bt170 => ((nat_Of.f 1).bind fun t174 => ((modn_Mod.f t174 t167).bind fun bt177 => (modn_Inverse.l0 k t167 bt170.1 t167 bt177.1 ([] : List Int)))))))) = some (r1, r2) := h
 clear h
 replace H := Option.bind_eq_some_iff.mp H
 obtain ⟨t166, A30, H⟩ := H
 try dsimp only at H
 have A3 := Aside0.mk A30
 clear A30
 by_cases c4 : t166 = true
 ·subst c4
  rw [if_pos rfl] at H
  simp only [Option.some.injEq, Prod.mk.injEq] at H
  obtain ⟨rfl, rfl⟩ := H
  go_enter Tryz.func63, Tryz.ntmps63
  go_wp2_with ((((with_reducible refine gate_callee (f := 131) rfl ?_); refine goesL_ (some 17) rfl rfl Tryz.func131 (by kernel_rfl) rfl #[.slice A1 l1.length c1] rfl (by (try simp only [List.map_toArray, List.map_cons, List.map_nil]); rfl) ?_; (with_reducible refine (modn_zero.calls _ _ l1 true _ ?side1 ?side2 A3.out).mono ?_); (case side1 => exact HR1.out); (case side2 => exact HC1.out); rintro e w5 ⟨rfl, hb⟩; refine ⟨_, rfl, ?_⟩; replace HB := Aside0.mk (below_step HB.out hb); clear hb)))
  go_ret2
  exact ⟨_, by rfl, by (exact Kd.R_nil _ _ _ _ _), HB.out⟩
 ·replace c4 := Bool.eq_false_iff.mpr c4
  subst c4
  rw [if_neg (show ¬ (false = true) by decide)] at H
  replace H := Option.bind_eq_some_iff.mp H
  obtain ⟨t167, A60, H⟩ := H
  try dsimp only at H
  have A6 := Aside0.mk A60
  clear A60
  replace H := Option.bind_eq_some_iff.mp H
  obtain ⟨⟨t170, t171⟩, A70, H⟩ := H
  try dsimp only at H
  have A7 := Aside0.mk A70
  clear A70
  replace H := Option.bind_eq_some_iff.mp H
  obtain ⟨t174, A80, H⟩ := H
  try dsimp only at H
  have A8 := Aside0.mk A80
  clear A80
  replace H := Option.bind_eq_some_iff.mp H
  obtain ⟨⟨t177, t178⟩, A90, H⟩ := H
  try dsimp only at H
  have A9 := Aside0.mk A90
  clear A90
  have H' := Aside0.mk H
  clear H
  go_enter Tryz.func63, Tryz.ntmps63
  go_wp2_with (first | ((with_reducible refine gate_callee (f := 131) rfl ?_); refine goesL_ (some 17) rfl rfl Tryz.func131 (by kernel_rfl) rfl #[.slice A1 l1.length c1] rfl (by (try simp only [List.map_toArray, List.map_cons, List.map_nil]); rfl) ?_; (with_reducible refine (modn_zero.calls _ _ l1 false _ ?side1 ?side2 A3.out).mono ?_); (case side1 => exact HR1.out); (case side2 => exact HC1.out); rintro e w10 ⟨rfl, hb⟩; refine ⟨_, rfl, ?_⟩; replace HB := Aside0.mk (below_step HB.out hb); clear hb) | ((with_reducible refine gate_callee (f := 126) rfl ?_); refine goesL_ (some 19) rfl rfl Tryz.func126 (by kernel_rfl) rfl #[.slice A1 l1.length c1] rfl (by (try simp only [List.map_toArray, List.map_cons, List.map_nil]); rfl) ?_; (with_reducible refine (nat_Trim.calls _ _ l1 t167 _ ?side1 ?side2 A6.out).mono ?_); (case side1 => exact (Kd.C_below HR1.out HB.out)); (case side2 => exact HC1.out); rintro e w11 ⟨v168, rfl, ho0, hb⟩; refine ⟨_, rfl, ?_⟩; have HO169 := Aside0.mk (Kd.R_lower ho0 (below_size HB.out)); replace HB := Aside0.mk (below_step HB.out hb); clear hb ho0; obtain ⟨Ao12, co12, eo12⟩ := Kd.R_slice HO169.out; subst eo12) | ((with_reducible refine gate_callee (f := 93) rfl ?_); refine goesL_ (some 23) rfl rfl Tryz.func93 (by kernel_rfl) rfl #[.slice A0 l0.length c0, .slice Ao12 t167.length co12] rfl (by (try simp only [List.map_toArray, List.map_cons, List.map_nil]); rfl) ?_; (with_reducible refine (modn_Mod.calls _ _ l0 _ _ t167 t170 t171 _ ?side1 ?side2 ?side3 ?side4 A7.out).mono ?_); (case side1 => exact (Kd.C_below HR0.out HB.out)); (case side2 => exact HC0.out); (case side3 => exact (Kd.R_reads' HO169.out).2.2); (case side4 => exact (Kd.R_reads' HO169.out).2.1); rintro e w13 ⟨v172, rfl, ho0, hb⟩; refine ⟨_, rfl, ?_⟩; have HO173 := Aside0.mk (Kd.R_lower (Kd.R_new' ho0 (Kd.R_lt HO169.out)) (below_size HB.out)); replace HO169 := Aside0.mk (Kd.R_elder' HO169.out (Kd.R_base ho0) hb); replace HB := Aside0.mk (below_step HB.out hb); clear hb ho0) | ((with_reducible refine gate_callee (f := 57) rfl ?_); refine goesL_ (some 27) rfl rfl Tryz.func57 (by kernel_rfl) rfl #[.int .u64 1] rfl (by (try simp only [List.map_toArray, List.map_cons, List.map_nil]); rfl) ?_; (with_reducible refine (nat_Of.calls 1 t174 _ A8.out).mono ?_); rintro e w14 ⟨v175, rfl, ho0, hb⟩; refine ⟨_, rfl, ?_⟩; have HO176 := Aside0.mk (Kd.R_lower (Kd.R_new' (Kd.R_new' ho0 (Kd.R_lt HO169.out)) (Kd.R_lt HO173.out)) (below_size HB.out)); replace HO169 := Aside0.mk (Kd.R_elder' HO169.out (Kd.R_base ho0) hb); replace HO173 := Aside0.mk (Kd.R_elder' HO173.out (Kd.R_base ho0) hb); replace HB := Aside0.mk (below_step HB.out hb); clear hb ho0; obtain ⟨Ao15, co15, eo15⟩ := Kd.R_slice HO176.out; subst eo15) | ((with_reducible refine gate_callee (f := 93) rfl ?_); refine goesL_ (some 31) rfl rfl Tryz.func93 (by kernel_rfl) rfl #[.slice Ao15 t174.length co15, .slice Ao12 t167.length co12] rfl (by (try simp only [List.map_toArray, List.map_cons, List.map_nil]); rfl) ?_; (with_reducible refine (modn_Mod.calls _ _ t174 _ _ t167 t177 t178 _ ?side1 ?side2 ?side3 ?side4 A9.out).mono ?_); (case side1 => exact (Kd.R_reads' HO176.out).2.2); (case side2 => exact (Kd.R_reads' HO176.out).2.1); (case side3 => exact (Kd.R_reads' HO169.out).2.2); (case side4 => exact (Kd.R_reads' HO169.out).2.1); rintro e w16 ⟨v179, rfl, ho0, hb⟩; refine ⟨_, rfl, ?_⟩; have HO180 := Aside0.mk (Kd.R_lower (Kd.R_new' (Kd.R_new' (Kd.R_new' ho0 (Kd.R_lt HO169.out)) (Kd.R_lt HO173.out)) (Kd.R_lt HO176.out)) (below_size HB.out)); replace HO169 := Aside0.mk (Kd.R_elder' HO169.out (Kd.R_base ho0) hb); replace HO173 := Aside0.mk (Kd.R_elder' HO173.out (Kd.R_base ho0) hb); replace HO176 := Aside0.mk (Kd.R_elder' HO176.out (Kd.R_base ho0) hb); replace HB := Aside0.mk (below_step HB.out hb); clear hb ho0))
  go_loopg [6, 8, 9, 10] k (fun kq v6 v8 v9 v10 w' => ∃ (x6_1 : List Int) (x8_1 : List Int) (x9_1 : List Int) (x10_1 : List Int), Aside0 (modn_Inverse.l0 kq t167 x6_1 x8_1 x9_1 x10_1 = some (r1, r2)) ∧ Aside0 (kq ≤ k) ∧ Aside0 (Kd.R (Kd.int .u64) 23 w' w.heap.size (fun k_ => some k_ ≠ (v6 : Value).ownBlock ∧ some k_ ≠ (v9 : Value).ownBlock ∧ some k_ ≠ (v10 : Value).ownBlock) (.slice Ao12 t167.length co12) t167) ∧ Aside0 (Kd.R (Kd.int .u64) 23 w' w.heap.size (fun k_ => some k_ ≠ ((.slice Ao12 t167.length co12) : Value).ownBlock ∧ some k_ ≠ (v8 : Value).ownBlock ∧ some k_ ≠ (v9 : Value).ownBlock ∧ some k_ ≠ (v10 : Value).ownBlock) v6 x6_1) ∧ Aside0 (Kd.R (Kd.int .u64) 23 w' w.heap.size (fun k_ => some k_ ≠ (v6 : Value).ownBlock ∧ some k_ ≠ (v9 : Value).ownBlock ∧ some k_ ≠ (v10 : Value).ownBlock) v8 x8_1) ∧ Aside0 (Kd.R (Kd.int .u64) 23 w' w.heap.size (fun k_ => some k_ ≠ ((.slice Ao12 t167.length co12) : Value).ownBlock ∧ some k_ ≠ (v6 : Value).ownBlock ∧ some k_ ≠ (v8 : Value).ownBlock ∧ some k_ ≠ (v10 : Value).ownBlock) v9 x9_1) ∧ Aside0 (Kd.R (Kd.int .u64) 23 w' w.heap.size (fun k_ => some k_ ≠ ((.slice Ao12 t167.length co12) : Value).ownBlock ∧ some k_ ≠ (v6 : Value).ownBlock ∧ some k_ ≠ (v8 : Value).ownBlock ∧ some k_ ≠ (v9 : Value).ownBlock) v10 x10_1) ∧ Aside0 (Below w.heap.size w w'))
  case atStart => exact ⟨(t170), (t167), (t177), (([] : List Int)), H', ⟨Nat.le_refl _⟩, ⟨by exact Kd.R_mono HO169.out (fun _ hk => by (exact ⟨hk.1.1.2, ⟨hk.2, (by simp [Value.ownBlock])⟩⟩))⟩, ⟨by exact Kd.R_mono HO173.out (fun _ hk => by (exact ⟨hk.1.1.2, ⟨hk.1.1.2, ⟨hk.2, (by simp [Value.ownBlock])⟩⟩⟩))⟩, ⟨by exact Kd.R_mono HO169.out (fun _ hk => by (exact ⟨hk.1.1.2, ⟨hk.2, (by simp [Value.ownBlock])⟩⟩))⟩, ⟨by exact Kd.R_mono HO180.out (fun _ hk => by (exact ⟨hk.1.1.2, ⟨hk.1.2, ⟨hk.1.1.2, (by simp [Value.ownBlock])⟩⟩⟩))⟩, ⟨by (exact Kd.R_nil _ _ _ _ _)⟩, ⟨HB.out⟩⟩
  case round =>
   clear H'
   try clear c1
   try clear p2
   try clear c4
   try clear c5
   try clear c6
   try clear c9
   try clear c12
   try clear c13
   obtain ⟨x6_1, x8_1, x9_1, x10_1, HA, HK1, HO_1, HO_6, HO_8, HO_9, HO_10, HB⟩ := hrel
   cases gk with
   | zero => exact absurd HA.out (by simp [modn_Inverse.l0])
   | succ k1 =>
    have H := HA.out
    clear HA
    simp only [modn_Inverse.l0] at H
    replace H := Option.bind_eq_some_iff.mp H
    obtain ⟨t181, A170, H⟩ := H
    try dsimp only at H
    have A17 := Aside0.mk A170
    clear A170
    by_cases c18 : t181 = true
    ·subst c18
     rw [if_pos rfl] at H
     replace H := Option.bind_eq_some_iff.mp H
     obtain ⟨t196, A190, H⟩ := H
     try dsimp only at H
     have A19 := Aside0.mk A190
     clear A190
     replace H := Option.bind_eq_some_iff.mp H
     obtain ⟨t199, A200, H⟩ := H
     try dsimp only at H
     have A20 := Aside0.mk A200
     clear A200
     by_cases c21 : t199 = 0
     ·rw [if_pos c21] at H
      have c21b0 : (t199 == 0) = true := beq_iff_eq.mpr c21
      have c21b1 : (t199 != 0) = false := bne_eq_false_iff_eq.mpr c21
      clear c21
      simp only [Option.some.injEq, Prod.mk.injEq] at H
      obtain ⟨rfl, rfl⟩ := H
      obtain ⟨Ao22, co22, eo22⟩ := Kd.R_slice HO_6.out
      subst eo22
      go_wp2_with (first | ((with_reducible refine gate_callee (f := 131) rfl ?_); refine goesL_ (some 35) rfl rfl Tryz.func131 (by kernel_rfl) rfl #[.slice Ao22 x6_1.length co22] rfl (by (try simp only [List.map_toArray, List.map_cons, List.map_nil]); rfl) ?_; (with_reducible refine (modn_zero.calls _ _ x6_1 true _ ?side1 ?side2 A17.out).mono ?_); (case side1 => exact (Kd.R_reads' HO_6.out).2.2); (case side2 => exact (Kd.R_reads' HO_6.out).2.1); rintro e w23 ⟨rfl, hb⟩; refine ⟨_, rfl, ?_⟩; replace HO_1 := Aside0.mk (Kd.R_below HO_1.out hb); replace HO_6 := Aside0.mk (Kd.R_below HO_6.out hb); replace HO_8 := Aside0.mk (Kd.R_below HO_8.out hb); replace HO_9 := Aside0.mk (Kd.R_below HO_9.out hb); replace HO_10 := Aside0.mk (Kd.R_below HO_10.out hb); replace HB := Aside0.mk (below_step HB.out hb); clear hb) | ((with_reducible refine gate_callee (f := 57) rfl ?_); refine goesL_ (some 59) rfl rfl Tryz.func57 (by kernel_rfl) rfl #[.int .u64 1] rfl (by (try simp only [List.map_toArray, List.map_cons, List.map_nil]); rfl) ?_; (with_reducible refine (nat_Of.calls 1 t196 _ A19.out).mono ?_); rintro e w24 ⟨v197, rfl, ho0, hb⟩; refine ⟨_, rfl, ?_⟩; have HO198 := Aside0.mk (Kd.R_lower (Kd.R_new' (Kd.R_new' (Kd.R_new' (Kd.R_new' (Kd.R_new' ho0 (Kd.R_lt HO_1.out)) (Kd.R_lt HO_6.out)) (Kd.R_lt HO_8.out)) (Kd.R_lt HO_9.out)) (Kd.R_lt HO_10.out)) (below_size HB.out)); replace HO_1 := Aside0.mk (Kd.R_elder' HO_1.out (Kd.R_base ho0) hb); replace HO_6 := Aside0.mk (Kd.R_elder' HO_6.out (Kd.R_base ho0) hb); replace HO_8 := Aside0.mk (Kd.R_elder' HO_8.out (Kd.R_base ho0) hb); replace HO_9 := Aside0.mk (Kd.R_elder' HO_9.out (Kd.R_base ho0) hb); replace HO_10 := Aside0.mk (Kd.R_elder' HO_10.out (Kd.R_base ho0) hb); replace HB := Aside0.mk (below_step HB.out hb); clear hb ho0; obtain ⟨Ao25, co25, eo25⟩ := Kd.R_slice HO_8.out; subst eo25; obtain ⟨Ao26, co26, eo26⟩ := Kd.R_slice HO198.out; subst eo26) | ((with_reducible refine gate_callee (f := 58) rfl ?_); refine goesL_ (some 60) rfl rfl Tryz.func58 (by kernel_rfl) rfl #[.slice Ao25 x8_1.length co25, .slice Ao26 t196.length co26] rfl (by (try simp only [List.map_toArray, List.map_cons, List.map_nil]); rfl) ?_; (with_reducible refine (nat_Cmp.calls _ _ x8_1 _ _ t196 t199 _ ?side1 ?side2 ?side3 ?side4 A20.out).mono ?_); (case side1 => exact (Kd.R_reads' HO_8.out).2.2); (case side2 => exact (Kd.R_reads' HO_8.out).2.1); (case side3 => exact (Kd.R_reads' HO198.out).2.2); (case side4 => exact (Kd.R_reads' HO198.out).2.1); rintro e w' ⟨rfl, ⟨nd, rfl⟩⟩; refine ⟨_, rfl, ?_⟩))
      go_ret2
      exact ⟨_, by rfl, by (with_reducible repeat ((apply Kd.R_drewN))); exact Kd.R_mono HO_10.out (fun _ hk => trivial), by repeat ((with_reducible first | exact HB.out | apply pw_below_drewN))⟩
     ·rw [if_neg c21] at H
      have c21b0 : (t199 == 0) = false := beq_eq_false_iff_ne.mpr c21
      have c21b1 : (t199 != 0) = true := bne_iff_ne.mpr c21
      simp only [Option.some.injEq, Prod.mk.injEq] at H
      obtain ⟨rfl, rfl⟩ := H
      obtain ⟨Ao27, co27, eo27⟩ := Kd.R_slice HO_6.out
      subst eo27
      go_wp2_with (first | ((with_reducible refine gate_callee (f := 131) rfl ?_); refine goesL_ (some 35) rfl rfl Tryz.func131 (by kernel_rfl) rfl #[.slice Ao27 x6_1.length co27] rfl (by (try simp only [List.map_toArray, List.map_cons, List.map_nil]); rfl) ?_; (with_reducible refine (modn_zero.calls _ _ x6_1 true _ ?side1 ?side2 A17.out).mono ?_); (case side1 => exact (Kd.R_reads' HO_6.out).2.2); (case side2 => exact (Kd.R_reads' HO_6.out).2.1); rintro e w28 ⟨rfl, hb⟩; refine ⟨_, rfl, ?_⟩; replace HO_1 := Aside0.mk (Kd.R_below HO_1.out hb); replace HO_6 := Aside0.mk (Kd.R_below HO_6.out hb); replace HO_8 := Aside0.mk (Kd.R_below HO_8.out hb); replace HO_9 := Aside0.mk (Kd.R_below HO_9.out hb); replace HO_10 := Aside0.mk (Kd.R_below HO_10.out hb); replace HB := Aside0.mk (below_step HB.out hb); clear hb) | ((with_reducible refine gate_callee (f := 57) rfl ?_); refine goesL_ (some 59) rfl rfl Tryz.func57 (by kernel_rfl) rfl #[.int .u64 1] rfl (by (try simp only [List.map_toArray, List.map_cons, List.map_nil]); rfl) ?_; (with_reducible refine (nat_Of.calls 1 t196 _ A19.out).mono ?_); rintro e w29 ⟨v197, rfl, ho0, hb⟩; refine ⟨_, rfl, ?_⟩; have HO198 := Aside0.mk (Kd.R_lower (Kd.R_new' (Kd.R_new' (Kd.R_new' (Kd.R_new' (Kd.R_new' ho0 (Kd.R_lt HO_1.out)) (Kd.R_lt HO_6.out)) (Kd.R_lt HO_8.out)) (Kd.R_lt HO_9.out)) (Kd.R_lt HO_10.out)) (below_size HB.out)); replace HO_1 := Aside0.mk (Kd.R_elder' HO_1.out (Kd.R_base ho0) hb); replace HO_6 := Aside0.mk (Kd.R_elder' HO_6.out (Kd.R_base ho0) hb); replace HO_8 := Aside0.mk (Kd.R_elder' HO_8.out (Kd.R_base ho0) hb); replace HO_9 := Aside0.mk (Kd.R_elder' HO_9.out (Kd.R_base ho0) hb); replace HO_10 := Aside0.mk (Kd.R_elder' HO_10.out (Kd.R_base ho0) hb); replace HB := Aside0.mk (below_step HB.out hb); clear hb ho0; obtain ⟨Ao30, co30, eo30⟩ := Kd.R_slice HO_8.out; subst eo30; obtain ⟨Ao31, co31, eo31⟩ := Kd.R_slice HO198.out; subst eo31) | ((with_reducible refine gate_callee (f := 58) rfl ?_); refine goesL_ (some 60) rfl rfl Tryz.func58 (by kernel_rfl) rfl #[.slice Ao30 x8_1.length co30, .slice Ao31 t196.length co31] rfl (by (try simp only [List.map_toArray, List.map_cons, List.map_nil]); rfl) ?_; (with_reducible refine (nat_Cmp.calls _ _ x8_1 _ _ t196 t199 _ ?side1 ?side2 ?side3 ?side4 A20.out).mono ?_); (case side1 => exact (Kd.R_reads' HO_8.out).2.2); (case side2 => exact (Kd.R_reads' HO_8.out).2.1); (case side3 => exact (Kd.R_reads' HO198.out).2.2); (case side4 => exact (Kd.R_reads' HO198.out).2.1); rintro e w' ⟨rfl, ⟨nd, rfl⟩⟩; refine ⟨_, rfl, ?_⟩))
      go_ret2
      exact ⟨_, by rfl, by (exact Kd.R_nil _ _ _ _ _), by repeat ((with_reducible first | exact HB.out | apply pw_below_drewN))⟩
    ·replace c18 := Bool.eq_false_iff.mpr c18
     subst c18
     rw [if_neg (show ¬ (false = true) by decide)] at H
     replace H := Option.bind_eq_some_iff.mp H
     obtain ⟨⟨t182, t183, t184⟩, A320, H⟩ := H
     try dsimp only at H
     have A32 := Aside0.mk A320
     clear A320
     replace H := Option.bind_eq_some_iff.mp H
     obtain ⟨⟨t189, t190⟩, A330, H⟩ := H
     try dsimp only at H
     have A33 := Aside0.mk A330
     clear A330
     replace H := Option.bind_eq_some_iff.mp H
     obtain ⟨t193, A340, H⟩ := H
     try dsimp only at H
     have A34 := Aside0.mk A340
     clear A340
     have H' := Aside0.mk H
     clear H
     obtain ⟨Ao35, co35, eo35⟩ := Kd.R_slice HO_6.out
     subst eo35
     go_wp2_with (first | ((with_reducible refine gate_callee (f := 131) rfl ?_); refine goesL_ (some 35) rfl rfl Tryz.func131 (by kernel_rfl) rfl #[.slice Ao35 x6_1.length co35] rfl (by (try simp only [List.map_toArray, List.map_cons, List.map_nil]); rfl) ?_; (with_reducible refine (modn_zero.calls _ _ x6_1 false _ ?side1 ?side2 A17.out).mono ?_); (case side1 => exact (Kd.R_reads' HO_6.out).2.2); (case side2 => exact (Kd.R_reads' HO_6.out).2.1); rintro e w36 ⟨rfl, hb⟩; refine ⟨_, rfl, ?_⟩; replace HO_1 := Aside0.mk (Kd.R_below HO_1.out hb); replace HO_6 := Aside0.mk (Kd.R_below HO_6.out hb); replace HO_8 := Aside0.mk (Kd.R_below HO_8.out hb); replace HO_9 := Aside0.mk (Kd.R_below HO_9.out hb); replace HO_10 := Aside0.mk (Kd.R_below HO_10.out hb); replace HB := Aside0.mk (below_step HB.out hb); clear hb; obtain ⟨Ao37, co37, eo37⟩ := Kd.R_slice HO_8.out; subst eo37) | ((with_reducible refine gate_callee (f := 110) rfl ?_); refine goesL_ (some 40) rfl rfl Tryz.func110 (by kernel_rfl) rfl #[.slice Ao37 x8_1.length co37, .slice Ao35 x6_1.length co35] rfl (by (try simp only [List.map_toArray, List.map_cons, List.map_nil]); rfl) ?_; (with_reducible refine (nat_Div.calls _ _ x8_1 _ _ x6_1 t182 t183 t184 _ ?side1 ?side2 ?side3 ?side4 A32.out).mono ?_); (case side1 => exact (Kd.R_reads' HO_8.out).2.2); (case side2 => exact (Kd.R_reads' HO_8.out).2.1); (case side3 => exact (Kd.R_reads' HO_6.out).2.2); (case side4 => exact (Kd.R_reads' HO_6.out).2.1); rintro e w38 ⟨v185, v187, rfl, ho0, ho1, hb⟩; refine ⟨_, rfl, ?_⟩; have HO186 := Aside0.mk (Kd.R_lower (Kd.R_new' (Kd.R_new' (Kd.R_new' (Kd.R_new' (Kd.R_new' ho0 (Kd.R_lt HO_1.out)) (Kd.R_lt HO_6.out)) (Kd.R_lt HO_8.out)) (Kd.R_lt HO_9.out)) (Kd.R_lt HO_10.out)) (below_size HB.out)); have HO188 := Aside0.mk (Kd.R_lower (Kd.R_new' (Kd.R_new' (Kd.R_new' (Kd.R_new' (Kd.R_new' ho1 (Kd.R_lt HO_1.out)) (Kd.R_lt HO_6.out)) (Kd.R_lt HO_8.out)) (Kd.R_lt HO_9.out)) (Kd.R_lt HO_10.out)) (below_size HB.out)); replace HO_1 := Aside0.mk (Kd.R_mono (Kd.R_told (Kd.R_told (Kd.R_old HO_1.out hb) (Kd.R_base ho0)) (Kd.R_base ho1)) (fun _ h_ => h_.1)); replace HO_6 := Aside0.mk (Kd.R_mono (Kd.R_told (Kd.R_told (Kd.R_old HO_6.out hb) (Kd.R_base ho0)) (Kd.R_base ho1)) (fun _ h_ => h_.1)); replace HO_8 := Aside0.mk (Kd.R_mono (Kd.R_told (Kd.R_told (Kd.R_old HO_8.out hb) (Kd.R_base ho0)) (Kd.R_base ho1)) (fun _ h_ => h_.1)); replace HO_9 := Aside0.mk (Kd.R_mono (Kd.R_told (Kd.R_told (Kd.R_old HO_9.out hb) (Kd.R_base ho0)) (Kd.R_base ho1)) (fun _ h_ => h_.1)); replace HO_10 := Aside0.mk (Kd.R_mono (Kd.R_told (Kd.R_told (Kd.R_old HO_10.out hb) (Kd.R_base ho0)) (Kd.R_base ho1)) (fun _ h_ => h_.1)); replace HB := Aside0.mk (below_step HB.out hb); clear hb ho0 ho1; obtain ⟨Ao39, co39, eo39⟩ := Kd.R_slice HO186.out; subst eo39; obtain ⟨Ao40, co40, eo40⟩ := Kd.R_slice HO_9.out; subst eo40) | ((with_reducible refine gate_callee (f := 103) rfl ?_); refine goesL_ (some 48) rfl rfl Tryz.func103 (by kernel_rfl) rfl #[.slice Ao39 t182.length co39, .slice Ao40 x9_1.length co40, .slice Ao12 t167.length co12] rfl (by (try simp only [List.map_toArray, List.map_cons, List.map_nil]); rfl) ?_; (with_reducible refine (modn_Mul.calls _ _ t182 _ _ x9_1 _ _ t167 t189 t190 _ ?side1 ?side2 ?side3 ?side4 ?side5 ?side6 A33.out).mono ?_); (case side1 => exact (Kd.R_reads' HO186.out).2.2); (case side2 => exact (Kd.R_reads' HO186.out).2.1); (case side3 => exact (Kd.R_reads' HO_9.out).2.2); (case side4 => exact (Kd.R_reads' HO_9.out).2.1); (case side5 => exact (Kd.R_reads' HO_1.out).2.2); (case side6 => exact (Kd.R_reads' HO_1.out).2.1); rintro e w41 ⟨v191, rfl, ho0, hb⟩; refine ⟨_, rfl, ?_⟩; have HO192 := Aside0.mk (Kd.R_lower (Kd.R_new' (Kd.R_new' (Kd.R_new' (Kd.R_new' (Kd.R_new' (Kd.R_new' (Kd.R_new' ho0 (Kd.R_lt HO_1.out)) (Kd.R_lt HO_6.out)) (Kd.R_lt HO_8.out)) (Kd.R_lt HO_9.out)) (Kd.R_lt HO_10.out)) (Kd.R_lt HO186.out)) (Kd.R_lt HO188.out)) (below_size HB.out)); replace HO_1 := Aside0.mk (Kd.R_elder' HO_1.out (Kd.R_base ho0) hb); replace HO_6 := Aside0.mk (Kd.R_elder' HO_6.out (Kd.R_base ho0) hb); replace HO_8 := Aside0.mk (Kd.R_elder' HO_8.out (Kd.R_base ho0) hb); replace HO_9 := Aside0.mk (Kd.R_elder' HO_9.out (Kd.R_base ho0) hb); replace HO_10 := Aside0.mk (Kd.R_elder' HO_10.out (Kd.R_base ho0) hb); replace HO186 := Aside0.mk (Kd.R_elder' HO186.out (Kd.R_base ho0) hb); replace HO188 := Aside0.mk (Kd.R_elder' HO188.out (Kd.R_base ho0) hb); replace HB := Aside0.mk (below_step HB.out hb); clear hb ho0; obtain ⟨Ao42, co42, eo42⟩ := Kd.R_slice HO_10.out; subst eo42; obtain ⟨Ao43, co43, eo43⟩ := Kd.R_slice HO192.out; subst eo43) | ((with_reducible refine gate_callee (f := 132) rfl ?_); refine goesL_ (some 57) rfl rfl Tryz.func132 (by kernel_rfl) rfl #[.slice Ao42 x10_1.length co42, .slice Ao43 t189.length co43, .slice Ao12 t167.length co12] rfl (by (try simp only [List.map_toArray, List.map_cons, List.map_nil]); rfl) ?_; (with_reducible refine (modn_minus.calls _ _ x10_1 _ _ t189 _ _ t167 t193 _ ?side1 ?side2 ?side3 ?side4 ?side5 ?side6 A34.out).mono ?_); (case side1 => exact (Kd.R_reads' HO_10.out).2.2); (case side2 => exact (Kd.R_reads' HO_10.out).2.1); (case side3 => exact (Kd.R_reads' HO192.out).2.2); (case side4 => exact (Kd.R_reads' HO192.out).2.1); (case side5 => exact (Kd.R_reads' HO_1.out).2.2); (case side6 => exact (Kd.R_reads' HO_1.out).2.1); rintro e w44 ⟨v194, rfl, ho0, hb⟩; refine ⟨_, rfl, ?_⟩; have HO195 := Aside0.mk (Kd.R_lower (Kd.R_new' (Kd.R_new' (Kd.R_new' (Kd.R_new' (Kd.R_new' (Kd.R_new' (Kd.R_new' (Kd.R_new' ho0 (Kd.R_lt HO_1.out)) (Kd.R_lt HO_6.out)) (Kd.R_lt HO_8.out)) (Kd.R_lt HO_9.out)) (Kd.R_lt HO_10.out)) (Kd.R_lt HO186.out)) (Kd.R_lt HO188.out)) (Kd.R_lt HO192.out)) (below_size HB.out)); replace HO_1 := Aside0.mk (Kd.R_elder' HO_1.out (Kd.R_base ho0) hb); replace HO_6 := Aside0.mk (Kd.R_elder' HO_6.out (Kd.R_base ho0) hb); replace HO_8 := Aside0.mk (Kd.R_elder' HO_8.out (Kd.R_base ho0) hb); replace HO_9 := Aside0.mk (Kd.R_elder' HO_9.out (Kd.R_base ho0) hb); replace HO_10 := Aside0.mk (Kd.R_elder' HO_10.out (Kd.R_base ho0) hb); replace HO186 := Aside0.mk (Kd.R_elder' HO186.out (Kd.R_base ho0) hb); replace HO188 := Aside0.mk (Kd.R_elder' HO188.out (Kd.R_base ho0) hb); replace HO192 := Aside0.mk (Kd.R_elder' HO192.out (Kd.R_base ho0) hb); replace HB := Aside0.mk (below_step HB.out hb); clear hb ho0))
     go_roundg k1
     case measure => have := HK1.out; omega
     case rel => exact ⟨(t183), (x6_1), (t193), (x9_1), H', ⟨by have := HK1.out; omega⟩, ⟨by exact Kd.R_mono HO_1.out (fun _ hk => by grind)⟩, ⟨by exact Kd.R_mono HO188.out (fun _ hk => by (exact ⟨hk.1.1.1.1.1.1.2, ⟨hk.1.1.1.1.1.2, ⟨hk.2, hk.1.1.1.2⟩⟩⟩))⟩, ⟨by exact Kd.R_mono HO_6.out (fun _ hk => by grind)⟩, ⟨by exact Kd.R_mono HO195.out (fun _ hk => by (exact ⟨hk.1.1.1.1.1.1.1.2, ⟨hk.1.2, ⟨hk.1.1.1.1.1.1.2, hk.1.1.1.1.2⟩⟩⟩))⟩, ⟨by exact Kd.R_mono HO_9.out (fun _ hk => by (exact ⟨hk.1.1.1.1.1, ⟨hk.1.1.2, ⟨hk.1.1.1.1.2.1, hk.2⟩⟩⟩))⟩, ⟨HB.out⟩⟩
def nat_Shift.f (l0 : List Int) (a1 : Int) : Option (List Int) := if okN 262144 l0 then some (ofN (shiftN (nI l0) a1)) else none
theorem nat_Shift.calls (A0 : Option Addr) (c0 : Nat) (l0 : List Int) (a1 : Int) (r : List Int) (w : World) (hr0 : Kd.C (Kd.int .u64) w A0 l0.length l0) (hc0 : l0.length ≤ c0) (h : nat_Shift.f l0 a1 = some r) :
  Calls Tryz.prog 164 #[.slice A0 l0.length c0, .int .i64 a1] w fun e w' => ∃ v0_ : Value, e = .returned (v0_) ∧ Kd.R (Kd.int .u64) 23 w' w.heap.size (fun _ => True) v0_ r ∧ Below w.heap.size w w' := by
 exact shift_giv hr0 hc0 h
end Go.Proofs.YtdmglajfmfjmlaaGreat.Cm
namespace Go.Proofs.YtdmglajfmfjmlaaGreat.Cm
open Go.RowKit Go.Proofs.YtdmglajfmfjmlaaGreatW.PrintWords Go.Proofs.YtdmglajfmfjmlaaGreatW.PrintLast Go.Proofs.YtdmglajfmfjmlaaGreatW.PrintMore
attribute [local go_sem] max2_int min2_int max_two min_two max_three min_three max_four min_four   -- for this text's walks alone
set_option linter.unusedVariables false
set_option linter.unusedSimpArgs false
mutual
def modn_Tells.l0 : Nat → List Int → Int → List Int → Int → Option (Bool)
 | 0, _, _, _, _ => none
 | k + 1, x0, x1, x7, x9 => (nat_Bit.f x7 x9).bind fun t215 => (if t215 = 0 then (modn_Tells.l0 k x0 x1 x7 (wrap64 (x9 + 1))) else ((nat_Of.f x1).bind fun t216 => ((modn_Mod.f t216 x0).bind fun bt219 => ((modn_zero.f bt219.1).bind fun t223 => (if t223 = true then (some false) else ((nat_Shift.f x7 (wrap64 (-x9))).bind fun t224 => ((modn_Pow.f k bt219.1 t224 x0).bind fun bt227 => ((nat_Of.f 1).bind fun t231 => ((nat_Cmp.f bt227.1 t231).bind fun t234 => (if t234 = 0 then (some false) else (modn_Tells.l1 k x0 x7 bt227.1 x9 0)))))))))))
def modn_Tells.l1 : Nat → List Int → List Int → List Int → Int → Int → Option (Bool)
 | 0, _, _, _, _, _ => none
 | k + 1, x0, x7, x12, x64, x65 => if x65 < x64 then ((nat_Cmp.f x12 x7).bind fun t235 => (if t235 = 0 then (some false) else ((modn_Mul.f x12 x12 x0).bind fun bt236 => (modn_Tells.l1 k x0 x7 bt236.1 x64 (wrap64 (x65 + 1)))))) else (some true)
end
def modn_Tells.f (k : Nat) (l0 : List Int) (a1 : Int) : Option (Bool) := (nat_Trim.f l0).bind fun t200 => ((nat_Of.f 2).bind fun t203 => ((nat_Cmp.f t200 t203).bind fun t206 => (if t206 ≤ 0 then (some (decide (t206 < 0))) else (if 0 < (t200.length : Int) then (if (Go.bits .and .u64 (rd t200 0) 1) = 0 then (some true) else ((nat_Of.f 1).bind fun t208 => ((nat_Sub.f t200 t208).bind fun bt211 => (modn_Tells.l0 k t200 a1 bt211.1 0)))) else (none)))))
set_option maxHeartbeats 8000000 in
set_option maxRecDepth 100000 in
theorem modn_Tells.calls (k : Nat) (A0 : Option Addr) (c0 : Nat) (l0 : List Int) (a1 : Int) (r : Bool) (w : World) (hr0 : Kd.C (Kd.int .u64) w A0 l0.length l0) (hc0 : l0.length ≤ c0) (h : modn_Tells.f k l0 a1 = some r) :
  Calls Tryz.prog 173 #[.slice A0 l0.length c0, .int .u64 a1] w fun e w' => e = .returned (.bool r) ∧ Below w.heap.size w w' := by
 have HR0 := Aside0.mk hr0
 have HC0 := Aside0.mk hc0
 clear hr0 hc0
 have HB := Aside0.mk (Below.refl w.heap.size w)
 have H : ((nat_Trim.f l0).bind fun t200 => ((nat_Of.f 2).bind fun t203 => ((nat_Cmp.f t200 t203).bind fun t206 => (if t206 ≤ 0 then (some (decide (t206 < 0))) else (if 0 < (t200.length : Int) then (if (Go.bits .and .u64 (rd t200 0) 1) = 0 then (some true) else ((nat_Of.f 1).bind fun t208 => ((nat_Sub.f t200 t208).bind fun bt211 => (modn_Tells.l0 k t200 a1 bt211.1 0)))) else (none)))))) = some r := h
 clear h
 replace H := Option.bind_eq_some_iff.mp H
 obtain ⟨t200, A30, H⟩ := H
 try dsimp only at H
 have A3 := Aside0.mk A30
 clear A30
 replace H := Option.bind_eq_some_iff.mp H
 obtain ⟨t203, A40, H⟩ := H
 try dsimp only at H
 have A4 := Aside0.mk A40
 clear A40
 replace H := Option.bind_eq_some_iff.mp H
 obtain ⟨t206, A50, H⟩ := H
 try dsimp only at H
 have A5 := Aside0.mk A50
 clear A50
 by_cases c6 : t206 ≤ 0
 ·rw [if_pos c6] at H
  have c6b0 : decide (t206 ≤ 0) = true := decide_eq_true c6
  clear c6
  obtain rfl := Option.some.inj H
  simp only [Option.some.injEq, Prod.mk.injEq] at H
  obtain ⟨rfl⟩ := H
  go_enter Tryz.func173, Tryz.ntmps173
  go_wp2_with (first | ((with_reducible refine gate_callee (f := 126) rfl ?_); refine goesL_ (some 15) rfl rfl Tryz.func126 (by kernel_rfl) rfl #[.slice A0 l0.length c0] rfl (by (try simp only [List.map_toArray, List.map_cons, List.map_nil]); rfl) ?_; (with_reducible refine (nat_Trim.calls _ _ l0 t200 _ ?side1 ?side2 A3.out).mono ?_); (case side1 => exact HR0.out); (case side2 => exact HC0.out); rintro e w7 ⟨v201, rfl, ho0, hb⟩; refine ⟨_, rfl, ?_⟩; have HO202 := Aside0.mk (Kd.R_lower ho0 (below_size HB.out)); replace HB := Aside0.mk (below_step HB.out hb); clear hb ho0) | ((with_reducible refine gate_callee (f := 57) rfl ?_); refine goesL_ (some 16) rfl rfl Tryz.func57 (by kernel_rfl) rfl #[.int .u64 2] rfl (by (try simp only [List.map_toArray, List.map_cons, List.map_nil]); rfl) ?_; (with_reducible refine (nat_Of.calls 2 t203 _ A4.out).mono ?_); rintro e w8 ⟨v204, rfl, ho0, hb⟩; refine ⟨_, rfl, ?_⟩; have HO205 := Aside0.mk (Kd.R_lower (Kd.R_new' ho0 (Kd.R_lt HO202.out)) (below_size HB.out)); replace HO202 := Aside0.mk (Kd.R_elder' HO202.out (Kd.R_base ho0) hb); replace HB := Aside0.mk (below_step HB.out hb); clear hb ho0; obtain ⟨Ao9, co9, eo9⟩ := Kd.R_slice HO202.out; subst eo9; obtain ⟨Ao10, co10, eo10⟩ := Kd.R_slice HO205.out; subst eo10) | ((with_reducible refine gate_callee (f := 58) rfl ?_); refine goesL_ (some 19) rfl rfl Tryz.func58 (by kernel_rfl) rfl #[.slice Ao9 t200.length co9, .slice Ao10 t203.length co10] rfl (by (try simp only [List.map_toArray, List.map_cons, List.map_nil]); rfl) ?_; (with_reducible refine (nat_Cmp.calls _ _ t200 _ _ t203 t206 _ ?side1 ?side2 ?side3 ?side4 A5.out).mono ?_); (case side1 => exact (Kd.R_reads' HO202.out).2.2); (case side2 => exact (Kd.R_reads' HO202.out).2.1); (case side3 => exact (Kd.R_reads' HO205.out).2.2); (case side4 => exact (Kd.R_reads' HO205.out).2.1); rintro e w' ⟨rfl, ⟨nd, rfl⟩⟩; refine ⟨_, rfl, ?_⟩))
  go_ret
  exact ⟨by rfl, by repeat ((with_reducible first | exact HB.out | apply pw_below_drewN))⟩
 ·rw [if_neg c6] at H
  have c6b0 : decide (t206 ≤ 0) = false := decide_eq_false c6
  clear c6
  by_cases c11 : 0 < (t200.length : Int)
  ·rw [if_pos c11] at H
   have c11b0 : decide (0 < (t200.length : Int)) = true := decide_eq_true c11
   have c11b1 : decide (0 < t200.length) = true := decide_eq_true (by omega)
   clear c11
   by_cases c12 : (Go.bits .and .u64 (rd t200 0) 1) = 0
   ·rw [if_pos c12] at H
    have c12b0 : ((Go.bits .and .u64 (rd t200 0) 1) == 0) = true := beq_iff_eq.mpr c12
    have c12b1 : ((Go.bits .and .u64 (rd t200 0) 1) != 0) = false := bne_eq_false_iff_eq.mpr c12
    clear c12
    obtain rfl := Option.some.inj H
    simp only [Option.some.injEq, Prod.mk.injEq] at H
    obtain ⟨rfl⟩ := H
    go_enter Tryz.func173, Tryz.ntmps173
    go_wp2_with (first | ((with_reducible refine gate_callee (f := 126) rfl ?_); refine goesL_ (some 15) rfl rfl Tryz.func126 (by kernel_rfl) rfl #[.slice A0 l0.length c0] rfl (by (try simp only [List.map_toArray, List.map_cons, List.map_nil]); rfl) ?_; (with_reducible refine (nat_Trim.calls _ _ l0 t200 _ ?side1 ?side2 A3.out).mono ?_); (case side1 => exact HR0.out); (case side2 => exact HC0.out); rintro e w13 ⟨v201, rfl, ho0, hb⟩; refine ⟨_, rfl, ?_⟩; have HO202 := Aside0.mk (Kd.R_lower ho0 (below_size HB.out)); replace HB := Aside0.mk (below_step HB.out hb); clear hb ho0) | ((with_reducible refine gate_callee (f := 57) rfl ?_); refine goesL_ (some 16) rfl rfl Tryz.func57 (by kernel_rfl) rfl #[.int .u64 2] rfl (by (try simp only [List.map_toArray, List.map_cons, List.map_nil]); rfl) ?_; (with_reducible refine (nat_Of.calls 2 t203 _ A4.out).mono ?_); rintro e w14 ⟨v204, rfl, ho0, hb⟩; refine ⟨_, rfl, ?_⟩; have HO205 := Aside0.mk (Kd.R_lower (Kd.R_new' ho0 (Kd.R_lt HO202.out)) (below_size HB.out)); replace HO202 := Aside0.mk (Kd.R_elder' HO202.out (Kd.R_base ho0) hb); replace HB := Aside0.mk (below_step HB.out hb); clear hb ho0; obtain ⟨Ao15, co15, eo15⟩ := Kd.R_slice HO202.out; subst eo15; obtain ⟨Ao16, co16, eo16⟩ := Kd.R_slice HO205.out; subst eo16) | ((with_reducible refine gate_callee (f := 58) rfl ?_); refine goesL_ (some 19) rfl rfl Tryz.func58 (by kernel_rfl) rfl #[.slice Ao15 t200.length co15, .slice Ao16 t203.length co16] rfl (by (try simp only [List.map_toArray, List.map_cons, List.map_nil]); rfl) ?_; (with_reducible refine (nat_Cmp.calls _ _ t200 _ _ t203 t206 _ ?side1 ?side2 ?side3 ?side4 A5.out).mono ?_); (case side1 => exact (Kd.R_reads' HO202.out).2.2); (case side2 => exact (Kd.R_reads' HO202.out).2.1); (case side3 => exact (Kd.R_reads' HO205.out).2.2); (case side4 => exact (Kd.R_reads' HO205.out).2.1); rintro e w' ⟨rfl, ⟨nd, rfl⟩⟩; refine ⟨_, rfl, ?_⟩; have p207 : 0 ≤ (0 : Int) := (by omega); have q207 : 0 < (t200.length : Int) := of_decide_eq_true (by (with_reducible assumption)); obtain ⟨ad207, e207, hx207_0⟩ := Kd.at_int (Kd.R_reads' HO202.out).2.2 0 p207 q207; cases e207; have qi207 : (0 < t200.length) = True := eq_true (by omega); (try rw [show ((0 : Int)).toNat = 0 from rfl] at hx207_0); (try rw [Addr.add_zero'] at hx207_0); replace p207 := eq_true p207; replace q207 := eq_true q207))
    go_ret
    exact ⟨by rfl, by repeat ((with_reducible first | exact HB.out | apply pw_below_drewN))⟩
   ·rw [if_neg c12] at H
    have c12b0 : ((Go.bits .and .u64 (rd t200 0) 1) == 0) = false := beq_eq_false_iff_ne.mpr c12
    have c12b1 : ((Go.bits .and .u64 (rd t200 0) 1) != 0) = true := bne_iff_ne.mpr c12
    replace H := Option.bind_eq_some_iff.mp H
    obtain ⟨t208, A170, H⟩ := H
    try dsimp only at H
    have A17 := Aside0.mk A170
    clear A170
    replace H := Option.bind_eq_some_iff.mp H
    obtain ⟨⟨t211, t212⟩, A180, H⟩ := H
    try dsimp only at H
    have A18 := Aside0.mk A180
    clear A180
    have H' := Aside0.mk H
    clear H
    go_enter Tryz.func173, Tryz.ntmps173
    go_wp2_with (first | ((with_reducible refine gate_callee (f := 126) rfl ?_); refine goesL_ (some 15) rfl rfl Tryz.func126 (by kernel_rfl) rfl #[.slice A0 l0.length c0] rfl (by (try simp only [List.map_toArray, List.map_cons, List.map_nil]); rfl) ?_; (with_reducible refine (nat_Trim.calls _ _ l0 t200 _ ?side1 ?side2 A3.out).mono ?_); (case side1 => exact HR0.out); (case side2 => exact HC0.out); rintro e w19 ⟨v201, rfl, ho0, hb⟩; refine ⟨_, rfl, ?_⟩; have HO202 := Aside0.mk (Kd.R_lower ho0 (below_size HB.out)); replace HB := Aside0.mk (below_step HB.out hb); clear hb ho0) | ((with_reducible refine gate_callee (f := 57) rfl ?_); refine goesL_ (some 16) rfl rfl Tryz.func57 (by kernel_rfl) rfl #[.int .u64 2] rfl (by (try simp only [List.map_toArray, List.map_cons, List.map_nil]); rfl) ?_; (with_reducible refine (nat_Of.calls 2 t203 _ A4.out).mono ?_); rintro e w20 ⟨v204, rfl, ho0, hb⟩; refine ⟨_, rfl, ?_⟩; have HO205 := Aside0.mk (Kd.R_lower (Kd.R_new' ho0 (Kd.R_lt HO202.out)) (below_size HB.out)); replace HO202 := Aside0.mk (Kd.R_elder' HO202.out (Kd.R_base ho0) hb); replace HB := Aside0.mk (below_step HB.out hb); clear hb ho0; obtain ⟨Ao21, co21, eo21⟩ := Kd.R_slice HO202.out; subst eo21; obtain ⟨Ao22, co22, eo22⟩ := Kd.R_slice HO205.out; subst eo22) | ((with_reducible refine gate_callee (f := 58) rfl ?_); refine goesL_ (some 19) rfl rfl Tryz.func58 (by kernel_rfl) rfl #[.slice Ao21 t200.length co21, .slice Ao22 t203.length co22] rfl (by (try simp only [List.map_toArray, List.map_cons, List.map_nil]); rfl) ?_; (with_reducible refine (nat_Cmp.calls _ _ t200 _ _ t203 t206 _ ?side1 ?side2 ?side3 ?side4 A5.out).mono ?_); (case side1 => exact (Kd.R_reads' HO202.out).2.2); (case side2 => exact (Kd.R_reads' HO202.out).2.1); (case side3 => exact (Kd.R_reads' HO205.out).2.2); (case side4 => exact (Kd.R_reads' HO205.out).2.1); rintro e w' ⟨rfl, ⟨nd, rfl⟩⟩; refine ⟨_, rfl, ?_⟩; have p207 : 0 ≤ (0 : Int) := (by omega); have q207 : 0 < (t200.length : Int) := of_decide_eq_true (by (with_reducible assumption)); obtain ⟨ad207, e207, hx207_0⟩ := Kd.at_int (Kd.R_reads' HO202.out).2.2 0 p207 q207; cases e207; have qi207 : (0 < t200.length) = True := eq_true (by omega); (try rw [show ((0 : Int)).toNat = 0 from rfl] at hx207_0); (try rw [Addr.add_zero'] at hx207_0); replace p207 := eq_true p207; replace q207 := eq_true q207) | ((with_reducible refine gate_callee (f := 57) rfl ?_); refine goesL_ (some 31) rfl rfl Tryz.func57 (by kernel_rfl) rfl #[.int .u64 1] rfl (by (try simp only [List.map_toArray, List.map_cons, List.map_nil]); rfl) ?_; (with_reducible refine (nat_Of.calls 1 t208 _ A17.out).mono ?_); rintro e w23 ⟨v209, rfl, ho0, hb⟩; refine ⟨_, rfl, ?_⟩; have HO210 := Aside0.mk (Kd.R_lower (Kd.R_new' (Kd.R_new' ho0 (Kd.R_lt (by (with_reducible repeat ((apply Kd.R_drewN))); exact HO202.out))) (Kd.R_lt (by (with_reducible repeat ((apply Kd.R_drewN))); exact HO205.out))) (below_size (by repeat ((with_reducible first | exact HB.out | apply pw_below_drewN))))); replace HO202 := Aside0.mk (Kd.R_elder' (by (with_reducible repeat ((apply Kd.R_drewN))); exact HO202.out) (Kd.R_base ho0) hb); replace HO205 := Aside0.mk (Kd.R_elder' (by (with_reducible repeat ((apply Kd.R_drewN))); exact HO205.out) (Kd.R_base ho0) hb); replace HB := Aside0.mk (below_step (by repeat ((with_reducible first | exact HB.out | apply pw_below_drewN))) hb); clear hb ho0; obtain ⟨Ao24, co24, eo24⟩ := Kd.R_slice HO210.out; subst eo24) | ((with_reducible refine gate_callee (f := 94) rfl ?_); refine goesL_ (some 32) rfl rfl Tryz.func94 (by kernel_rfl) rfl #[.slice (some ad207) t200.length co21, .slice Ao24 t208.length co24] rfl (by (try simp only [List.map_toArray, List.map_cons, List.map_nil]); rfl) ?_; (with_reducible refine (nat_Sub.calls _ _ t200 _ _ t208 t211 t212 _ ?side1 ?side2 ?side3 ?side4 A18.out).mono ?_); (case side1 => exact (Kd.R_reads' HO202.out).2.2); (case side2 => exact (Kd.R_reads' HO202.out).2.1); (case side3 => exact (Kd.R_reads' HO210.out).2.2); (case side4 => exact (Kd.R_reads' HO210.out).2.1); rintro e w25 ⟨v213, rfl, ho0, hb⟩; refine ⟨_, rfl, ?_⟩; have HO214 := Aside0.mk (Kd.R_lower (Kd.R_new' (Kd.R_new' (Kd.R_new' ho0 (Kd.R_lt HO202.out)) (Kd.R_lt HO205.out)) (Kd.R_lt HO210.out)) (below_size HB.out)); replace HO202 := Aside0.mk (Kd.R_elder' HO202.out (Kd.R_base ho0) hb); replace HO205 := Aside0.mk (Kd.R_elder' HO205.out (Kd.R_base ho0) hb); replace HO210 := Aside0.mk (Kd.R_elder' HO210.out (Kd.R_base ho0) hb); replace HB := Aside0.mk (below_step HB.out hb); clear hb ho0))
    go_loopg [9] k (fun kq v9 w' => ∃ (x9_1 : Int), v9 = .int .i64 x9_1 ∧ Aside0 (modn_Tells.l0 kq t200 a1 t211 x9_1 = some r) ∧ Aside0 (kq ≤ k) ∧ Aside0 (Kd.R (Kd.int .u64) 23 w' w.heap.size (fun k_ => some k_ ≠ (v213 : Value).ownBlock) (.slice (some ad207) t200.length co21) t200) ∧ Aside0 (Kd.R (Kd.int .u64) 23 w' w.heap.size (fun k_ => some k_ ≠ ((.slice (some ad207) t200.length co21) : Value).ownBlock) v213 t211) ∧ Aside0 (Below w.heap.size w w'))
    case atStart => exact ⟨(0), (by rfl), H', ⟨Nat.le_refl _⟩, ⟨by exact Kd.R_mono HO202.out (fun _ hk => hk.2)⟩, ⟨by exact Kd.R_mono HO214.out (fun _ hk => hk.1.1.2)⟩, ⟨HB.out⟩⟩
    case round =>
     clear H'
     try clear c1
     try clear p2
     try clear q2
     try clear hx2
     try clear qi2
     try clear c5
     try clear c6
     try clear c6b0
     try clear c9
     try clear c11
     try clear c11b0
     try clear c11b1
     try clear c12
     try clear c12b0
     try clear c12b1
     try clear c17
     try clear p20
     try clear q20
     try clear hx20
     try clear qi20
     try clear hx207_0
     try clear p207
     try clear q207
     obtain ⟨x9_1, rfl, HA, HK1, HO_0, HO_7, HB⟩ := hrel
     cases gk with
     | zero => exact absurd HA.out (by simp [modn_Tells.l0])
     | succ k1 =>
      have H := HA.out
      clear HA
      simp only [modn_Tells.l0] at H
      replace H := Option.bind_eq_some_iff.mp H
      obtain ⟨t215, A260, H⟩ := H
      try dsimp only at H
      have A26 := Aside0.mk A260
      clear A260
      by_cases c27 : t215 = 0
      ·rw [if_pos c27] at H
       have c27b0 : (t215 == 0) = true := beq_iff_eq.mpr c27
       have c27b1 : (t215 != 0) = false := bne_eq_false_iff_eq.mpr c27
       clear c27
       have H' := Aside0.mk H
       clear H
       obtain ⟨Ao28, co28, eo28⟩ := Kd.R_slice HO_7.out
       subst eo28
       go_wp2_with ((((with_reducible refine gate_callee (f := 133) rfl ?_); refine goesL_ (some 37) rfl rfl Tryz.func133 (by kernel_rfl) rfl #[.slice Ao28 t211.length co28, .int .i64 x9_1] rfl (by (try simp only [List.map_toArray, List.map_cons, List.map_nil]); rfl) ?_; (with_reducible refine (nat_Bit.calls _ _ t211 x9_1 t215 _ ?side1 ?side2 A26.out).mono ?_); (case side1 => exact (Kd.R_reads' HO_7.out).2.2); (case side2 => exact (Kd.R_reads' HO_7.out).2.1); rintro e w' ⟨rfl, ⟨nd, rfl⟩⟩; refine ⟨_, rfl, ?_⟩)))
       go_roundg k1
       case measure => have := HK1.out; omega
       case rel => exact ⟨(wrap64 (x9_1 + 1)), (by rfl), H', ⟨by have := HK1.out; omega⟩, ⟨by (with_reducible repeat ((apply Kd.R_drewN))); exact HO_0.out⟩, ⟨by (with_reducible repeat ((apply Kd.R_drewN))); exact HO_7.out⟩, ⟨by repeat ((with_reducible first | exact HB.out | apply pw_below_drewN))⟩⟩
      ·rw [if_neg c27] at H
       have c27b0 : (t215 == 0) = false := beq_eq_false_iff_ne.mpr c27
       have c27b1 : (t215 != 0) = true := bne_iff_ne.mpr c27
       replace H := Option.bind_eq_some_iff.mp H
       obtain ⟨t216, A290, H⟩ := H
       try dsimp only at H
       have A29 := Aside0.mk A290
       clear A290
       replace H := Option.bind_eq_some_iff.mp H
       obtain ⟨⟨t219, t220⟩, A300, H⟩ := H
       try dsimp only at H
       have A30 := Aside0.mk A300
       clear A300
       replace H := Option.bind_eq_some_iff.mp H
       obtain ⟨t223, A310, H⟩ := H
       try dsimp only at H
       have A31 := Aside0.mk A310
       clear A310
       by_cases c32 : t223 = true
       ·subst c32
        rw [if_pos rfl] at H
        obtain rfl := Option.some.inj H
        simp only [Option.some.injEq, Prod.mk.injEq] at H
        obtain ⟨rfl⟩ := H
        obtain ⟨Ao33, co33, eo33⟩ := Kd.R_slice HO_7.out
        subst eo33
        go_wp2_with (first | ((with_reducible refine gate_callee (f := 133) rfl ?_); refine goesL_ (some 37) rfl rfl Tryz.func133 (by kernel_rfl) rfl #[.slice Ao33 t211.length co33, .int .i64 x9_1] rfl (by (try simp only [List.map_toArray, List.map_cons, List.map_nil]); rfl) ?_; (with_reducible refine (nat_Bit.calls _ _ t211 x9_1 t215 _ ?side1 ?side2 A26.out).mono ?_); (case side1 => exact (Kd.R_reads' HO_7.out).2.2); (case side2 => exact (Kd.R_reads' HO_7.out).2.1); rintro e w' ⟨rfl, ⟨nd, rfl⟩⟩; refine ⟨_, rfl, ?_⟩) | ((with_reducible refine gate_callee (f := 57) rfl ?_); refine goesL_ (some 43) rfl rfl Tryz.func57 (by kernel_rfl) rfl #[.int .u64 a1] rfl (by (try simp only [List.map_toArray, List.map_cons, List.map_nil]); rfl) ?_; (with_reducible refine (nat_Of.calls a1 t216 _ A29.out).mono ?_); rintro e w34 ⟨v217, rfl, ho0, hb⟩; refine ⟨_, rfl, ?_⟩; have HO218 := Aside0.mk (Kd.R_lower (Kd.R_new' (Kd.R_new' ho0 (Kd.R_lt (by (with_reducible repeat ((apply Kd.R_drewN))); exact HO_0.out))) (Kd.R_lt (by (with_reducible repeat ((apply Kd.R_drewN))); exact HO_7.out))) (below_size (by repeat ((with_reducible first | exact HB.out | apply pw_below_drewN))))); replace HO_0 := Aside0.mk (Kd.R_elder' (by (with_reducible repeat ((apply Kd.R_drewN))); exact HO_0.out) (Kd.R_base ho0) hb); replace HO_7 := Aside0.mk (Kd.R_elder' (by (with_reducible repeat ((apply Kd.R_drewN))); exact HO_7.out) (Kd.R_base ho0) hb); replace HB := Aside0.mk (below_step (by repeat ((with_reducible first | exact HB.out | apply pw_below_drewN))) hb); clear hb ho0; obtain ⟨Ao35, co35, eo35⟩ := Kd.R_slice HO218.out; subst eo35) | ((with_reducible refine gate_callee (f := 93) rfl ?_); refine goesL_ (some 45) rfl rfl Tryz.func93 (by kernel_rfl) rfl #[.slice Ao35 t216.length co35, .slice (some ad207) t200.length co21] rfl (by (try simp only [List.map_toArray, List.map_cons, List.map_nil]); rfl) ?_; (with_reducible refine (modn_Mod.calls _ _ t216 _ _ t200 t219 t220 _ ?side1 ?side2 ?side3 ?side4 A30.out).mono ?_); (case side1 => exact (Kd.R_reads' HO218.out).2.2); (case side2 => exact (Kd.R_reads' HO218.out).2.1); (case side3 => exact (Kd.R_reads' HO_0.out).2.2); (case side4 => exact (Kd.R_reads' HO_0.out).2.1); rintro e w36 ⟨v221, rfl, ho0, hb⟩; refine ⟨_, rfl, ?_⟩; have HO222 := Aside0.mk (Kd.R_lower (Kd.R_new' (Kd.R_new' (Kd.R_new' ho0 (Kd.R_lt HO_0.out)) (Kd.R_lt HO_7.out)) (Kd.R_lt HO218.out)) (below_size HB.out)); replace HO_0 := Aside0.mk (Kd.R_elder' HO_0.out (Kd.R_base ho0) hb); replace HO_7 := Aside0.mk (Kd.R_elder' HO_7.out (Kd.R_base ho0) hb); replace HO218 := Aside0.mk (Kd.R_elder' HO218.out (Kd.R_base ho0) hb); replace HB := Aside0.mk (below_step HB.out hb); clear hb ho0; obtain ⟨Ao37, co37, eo37⟩ := Kd.R_slice HO222.out; subst eo37) | ((with_reducible refine gate_callee (f := 131) rfl ?_); refine goesL_ (some 49) rfl rfl Tryz.func131 (by kernel_rfl) rfl #[.slice Ao37 t219.length co37] rfl (by (try simp only [List.map_toArray, List.map_cons, List.map_nil]); rfl) ?_; (with_reducible refine (modn_zero.calls _ _ t219 true _ ?side1 ?side2 A31.out).mono ?_); (case side1 => exact (Kd.R_reads' HO222.out).2.2); (case side2 => exact (Kd.R_reads' HO222.out).2.1); rintro e w38 ⟨rfl, hb⟩; refine ⟨_, rfl, ?_⟩; replace HO_0 := Aside0.mk (Kd.R_below HO_0.out hb); replace HO_7 := Aside0.mk (Kd.R_below HO_7.out hb); replace HO218 := Aside0.mk (Kd.R_below HO218.out hb); replace HO222 := Aside0.mk (Kd.R_below HO222.out hb); replace HB := Aside0.mk (below_step HB.out hb); clear hb))
        go_ret
        exact ⟨by rfl, HB.out⟩
       ·replace c32 := Bool.eq_false_iff.mpr c32
        subst c32
        rw [if_neg (show ¬ (false = true) by decide)] at H
        replace H := Option.bind_eq_some_iff.mp H
        obtain ⟨t224, A390, H⟩ := H
        try dsimp only at H
        have A39 := Aside0.mk A390
        clear A390
        replace H := Option.bind_eq_some_iff.mp H
        obtain ⟨⟨t227, t228⟩, A400, H⟩ := H
        try dsimp only at H
        have A40 := Aside0.mk A400
        clear A400
        replace H := Option.bind_eq_some_iff.mp H
        obtain ⟨t231, A410, H⟩ := H
        try dsimp only at H
        have A41 := Aside0.mk A410
        clear A410
        replace H := Option.bind_eq_some_iff.mp H
        obtain ⟨t234, A420, H⟩ := H
        try dsimp only at H
        have A42 := Aside0.mk A420
        clear A420
        by_cases c43 : t234 = 0
        ·rw [if_pos c43] at H
         have c43b0 : (t234 == 0) = true := beq_iff_eq.mpr c43
         have c43b1 : (t234 != 0) = false := bne_eq_false_iff_eq.mpr c43
         clear c43
         obtain rfl := Option.some.inj H
         simp only [Option.some.injEq, Prod.mk.injEq] at H
         obtain ⟨rfl⟩ := H
         obtain ⟨Ao44, co44, eo44⟩ := Kd.R_slice HO_7.out
         subst eo44
         go_wp2_with (first | ((with_reducible refine gate_callee (f := 133) rfl ?_); refine goesL_ (some 37) rfl rfl Tryz.func133 (by kernel_rfl) rfl #[.slice Ao44 t211.length co44, .int .i64 x9_1] rfl (by (try simp only [List.map_toArray, List.map_cons, List.map_nil]); rfl) ?_; (with_reducible refine (nat_Bit.calls _ _ t211 x9_1 t215 _ ?side1 ?side2 A26.out).mono ?_); (case side1 => exact (Kd.R_reads' HO_7.out).2.2); (case side2 => exact (Kd.R_reads' HO_7.out).2.1); rintro e w' ⟨rfl, ⟨nd, rfl⟩⟩; refine ⟨_, rfl, ?_⟩) | ((with_reducible refine gate_callee (f := 57) rfl ?_); refine goesL_ (some 43) rfl rfl Tryz.func57 (by kernel_rfl) rfl #[.int .u64 a1] rfl (by (try simp only [List.map_toArray, List.map_cons, List.map_nil]); rfl) ?_; (with_reducible refine (nat_Of.calls a1 t216 _ A29.out).mono ?_); rintro e w45 ⟨v217, rfl, ho0, hb⟩; refine ⟨_, rfl, ?_⟩; have HO218 := Aside0.mk (Kd.R_lower (Kd.R_new' (Kd.R_new' ho0 (Kd.R_lt (by (with_reducible repeat ((apply Kd.R_drewN))); exact HO_0.out))) (Kd.R_lt (by (with_reducible repeat ((apply Kd.R_drewN))); exact HO_7.out))) (below_size (by repeat ((with_reducible first | exact HB.out | apply pw_below_drewN))))); replace HO_0 := Aside0.mk (Kd.R_elder' (by (with_reducible repeat ((apply Kd.R_drewN))); exact HO_0.out) (Kd.R_base ho0) hb); replace HO_7 := Aside0.mk (Kd.R_elder' (by (with_reducible repeat ((apply Kd.R_drewN))); exact HO_7.out) (Kd.R_base ho0) hb); replace HB := Aside0.mk (below_step (by repeat ((with_reducible first | exact HB.out | apply pw_below_drewN))) hb); clear hb ho0; obtain ⟨Ao46, co46, eo46⟩ := Kd.R_slice HO218.out; subst eo46) | ((with_reducible refine gate_callee (f := 93) rfl ?_); refine goesL_ (some 45) rfl rfl Tryz.func93 (by kernel_rfl) rfl #[.slice Ao46 t216.length co46, .slice (some ad207) t200.length co21] rfl (by (try simp only [List.map_toArray, List.map_cons, List.map_nil]); rfl) ?_; (with_reducible refine (modn_Mod.calls _ _ t216 _ _ t200 t219 t220 _ ?side1 ?side2 ?side3 ?side4 A30.out).mono ?_); (case side1 => exact (Kd.R_reads' HO218.out).2.2); (case side2 => exact (Kd.R_reads' HO218.out).2.1); (case side3 => exact (Kd.R_reads' HO_0.out).2.2); (case side4 => exact (Kd.R_reads' HO_0.out).2.1); rintro e w47 ⟨v221, rfl, ho0, hb⟩; refine ⟨_, rfl, ?_⟩; have HO222 := Aside0.mk (Kd.R_lower (Kd.R_new' (Kd.R_new' (Kd.R_new' ho0 (Kd.R_lt HO_0.out)) (Kd.R_lt HO_7.out)) (Kd.R_lt HO218.out)) (below_size HB.out)); replace HO_0 := Aside0.mk (Kd.R_elder' HO_0.out (Kd.R_base ho0) hb); replace HO_7 := Aside0.mk (Kd.R_elder' HO_7.out (Kd.R_base ho0) hb); replace HO218 := Aside0.mk (Kd.R_elder' HO218.out (Kd.R_base ho0) hb); replace HB := Aside0.mk (below_step HB.out hb); clear hb ho0; obtain ⟨Ao48, co48, eo48⟩ := Kd.R_slice HO222.out; subst eo48) | ((with_reducible refine gate_callee (f := 131) rfl ?_); refine goesL_ (some 49) rfl rfl Tryz.func131 (by kernel_rfl) rfl #[.slice Ao48 t219.length co48] rfl (by (try simp only [List.map_toArray, List.map_cons, List.map_nil]); rfl) ?_; (with_reducible refine (modn_zero.calls _ _ t219 false _ ?side1 ?side2 A31.out).mono ?_); (case side1 => exact (Kd.R_reads' HO222.out).2.2); (case side2 => exact (Kd.R_reads' HO222.out).2.1); rintro e w49 ⟨rfl, hb⟩; refine ⟨_, rfl, ?_⟩; replace HO_0 := Aside0.mk (Kd.R_below HO_0.out hb); replace HO_7 := Aside0.mk (Kd.R_below HO_7.out hb); replace HO218 := Aside0.mk (Kd.R_below HO218.out hb); replace HO222 := Aside0.mk (Kd.R_below HO222.out hb); replace HB := Aside0.mk (below_step HB.out hb); clear hb) | ((with_reducible refine gate_callee (f := 164) rfl ?_); refine goesL_ (some 55) rfl rfl Tryz.func164 (by kernel_rfl) rfl #[.slice Ao44 t211.length co44, .int .i64 (wrap64 (-x9_1))] rfl (by (try simp only [List.map_toArray, List.map_cons, List.map_nil]); rfl) ?_; (with_reducible refine (nat_Shift.calls _ _ t211 (wrap64 (-x9_1)) t224 _ ?side1 ?side2 A39.out).mono ?_); (case side1 => exact (Kd.R_reads' HO_7.out).2.2); (case side2 => exact (Kd.R_reads' HO_7.out).2.1); rintro e w50 ⟨v225, rfl, ho0, hb⟩; refine ⟨_, rfl, ?_⟩; have HO226 := Aside0.mk (Kd.R_lower (Kd.R_new' (Kd.R_new' (Kd.R_new' (Kd.R_new' ho0 (Kd.R_lt HO_0.out)) (Kd.R_lt HO_7.out)) (Kd.R_lt HO218.out)) (Kd.R_lt HO222.out)) (below_size HB.out)); replace HO_0 := Aside0.mk (Kd.R_elder' HO_0.out (Kd.R_base ho0) hb); replace HO_7 := Aside0.mk (Kd.R_elder' HO_7.out (Kd.R_base ho0) hb); replace HO218 := Aside0.mk (Kd.R_elder' HO218.out (Kd.R_base ho0) hb); replace HO222 := Aside0.mk (Kd.R_elder' HO222.out (Kd.R_base ho0) hb); replace HB := Aside0.mk (below_step HB.out hb); clear hb ho0; obtain ⟨Ao51, co51, eo51⟩ := Kd.R_slice HO226.out; subst eo51) | ((with_reducible refine gate_callee (f := 95) rfl ?_); refine goesL_ (some 57) rfl rfl Tryz.func95 (by kernel_rfl) rfl #[.slice Ao48 t219.length co48, .slice Ao51 t224.length co51, .slice (some ad207) t200.length co21] rfl (by (try simp only [List.map_toArray, List.map_cons, List.map_nil]); rfl) ?_; (with_reducible refine (modn_Pow.calls k1 _ _ t219 _ _ t224 _ _ t200 t227 t228 _ ?side1 ?side2 ?side3 ?side4 ?side5 ?side6 A40.out).mono ?_); (case side1 => exact (Kd.R_reads' HO222.out).2.2); (case side2 => exact (Kd.R_reads' HO222.out).2.1); (case side3 => exact (Kd.R_reads' HO226.out).2.2); (case side4 => exact (Kd.R_reads' HO226.out).2.1); (case side5 => exact (Kd.R_reads' HO_0.out).2.2); (case side6 => exact (Kd.R_reads' HO_0.out).2.1); rintro e w52 ⟨v229, rfl, ho0, hb⟩; refine ⟨_, rfl, ?_⟩; have HO230 := Aside0.mk (Kd.R_lower (Kd.R_new' (Kd.R_new' (Kd.R_new' (Kd.R_new' (Kd.R_new' ho0 (Kd.R_lt HO_0.out)) (Kd.R_lt HO_7.out)) (Kd.R_lt HO218.out)) (Kd.R_lt HO222.out)) (Kd.R_lt HO226.out)) (below_size HB.out)); replace HO_0 := Aside0.mk (Kd.R_elder' HO_0.out (Kd.R_base ho0) hb); replace HO_7 := Aside0.mk (Kd.R_elder' HO_7.out (Kd.R_base ho0) hb); replace HO218 := Aside0.mk (Kd.R_elder' HO218.out (Kd.R_base ho0) hb); replace HO222 := Aside0.mk (Kd.R_elder' HO222.out (Kd.R_base ho0) hb); replace HO226 := Aside0.mk (Kd.R_elder' HO226.out (Kd.R_base ho0) hb); replace HB := Aside0.mk (below_step HB.out hb); clear hb ho0) | ((with_reducible refine gate_callee (f := 57) rfl ?_); refine goesL_ (some 61) rfl rfl Tryz.func57 (by kernel_rfl) rfl #[.int .u64 1] rfl (by (try simp only [List.map_toArray, List.map_cons, List.map_nil]); rfl) ?_; (with_reducible refine (nat_Of.calls 1 t231 _ A41.out).mono ?_); rintro e w53 ⟨v232, rfl, ho0, hb⟩; refine ⟨_, rfl, ?_⟩; have HO233 := Aside0.mk (Kd.R_lower (Kd.R_new' (Kd.R_new' (Kd.R_new' (Kd.R_new' (Kd.R_new' (Kd.R_new' ho0 (Kd.R_lt HO_0.out)) (Kd.R_lt HO_7.out)) (Kd.R_lt HO218.out)) (Kd.R_lt HO222.out)) (Kd.R_lt HO226.out)) (Kd.R_lt HO230.out)) (below_size HB.out)); replace HO_0 := Aside0.mk (Kd.R_elder' HO_0.out (Kd.R_base ho0) hb); replace HO_7 := Aside0.mk (Kd.R_elder' HO_7.out (Kd.R_base ho0) hb); replace HO218 := Aside0.mk (Kd.R_elder' HO218.out (Kd.R_base ho0) hb); replace HO222 := Aside0.mk (Kd.R_elder' HO222.out (Kd.R_base ho0) hb); replace HO226 := Aside0.mk (Kd.R_elder' HO226.out (Kd.R_base ho0) hb); replace HO230 := Aside0.mk (Kd.R_elder' HO230.out (Kd.R_base ho0) hb); replace HB := Aside0.mk (below_step HB.out hb); clear hb ho0; obtain ⟨Ao54, co54, eo54⟩ := Kd.R_slice HO230.out; subst eo54; obtain ⟨Ao55, co55, eo55⟩ := Kd.R_slice HO233.out; subst eo55) | ((with_reducible refine gate_callee (f := 58) rfl ?_); refine goesL_ (some 62) rfl rfl Tryz.func58 (by kernel_rfl) rfl #[.slice Ao54 t227.length co54, .slice Ao55 t231.length co55] rfl (by (try simp only [List.map_toArray, List.map_cons, List.map_nil]); rfl) ?_; (with_reducible refine (nat_Cmp.calls _ _ t227 _ _ t231 t234 _ ?side1 ?side2 ?side3 ?side4 A42.out).mono ?_); (case side1 => exact (Kd.R_reads' HO230.out).2.2); (case side2 => exact (Kd.R_reads' HO230.out).2.1); (case side3 => exact (Kd.R_reads' HO233.out).2.2); (case side4 => exact (Kd.R_reads' HO233.out).2.1); rintro e w' ⟨rfl, ⟨nd, rfl⟩⟩; refine ⟨_, rfl, ?_⟩))
         go_ret
         exact ⟨by rfl, by repeat ((with_reducible first | exact HB.out | apply pw_below_drewN))⟩
        ·rw [if_neg c43] at H
         have c43b0 : (t234 == 0) = false := beq_eq_false_iff_ne.mpr c43
         have c43b1 : (t234 != 0) = true := bne_iff_ne.mpr c43
         have H' := Aside0.mk H
         clear H
         obtain ⟨Ao56, co56, eo56⟩ := Kd.R_slice HO_7.out
         subst eo56
         go_wp2_with (first | ((with_reducible refine gate_callee (f := 133) rfl ?_); refine goesL_ (some 37) rfl rfl Tryz.func133 (by kernel_rfl) rfl #[.slice Ao56 t211.length co56, .int .i64 x9_1] rfl (by (try simp only [List.map_toArray, List.map_cons, List.map_nil]); rfl) ?_; (with_reducible refine (nat_Bit.calls _ _ t211 x9_1 t215 _ ?side1 ?side2 A26.out).mono ?_); (case side1 => exact (Kd.R_reads' HO_7.out).2.2); (case side2 => exact (Kd.R_reads' HO_7.out).2.1); rintro e w' ⟨rfl, ⟨nd, rfl⟩⟩; refine ⟨_, rfl, ?_⟩) | ((with_reducible refine gate_callee (f := 57) rfl ?_); refine goesL_ (some 43) rfl rfl Tryz.func57 (by kernel_rfl) rfl #[.int .u64 a1] rfl (by (try simp only [List.map_toArray, List.map_cons, List.map_nil]); rfl) ?_; (with_reducible refine (nat_Of.calls a1 t216 _ A29.out).mono ?_); rintro e w57 ⟨v217, rfl, ho0, hb⟩; refine ⟨_, rfl, ?_⟩; have HO218 := Aside0.mk (Kd.R_lower (Kd.R_new' (Kd.R_new' ho0 (Kd.R_lt (by (with_reducible repeat ((apply Kd.R_drewN))); exact HO_0.out))) (Kd.R_lt (by (with_reducible repeat ((apply Kd.R_drewN))); exact HO_7.out))) (below_size (by repeat ((with_reducible first | exact HB.out | apply pw_below_drewN))))); replace HO_0 := Aside0.mk (Kd.R_elder' (by (with_reducible repeat ((apply Kd.R_drewN))); exact HO_0.out) (Kd.R_base ho0) hb); replace HO_7 := Aside0.mk (Kd.R_elder' (by (with_reducible repeat ((apply Kd.R_drewN))); exact HO_7.out) (Kd.R_base ho0) hb); replace HB := Aside0.mk (below_step (by repeat ((with_reducible first | exact HB.out | apply pw_below_drewN))) hb); clear hb ho0; obtain ⟨Ao58, co58, eo58⟩ := Kd.R_slice HO218.out; subst eo58) | ((with_reducible refine gate_callee (f := 93) rfl ?_); refine goesL_ (some 45) rfl rfl Tryz.func93 (by kernel_rfl) rfl #[.slice Ao58 t216.length co58, .slice (some ad207) t200.length co21] rfl (by (try simp only [List.map_toArray, List.map_cons, List.map_nil]); rfl) ?_; (with_reducible refine (modn_Mod.calls _ _ t216 _ _ t200 t219 t220 _ ?side1 ?side2 ?side3 ?side4 A30.out).mono ?_); (case side1 => exact (Kd.R_reads' HO218.out).2.2); (case side2 => exact (Kd.R_reads' HO218.out).2.1); (case side3 => exact (Kd.R_reads' HO_0.out).2.2); (case side4 => exact (Kd.R_reads' HO_0.out).2.1); rintro e w59 ⟨v221, rfl, ho0, hb⟩; refine ⟨_, rfl, ?_⟩; have HO222 := Aside0.mk (Kd.R_lower (Kd.R_new' (Kd.R_new' (Kd.R_new' ho0 (Kd.R_lt HO_0.out)) (Kd.R_lt HO_7.out)) (Kd.R_lt HO218.out)) (below_size HB.out)); replace HO_0 := Aside0.mk (Kd.R_elder' HO_0.out (Kd.R_base ho0) hb); replace HO_7 := Aside0.mk (Kd.R_elder' HO_7.out (Kd.R_base ho0) hb); replace HO218 := Aside0.mk (Kd.R_elder' HO218.out (Kd.R_base ho0) hb); replace HB := Aside0.mk (below_step HB.out hb); clear hb ho0; obtain ⟨Ao60, co60, eo60⟩ := Kd.R_slice HO222.out; subst eo60) | ((with_reducible refine gate_callee (f := 131) rfl ?_); refine goesL_ (some 49) rfl rfl Tryz.func131 (by kernel_rfl) rfl #[.slice Ao60 t219.length co60] rfl (by (try simp only [List.map_toArray, List.map_cons, List.map_nil]); rfl) ?_; (with_reducible refine (modn_zero.calls _ _ t219 false _ ?side1 ?side2 A31.out).mono ?_); (case side1 => exact (Kd.R_reads' HO222.out).2.2); (case side2 => exact (Kd.R_reads' HO222.out).2.1); rintro e w61 ⟨rfl, hb⟩; refine ⟨_, rfl, ?_⟩; replace HO_0 := Aside0.mk (Kd.R_below HO_0.out hb); replace HO_7 := Aside0.mk (Kd.R_below HO_7.out hb); replace HO218 := Aside0.mk (Kd.R_below HO218.out hb); replace HO222 := Aside0.mk (Kd.R_below HO222.out hb); replace HB := Aside0.mk (below_step HB.out hb); clear hb) | ((with_reducible refine gate_callee (f := 164) rfl ?_); refine goesL_ (some 55) rfl rfl Tryz.func164 (by kernel_rfl) rfl #[.slice Ao56 t211.length co56, .int .i64 (wrap64 (-x9_1))] rfl (by (try simp only [List.map_toArray, List.map_cons, List.map_nil]); rfl) ?_; (with_reducible refine (nat_Shift.calls _ _ t211 (wrap64 (-x9_1)) t224 _ ?side1 ?side2 A39.out).mono ?_); (case side1 => exact (Kd.R_reads' HO_7.out).2.2); (case side2 => exact (Kd.R_reads' HO_7.out).2.1); rintro e w62 ⟨v225, rfl, ho0, hb⟩; refine ⟨_, rfl, ?_⟩; have HO226 := Aside0.mk (Kd.R_lower (Kd.R_new' (Kd.R_new' (Kd.R_new' (Kd.R_new' ho0 (Kd.R_lt HO_0.out)) (Kd.R_lt HO_7.out)) (Kd.R_lt HO218.out)) (Kd.R_lt HO222.out)) (below_size HB.out)); replace HO_0 := Aside0.mk (Kd.R_elder' HO_0.out (Kd.R_base ho0) hb); replace HO_7 := Aside0.mk (Kd.R_elder' HO_7.out (Kd.R_base ho0) hb); replace HO218 := Aside0.mk (Kd.R_elder' HO218.out (Kd.R_base ho0) hb); replace HO222 := Aside0.mk (Kd.R_elder' HO222.out (Kd.R_base ho0) hb); replace HB := Aside0.mk (below_step HB.out hb); clear hb ho0; obtain ⟨Ao63, co63, eo63⟩ := Kd.R_slice HO226.out; subst eo63) | ((with_reducible refine gate_callee (f := 95) rfl ?_); refine goesL_ (some 57) rfl rfl Tryz.func95 (by kernel_rfl) rfl #[.slice Ao60 t219.length co60, .slice Ao63 t224.length co63, .slice (some ad207) t200.length co21] rfl (by (try simp only [List.map_toArray, List.map_cons, List.map_nil]); rfl) ?_; (with_reducible refine (modn_Pow.calls k1 _ _ t219 _ _ t224 _ _ t200 t227 t228 _ ?side1 ?side2 ?side3 ?side4 ?side5 ?side6 A40.out).mono ?_); (case side1 => exact (Kd.R_reads' HO222.out).2.2); (case side2 => exact (Kd.R_reads' HO222.out).2.1); (case side3 => exact (Kd.R_reads' HO226.out).2.2); (case side4 => exact (Kd.R_reads' HO226.out).2.1); (case side5 => exact (Kd.R_reads' HO_0.out).2.2); (case side6 => exact (Kd.R_reads' HO_0.out).2.1); rintro e w64 ⟨v229, rfl, ho0, hb⟩; refine ⟨_, rfl, ?_⟩; have HO230 := Aside0.mk (Kd.R_lower (Kd.R_new' (Kd.R_new' (Kd.R_new' (Kd.R_new' (Kd.R_new' ho0 (Kd.R_lt HO_0.out)) (Kd.R_lt HO_7.out)) (Kd.R_lt HO218.out)) (Kd.R_lt HO222.out)) (Kd.R_lt HO226.out)) (below_size HB.out)); replace HO_0 := Aside0.mk (Kd.R_elder' HO_0.out (Kd.R_base ho0) hb); replace HO_7 := Aside0.mk (Kd.R_elder' HO_7.out (Kd.R_base ho0) hb); replace HO218 := Aside0.mk (Kd.R_elder' HO218.out (Kd.R_base ho0) hb); replace HO222 := Aside0.mk (Kd.R_elder' HO222.out (Kd.R_base ho0) hb); replace HO226 := Aside0.mk (Kd.R_elder' HO226.out (Kd.R_base ho0) hb); replace HB := Aside0.mk (below_step HB.out hb); clear hb ho0) | ((with_reducible refine gate_callee (f := 57) rfl ?_); refine goesL_ (some 61) rfl rfl Tryz.func57 (by kernel_rfl) rfl #[.int .u64 1] rfl (by (try simp only [List.map_toArray, List.map_cons, List.map_nil]); rfl) ?_; (with_reducible refine (nat_Of.calls 1 t231 _ A41.out).mono ?_); rintro e w65 ⟨v232, rfl, ho0, hb⟩; refine ⟨_, rfl, ?_⟩; have HO233 := Aside0.mk (Kd.R_lower (Kd.R_new' (Kd.R_new' (Kd.R_new' (Kd.R_new' (Kd.R_new' (Kd.R_new' ho0 (Kd.R_lt HO_0.out)) (Kd.R_lt HO_7.out)) (Kd.R_lt HO218.out)) (Kd.R_lt HO222.out)) (Kd.R_lt HO226.out)) (Kd.R_lt HO230.out)) (below_size HB.out)); replace HO_0 := Aside0.mk (Kd.R_elder' HO_0.out (Kd.R_base ho0) hb); replace HO_7 := Aside0.mk (Kd.R_elder' HO_7.out (Kd.R_base ho0) hb); replace HO218 := Aside0.mk (Kd.R_elder' HO218.out (Kd.R_base ho0) hb); replace HO222 := Aside0.mk (Kd.R_elder' HO222.out (Kd.R_base ho0) hb); replace HO226 := Aside0.mk (Kd.R_elder' HO226.out (Kd.R_base ho0) hb); replace HO230 := Aside0.mk (Kd.R_elder' HO230.out (Kd.R_base ho0) hb); replace HB := Aside0.mk (below_step HB.out hb); clear hb ho0; obtain ⟨Ao66, co66, eo66⟩ := Kd.R_slice HO230.out; subst eo66; obtain ⟨Ao67, co67, eo67⟩ := Kd.R_slice HO233.out; subst eo67) | ((with_reducible refine gate_callee (f := 58) rfl ?_); refine goesL_ (some 62) rfl rfl Tryz.func58 (by kernel_rfl) rfl #[.slice Ao66 t227.length co66, .slice Ao67 t231.length co67] rfl (by (try simp only [List.map_toArray, List.map_cons, List.map_nil]); rfl) ?_; (with_reducible refine (nat_Cmp.calls _ _ t227 _ _ t231 t234 _ ?side1 ?side2 ?side3 ?side4 A42.out).mono ?_); (case side1 => exact (Kd.R_reads' HO230.out).2.2); (case side2 => exact (Kd.R_reads' HO230.out).2.1); (case side3 => exact (Kd.R_reads' HO233.out).2.2); (case side4 => exact (Kd.R_reads' HO233.out).2.1); rintro e w' ⟨rfl, ⟨nd, rfl⟩⟩; refine ⟨_, rfl, ?_⟩))
         go_loopg [12, 65] k1 (fun kq v12 v65 w' => ∃ (x12_2 : List Int) (x65_2 : Int), v65 = .int .i64 x65_2 ∧ Aside0 (modn_Tells.l1 kq t200 t211 x12_2 x9_1 x65_2 = some r) ∧ Aside0 (kq ≤ k1) ∧ Aside0 (Kd.R (Kd.int .u64) 23 w' w.heap.size (fun k_ => some k_ ≠ ((.slice Ao56 t211.length co56) : Value).ownBlock ∧ some k_ ≠ (v12 : Value).ownBlock) (.slice (some ad207) t200.length co21) t200) ∧ Aside0 (Kd.R (Kd.int .u64) 23 w' w.heap.size (fun k_ => some k_ ≠ ((.slice (some ad207) t200.length co21) : Value).ownBlock ∧ some k_ ≠ (v12 : Value).ownBlock) (.slice Ao56 t211.length co56) t211) ∧ Aside0 (Kd.R (Kd.int .u64) 23 w' w.heap.size (fun k_ => some k_ ≠ ((.slice (some ad207) t200.length co21) : Value).ownBlock ∧ some k_ ≠ ((.slice Ao56 t211.length co56) : Value).ownBlock) v12 x12_2) ∧ Aside0 (Below w.heap.size w w'))
         case atStart => exact ⟨(t227), (0), (by rfl), H', ⟨Nat.le_refl _⟩, ⟨by (with_reducible repeat ((apply Kd.R_drewN))); exact Kd.R_mono HO_0.out (fun _ hk => ⟨hk.1.1.1.1.1, hk.1.2⟩)⟩, ⟨by (with_reducible repeat ((apply Kd.R_drewN))); exact Kd.R_mono HO_7.out (fun _ hk => ⟨hk.1.1.1.1.1, hk.1.2⟩)⟩, ⟨by (with_reducible repeat ((apply Kd.R_drewN))); exact Kd.R_mono HO230.out (fun _ hk => ⟨hk.1.1.1.1.1.2, hk.1.1.1.1.2⟩)⟩, ⟨by repeat ((with_reducible first | exact HB.out | apply pw_below_drewN))⟩⟩
         case round =>
          clear H'
          try clear c1
          try clear c2
          try clear p2
          try clear q2
          try clear hx2
          try clear qi2
          try clear c3
          try clear c4
          try clear c5
          try clear c6
          try clear c6b0
          try clear p6
          try clear c9
          try clear c11
          try clear c11b0
          try clear c11b1
          try clear c12
          try clear c12b0
          try clear c12b1
          try clear c13
          try clear c16
          try clear c17
          try clear p20
          try clear q20
          try clear hx20
          try clear qi20
          try clear c27
          try clear c27b0
          try clear c27b1
          try clear c32
          try clear c43
          try clear c43b0
          try clear c43b1
          try clear c57
          try clear c58
          try clear p64
          try clear hx207_0
          try clear p2
          try clear p20
          try clear p207
          try clear q2
          try clear q20
          try clear q207
          obtain ⟨x12_2, x65_2, rfl, HA, HK2, HO_0, HO_7, HO_12, HB⟩ := hrel
          cases gk with
          | zero => exact absurd HA.out (by simp [modn_Tells.l1])
          | succ k2 =>
           have H := HA.out
           clear HA
           simp only [modn_Tells.l1] at H
           by_cases c68 : x65_2 < x9_1
           ·rw [if_pos c68] at H
            have c68b0 : decide (x65_2 < x9_1) = true := decide_eq_true c68
            clear c68
            replace H := Option.bind_eq_some_iff.mp H
            obtain ⟨t235, A690, H⟩ := H
            try dsimp only at H
            have A69 := Aside0.mk A690
            clear A690
            by_cases c70 : t235 = 0
            ·rw [if_pos c70] at H
             have c70b0 : (t235 == 0) = true := beq_iff_eq.mpr c70
             have c70b1 : (t235 != 0) = false := bne_eq_false_iff_eq.mpr c70
             clear c70
             obtain rfl := Option.some.inj H
             simp only [Option.some.injEq, Prod.mk.injEq] at H
             obtain ⟨rfl⟩ := H
             obtain ⟨Ao71, co71, eo71⟩ := Kd.R_slice HO_12.out
             subst eo71
             go_wp2_with ((((with_reducible refine gate_callee (f := 58) rfl ?_); refine goesL_ (some 69) rfl rfl Tryz.func58 (by kernel_rfl) rfl #[.slice Ao71 x12_2.length co71, .slice Ao56 t211.length co56] rfl (by (try simp only [List.map_toArray, List.map_cons, List.map_nil]); rfl) ?_; (with_reducible refine (nat_Cmp.calls _ _ x12_2 _ _ t211 t235 _ ?side1 ?side2 ?side3 ?side4 A69.out).mono ?_); (case side1 => exact (Kd.R_reads' HO_12.out).2.2); (case side2 => exact (Kd.R_reads' HO_12.out).2.1); (case side3 => exact (Kd.R_reads' HO_7.out).2.2); (case side4 => exact (Kd.R_reads' HO_7.out).2.1); rintro e w' ⟨rfl, ⟨nd, rfl⟩⟩; refine ⟨_, rfl, ?_⟩)))
             go_ret
             exact ⟨by rfl, by repeat ((with_reducible first | exact HB.out | apply pw_below_drewN))⟩
            ·rw [if_neg c70] at H
             have c70b0 : (t235 == 0) = false := beq_eq_false_iff_ne.mpr c70
             have c70b1 : (t235 != 0) = true := bne_iff_ne.mpr c70
             replace H := Option.bind_eq_some_iff.mp H
             obtain ⟨⟨t236, t237⟩, A720, H⟩ := H
             try dsimp only at H
             have A72 := Aside0.mk A720
             clear A720
             have H' := Aside0.mk H
             clear H
             obtain ⟨Ao73, co73, eo73⟩ := Kd.R_slice HO_12.out
             subst eo73
             go_wp2_with (first | ((with_reducible refine gate_callee (f := 58) rfl ?_); refine goesL_ (some 69) rfl rfl Tryz.func58 (by kernel_rfl) rfl #[.slice Ao73 x12_2.length co73, .slice Ao56 t211.length co56] rfl (by (try simp only [List.map_toArray, List.map_cons, List.map_nil]); rfl) ?_; (with_reducible refine (nat_Cmp.calls _ _ x12_2 _ _ t211 t235 _ ?side1 ?side2 ?side3 ?side4 A69.out).mono ?_); (case side1 => exact (Kd.R_reads' HO_12.out).2.2); (case side2 => exact (Kd.R_reads' HO_12.out).2.1); (case side3 => exact (Kd.R_reads' HO_7.out).2.2); (case side4 => exact (Kd.R_reads' HO_7.out).2.1); rintro e w' ⟨rfl, ⟨nd, rfl⟩⟩; refine ⟨_, rfl, ?_⟩) | ((with_reducible refine gate_callee (f := 103) rfl ?_); refine goesL_ (some 75) rfl rfl Tryz.func103 (by kernel_rfl) rfl #[.slice Ao73 x12_2.length co73, .slice Ao73 x12_2.length co73, .slice (some ad207) t200.length co21] rfl (by (try simp only [List.map_toArray, List.map_cons, List.map_nil]); rfl) ?_; (with_reducible refine (modn_Mul.calls _ _ x12_2 _ _ x12_2 _ _ t200 t236 t237 _ ?side1 ?side2 ?side3 ?side4 ?side5 ?side6 A72.out).mono ?_); (case side1 => exact (Kd.R_reads' HO_12.out).2.2); (case side2 => exact (Kd.R_reads' HO_12.out).2.1); (case side3 => exact (Kd.R_reads' HO_12.out).2.2); (case side4 => exact (Kd.R_reads' HO_12.out).2.1); (case side5 => exact (Kd.R_reads' HO_0.out).2.2); (case side6 => exact (Kd.R_reads' HO_0.out).2.1); rintro e w74 ⟨v238, rfl, ho0, hb⟩; refine ⟨_, rfl, ?_⟩; have HO239 := Aside0.mk (Kd.R_lower (Kd.R_new' (Kd.R_new' (Kd.R_new' ho0 (Kd.R_lt (by (with_reducible repeat ((apply Kd.R_drewN))); exact HO_0.out))) (Kd.R_lt (by (with_reducible repeat ((apply Kd.R_drewN))); exact HO_7.out))) (Kd.R_lt (by (with_reducible repeat ((apply Kd.R_drewN))); exact HO_12.out))) (below_size (by repeat ((with_reducible first | exact HB.out | apply pw_below_drewN))))); replace HO_0 := Aside0.mk (Kd.R_elder' (by (with_reducible repeat ((apply Kd.R_drewN))); exact HO_0.out) (Kd.R_base ho0) hb); replace HO_7 := Aside0.mk (Kd.R_elder' (by (with_reducible repeat ((apply Kd.R_drewN))); exact HO_7.out) (Kd.R_base ho0) hb); replace HO_12 := Aside0.mk (Kd.R_elder' (by (with_reducible repeat ((apply Kd.R_drewN))); exact HO_12.out) (Kd.R_base ho0) hb); replace HB := Aside0.mk (below_step (by repeat ((with_reducible first | exact HB.out | apply pw_below_drewN))) hb); clear hb ho0))
             go_roundg k2
             case measure => have := HK1.out; have := HK2.out; omega
             case rel => exact ⟨(t236), (wrap64 (x65_2 + 1)), (by rfl), H', ⟨by have := HK1.out; have := HK2.out; omega⟩, ⟨by exact Kd.R_mono HO_0.out (fun _ hk => ⟨hk.1.1, hk.2⟩)⟩, ⟨by exact Kd.R_mono HO_7.out (fun _ hk => ⟨hk.1.1, hk.2⟩)⟩, ⟨by exact Kd.R_mono HO239.out (fun _ hk => ⟨hk.1.1.2, hk.1.2⟩)⟩, ⟨HB.out⟩⟩
           ·rw [if_neg c68] at H
            have c68b0 : decide (x65_2 < x9_1) = false := decide_eq_false c68
            clear c68
            obtain rfl := Option.some.inj H
            simp only [Option.some.injEq, Prod.mk.injEq] at H
            obtain ⟨rfl⟩ := H
            go_wp2
            go_ret
            exact ⟨by rfl, HB.out⟩
  ·rw [if_neg c11] at H
   exact absurd H (by simp)
end Go.Proofs.YtdmglajfmfjmlaaGreat.Cm
namespace Go.Proofs.YtdmglajfmfjmlaaGreat.Cm
open Go.RowKit Go.Proofs.YtdmglajfmfjmlaaGreatW.PrintWords Go.Proofs.YtdmglajfmfjmlaaGreatW.PrintLast Go.Proofs.YtdmglajfmfjmlaaGreatW.PrintMore
attribute [local go_sem] max2_int min2_int max_two min_two max_three min_three max_four min_four   -- for this text's walks alone
set_option linter.unusedVariables false
set_option linter.unusedSimpArgs false
end Go.Proofs.YtdmglajfmfjmlaaGreat.Cm
namespace Go.Proofs.YtdmglajfmfjmlaaGreat
set_option linter.unusedSimpArgs false
set_option linter.unusedVariables false
set_option maxRecDepth 100000
open Go.RowKit
theorem ok {n m : Nat} (h : ln n ≤ m) (hm : m ≤ 262144) : okN 262144 (ofN n) := okN_ofN (Nat.le_trans h hm)
end Go.Proofs.YtdmglajfmfjmlaaGreat
namespace Go.Proofs.YtdmglajfmfjmlaaGreat
set_option linter.unusedSimpArgs false
set_option linter.unusedVariables false
set_option maxRecDepth 100000
open Go.RowKit Go.Proofs.YtdmglajfmfjmlaaGreatW.PrintWords Go.Proofs.YtdmglajfmfjmlaaGreatW.PrintLast Go.Proofs.YtdmglajfmfjmlaaGreatW.PrintMore
section
variable {a b c : List Int}
theorem cm_trim (h : okN 262144 a) : Cm.nat_Trim.f a = some (ofN (nI a)) := if_pos h
theorem cm_div (h : okN 262144 a) (h' : okN 262144 b) : Cm.nat_Div.f a b = some (divR (nI a) (nI b)) := if_pos ⟨h, h'⟩
theorem cm_nmul (h : okN 262144 a) (h' : okN 262144 b) : Cm.nat_Mul.f a b = some (ofN (nI a * nI b)) := if_pos ⟨h, h'⟩
theorem cm_cmp (h : okN 262144 a) (h' : okN 262144 b) : Cm.nat_Cmp.f a b = some (cmpN (nI a) (nI b)) := if_pos ⟨h, h'⟩
theorem cm_add (h : okN 262144 a) (h' : okN 262144 b) : Cm.nat_Add.f a b = some (ofN (nI a + nI b)) := if_pos ⟨h, h'⟩
theorem cm_sub (h : okN 262144 a) (h' : okN 262144 b) : Cm.nat_Sub.f a b = some (ofN (nI a - nI b), (if nI a < nI b then 10 else 0 : Int)) := if_pos ⟨h, h'⟩
theorem cm_bits (h : okN 262144 a) : Cm.nat_Bits.f a = some ((blen (nI a) : Nat) : Int) := if_pos h
theorem cm_bit (h : okN 262144 a) {i : Nat} (hi : i ≤ 9223372036854775807) : Cm.nat_Bit.f a (i : Int) = some ((nI a / 2 ^ i % 2 : Nat) : Int) := by
  unfold Cm.nat_Bit.f; rw [if_pos ⟨h, by omega⟩, if_neg (by omega), Int.toNat_natCast]
theorem cm_of {n : Nat} (h : n < 18446744073709551616) : Cm.nat_Of.f (n : Int) = some (ofN n) := by
  unfold Cm.nat_Of.f; rw [if_pos (by omega), Int.toNat_natCast]
theorem cm_shift (h : okN 262144 a) (i : Int) : Cm.nat_Shift.f a i = some (ofN (shiftN (nI a) i)) := if_pos h
theorem cm_odd (h : okN 4096 a) (h' : okN 4096 b) (h'' : okN 1024 c) (h3 : nI c % 2 = 1) (h4 : 1 < nI c) : Cm.modn_odd.f a b c = some (ofN (powM (nI a) (nI b) (nI c))) := if_pos ⟨h, h', h'', h3, h4⟩
def modR (x m : Nat) : List Int × Int := (ofN (if m = 0 then 0 else x % m), if m = 0 then 11 else 0)
theorem modR_pos {x m : Nat} (h : 0 < m) : modR x m = (ofN (x % m), 0) := by unfold modR; rw [if_neg (by omega), if_neg (by omega)]
theorem mod_pure (h : okN 262144 a) (h' : okN 262144 b) : Cm.modn_Mod.f a b = some (modR (nI a) (nI b)) := by
  unfold Cm.modn_Mod.f
  rw [cm_div h h', Option.bind_some]; rfl
theorem okmul (h : okN 131072 a) (h' : okN 131072 b) : okN 262144 (ofN (nI a * nI b)) := ok (lnm (ln_nI h) (ln_nI h') (Nat.le_refl _)) (by omega)
theorem mmul_pure (h : okN 131072 a) (h' : okN 131072 b) (h'' : okN 262144 c) : Cm.modn_Mul.f a b c = some (modR (nI a * nI b) (nI c)) := by
  unfold Cm.modn_Mul.f
  rw [cm_nmul (h.le (by omega)) (h'.le (by omega)), Option.bind_some, mod_pure (okmul h h') h'', Option.bind_some, nI_ofN]
theorem zero_pure (h : okN 262144 a) : Cm.modn_zero.f a = some (decide (nI a = 0)) := by
  unfold Cm.modn_zero.f
  rw [cm_bits h, Option.bind_some]
  by_cases h0 : nI a = 0
  · rw [h0, blen_zero]; rfl
  · have : blen (nI a) ≠ 0 := by rw [blen_pos h0]; omega
    simp [h0, this]
end
theorem powM_lt {a e m : Nat} (h : 0 < m) : powM a e m < m := Nat.mod_lt _ h
theorem powM_zero {a m : Nat} (h : 1 < m) : powM a 0 m = 1 := by unfold powM; rw [Nat.pow_zero]; exact Nat.mod_eq_of_lt h
theorem powM_mod (a e m : Nat) : powM (a % m) e m = powM a e m := by unfold powM; exact (Nat.pow_mod a e m).symm
theorem powM_add (a e f m : Nat) : powM a e m * powM a f m % m = powM a (e + f) m := by unfold powM; rw [← Nat.mul_mod, ← Nat.pow_add]
theorem powM_one (a m : Nat) : powM a 1 m = a % m := by unfold powM; rw [Nat.pow_one]
theorem half_split (e j : Nat) : e / 2 ^ j = 2 * (e / 2 ^ (j + 1)) + e / 2 ^ j % 2 := div_next e j
theorem powM_sq (a e m : Nat) : powM a e m * powM a e m % m = powM a (2 * e) m := by rw [powM_add]; congr 1; omega
theorem ln_modlt {x m k : Nat} (hm : 0 < m) (h : ln m ≤ k) : ln (x % m) ≤ k := Nat.le_trans (ln_mono (Nat.le_of_lt (Nat.mod_lt x hm))) h
theorem pow_loop {m x e : Nat} (hm : 1 < m) (hl : ln m ≤ 65536) {le : List Int} (he : okN 262144 le) (hle : nI le = e) : ∀ (j k : Nat), j < k → j ≤ 16777216 →
    Cm.modn_Pow.l0 k le (ofN m) (ofN (x % m)) (ofN (powM x (e / 2 ^ j) m)) ((j : Int) - 1) = some (ofN (powM x e m), 0) := by
  intro j
  induction j with
  | zero =>
    intro k hk _
    obtain ⟨k, rfl⟩ : ∃ q, k = q + 1 := ⟨k - 1, by omega⟩
    simp only [Cm.modn_Pow.l0]
    rw [if_neg (by omega), Nat.pow_zero, Nat.div_one]
  | succ j ih =>
    intro k hk hj
    obtain ⟨k, rfl⟩ : ∃ q, k = q + 1 := ⟨k - 1, by omega⟩
    have hm0 : 0 < m := by omega
    have lm : okN 262144 (ofN m) := ok hl (by omega)
    have lo : ∀ y, okN 131072 (ofN (y % m)) := fun y => okN_ofN (Nat.le_trans (ln_modlt hm0 hl) (by omega))
    have lp : ∀ f, okN 131072 (ofN (powM x f m)) := fun f => lo _
    have ej : ((j + 1 : Nat) : Int) - 1 = (j : Int) := by omega
    simp only [Cm.modn_Pow.l0]
    rw [ej, if_pos (by omega), mmul_pure (lp _) (lp _) lm, nI_ofN, nI_ofN, modR_pos hm0, Option.bind_some, powM_sq, cm_bit he (by omega), Option.bind_some, hle]
    have hw : wrap64 ((j : Int) - 1) = (j : Int) - 1 := wr (by omega) (by omega)
    have hs := half_split e j
    have hb := Nat.mod_lt (e / 2 ^ j) (show 0 < 2 by omega)
    rw [hw]
    by_cases h1 : e / 2 ^ j % 2 = 1
    · rw [if_pos (by rw [h1]; rfl)]
      simp only
      rw [mmul_pure (lp _) (lo _) lm, nI_ofN, nI_ofN, nI_ofN, modR_pos hm0, Option.bind_some]
      have e1 : powM x (2 * (e / 2 ^ (j + 1))) m * (x % m) % m = powM x (e / 2 ^ j) m := by
        have := powM_add x (2 * (e / 2 ^ (j + 1))) 1 m
        rw [powM_one] at this
        rw [this, hs, h1]
      simp only
      rw [e1]
      exact ih k (by omega) (by omega)
    · have h0 : e / 2 ^ j % 2 = 0 := by omega
      rw [if_neg (by rw [h0]; decide)]
      have e1 : powM x (2 * (e / 2 ^ (j + 1))) m = powM x (e / 2 ^ j) m := by rw [hs, h0]; rfl
      simp only
      rw [e1]
      exact ih k (by omega) (by omega)
theorem lead_odd {m : Nat} (hm : 0 < m) : rd (ofN m) 0 = ((m % 18446744073709551616 : Nat) : Int) := by
  have h := rd_ofN m 0 (by have := ln_pos (show m ≠ 0 by omega); omega)
  rw [show ((0 : Nat) : Int) = 0 from rfl] at h
  rw [h, gd0_mod (limbs_b64 m), nv_limbs]
theorem blen_of_ln {f K : Nat} (h : ln f ≤ K) : blen f ≤ 64 * K := by
  have h3 := ln_le.1 h
  rw [show (18446744073709551616 : Nat) = 2 ^ 64 by decide +kernel, ← Nat.pow_mul] at h3
  exact blen_le.2 h3
theorem pow_pure {a e n : List Int} (ha : okN 4096 a) (he : okN 4096 e) (hn : okN 1024 n) : ∀ k, blen (nI e) < k →
    Cm.modn_Pow.f k a e n = some (ofN (if nI n = 0 then 0 else powM (nI a) (nI e) (nI n)), if nI n = 0 then 11 else 0) := by
  intro k hk
  have hn' := hn.le (m' := 262144) (by omega)
  have he' := he.le (m' := 262144) (by omega)
  have hln := ln_nI hn
  have hle := ln_nI he
  obtain ⟨m, hm⟩ : ∃ m, nI n = m := ⟨_, rfl⟩
  obtain ⟨x, hx⟩ : ∃ x, nI a = x := ⟨_, rfl⟩
  obtain ⟨f, hf⟩ : ∃ f, nI e = f := ⟨_, rfl⟩
  rw [hm] at hln
  rw [hf] at hle hk
  have lm : okN 262144 (ofN m) := ok hln (by omega)
  have c1 := cm_of (n := 1) (by omega)
  rw [show ((1 : Nat) : Int) = 1 from rfl] at c1
  unfold Cm.modn_Pow.f
  rw [cm_trim hn', hm, Option.bind_some, mod_pure (ha.le (by omega)) lm, nI_ofN, hx, hf, Option.bind_some]
  rcases Nat.eq_zero_or_pos m with h0 | h0
  · subst h0
    rw [show modR x 0 = (ofN 0, 11) from rfl]
    simp [ofN_zero]
  · rw [modR_pos h0, if_neg (show ¬ m = 0 by omega), if_neg (show ¬ m = 0 by omega)]
    simp only [if_true]
    rw [c1, Option.bind_some, cm_cmp lm (okS (by omega)), nI_ofN, nI_ofN, Option.bind_some]
    by_cases h1 : m = 1
    · subst h1
      rw [cmpN_eq rfl]
      simp [powM, Nat.mod_one, ofN_zero]
    · have hm1 : 1 < m := by omega
      have lx : okN 4096 (ofN (x % m)) := okN_ofN (Nat.le_trans (ln_modlt h0 hln) (by omega))
      rw [cmpN_gt hm1, if_neg (by omega), ofN_length, if_pos (by have := ln_pos (show m ≠ 0 by omega); omega), lead_odd h0, nv_bits_and _ (Nat.mod_lt _ (by omega))]
      have hpar : m % 18446744073709551616 % 2 = m % 2 := by omega
      rw [hpar]
      by_cases ho : m % 2 = 1
      · rw [if_pos (by rw [ho]; rfl), cm_odd lx he (okN_ofN hln) (by rw [nI_ofN]; exact ho) (by rw [nI_ofN]; exact hm1), Option.bind_some, nI_ofN, nI_ofN, hf, powM_mod]
      · have h0' : m % 2 = 0 := by omega
        rw [if_neg (by rw [h0']; decide), Option.bind_some, cm_bits he', hf, Option.bind_some]
        have hb : blen f ≤ 262144 := Nat.le_trans (blen_of_ln hle) (by omega)
        have hw : wrap64 (((blen f : Nat) : Int) - 1) = ((blen f : Nat) : Int) - 1 := wr (by omega) (by omega)
        have h := pow_loop (x := x) hm1 (Nat.le_trans hln (by omega)) he' hf (blen f) k hk (by omega)
        rw [Nat.div_eq_of_lt (lt_blen f), powM_zero hm1] at h
        rw [hw]
        exact h
end Go.Proofs.YtdmglajfmfjmlaaGreat
namespace Go.Proofs.YtdmglajfmfjmlaaGreat
set_option linter.unusedSimpArgs false
set_option linter.unusedVariables false
set_option maxRecDepth 100000
open Go.RowKit Go.Proofs.YtdmglajfmfjmlaaGreatW.PrintWords Go.Proofs.YtdmglajfmfjmlaaGreatW.PrintLast Go.Proofs.YtdmglajfmfjmlaaGreatW.PrintMore
def invN (a n : Nat) : Nat := ((List.range n).find? fun x => a * x % n == 1 % n).getD 0
theorem invN_spec {a n : Nat} (h : ∃ x, x < n ∧ a * x % n = 1 % n) : invN a n < n ∧ a * invN a n % n = 1 % n := by
  unfold invN
  cases hf : (List.range n).find? fun x => a * x % n == 1 % n with
  | none =>
    obtain ⟨x, hx, he⟩ := h
    have := List.find?_eq_none.1 hf x (List.mem_range.2 hx)
    simp [he] at this
  | some y =>
    have h1 := List.find?_some hf
    have h2 := List.mem_of_find?_eq_some hf
    exact ⟨List.mem_range.1 h2, by simpa using h1⟩
theorem inv_uniq {a n x y : Nat} (hx : x < n) (hy : y < n) (h1 : a * x % n = 1 % n) (h2 : a * y % n = 1 % n) : x = y := by
  have e1 : x * (a * y) % n = x := by rw [Nat.mul_mod, h2, ← Nat.mul_mod, Nat.mul_one, Nat.mod_eq_of_lt hx]
  have e2 : a * x * y % n = y := by rw [Nat.mul_mod, h1, ← Nat.mul_mod, Nat.one_mul, Nat.mod_eq_of_lt hy]
  rw [show x * (a * y) = a * x * y by rw [Nat.mul_comm a x, Nat.mul_assoc]] at e1
  exact e1.symm.trans e2
theorem invN_eq {a n x : Nat} (hx : x < n) (h : a * x % n = 1 % n) : invN a n = x :=
  have s := invN_spec ⟨x, hx, h⟩
  inv_uniq s.1 hx s.2 h
def subM (a b m : Nat) : Nat := if a < b then a + m - b else a - b
theorem minus_pure {a b c : List Int} (ha : okN 131072 a) (hb : okN 131072 b) (hc : okN 131072 c) : Cm.modn_minus.f a b c = some (ofN (subM (nI a) (nI b) (nI c))) := by
  unfold Cm.modn_minus.f subM
  rw [cm_sub (ha.le (by omega)) (hb.le (by omega)), Option.bind_some]
  by_cases h : nI a < nI b
  · simp only [if_pos h]
    rw [if_neg (by omega), cm_add (ha.le (by omega)) (hc.le (by omega)), Option.bind_some, cm_sub (ok (ln2 (ln_nI ha) (ln_nI hc) (by omega : 131072 + 1 ≤ 262144)) (by omega)) (hb.le (by omega)), Option.bind_some, nI_ofN]
  · simp only [if_neg h, if_true]
theorem subM_lt {a b m : Nat} (ha : a < m) (hb : b < m) : subM a b m < m := by unfold subM; split <;> omega
theorem subM_int {a b m : Nat} (hb : b < m) : ∃ t : Int, ((subM a b m : Nat) : Int) = a - b + m * t := by
  unfold subM
  split
  · exact ⟨1, by omega⟩
  · exact ⟨0, by omega⟩
def Cong (n a l o : Nat) : Prop := ∃ c : Int, (l : Int) * a - o = n * c
theorem cong_alg (n a l o x r q rest st new u t c d : Int) (h1 : l * a - o = n * c) (h2 : x * a - r = n * d) (h3 : o = q * r + rest) (h4 : q * x = st + n * u) (h5 : new = l - st + n * t) : new * a - rest = n * (c - q * d + u * a + t * a) := by
  subst h5 h3
  have e : st = q * x - n * u := by omega
  subst e
  grind
theorem Cong.next {n a l o x r : Nat} (h1 : Cong n a l o) (h2 : Cong n a x r) (hr : 0 < r) (hn : 0 < n) : Cong n a (subM l (o / r * x % n) n) (o % r) := by
  obtain ⟨c, h1⟩ := h1
  obtain ⟨d, h2⟩ := h2
  obtain ⟨t, ht⟩ := subM_int (a := l) (Nat.mod_lt (o / r * x) hn)
  refine ⟨_, cong_alg n a l o x r ((o / r : Nat) : Int) ((o % r : Nat) : Int) ((o / r * x % n : Nat) : Int) _ ((o / r * x / n : Nat) : Int) t c d h1 h2 ?_ ?_ ht⟩
  · have := Nat.div_add_mod o r
    rw [Nat.mul_comm] at this
    exact_mod_cast this.symm
  · have := Nat.div_add_mod (o / r * x) n
    rw [Nat.add_comm] at this
    exact_mod_cast this.symm
theorem Cong.unit {n a l : Nat} (h : Cong n a l 1) : a * l % n = 1 % n := by
  obtain ⟨c, h⟩ := h
  have e : ((a * l : Nat) : Int) = 1 + n * c := by push_cast; rw [Int.mul_comm]; omega
  have e2 : ((a * l % n : Nat) : Int) = ((1 % n : Nat) : Int) := by
    rw [Int.natCast_emod, e, Int.add_mul_emod_self_left]; rfl
  exact_mod_cast e2
theorem cong_gcd {n a l o : Nat} (h : Cong n a l o) (h1 : o = 1) : a * l % n = 1 % n := by subst h1; exact h.unit
theorem inverse_loop {n a G K : Nat} (hn : 0 < n) (hK : K ≤ 65536) (hl : ln n ≤ K) : ∀ (r o l x : Nat), ln o ≤ K → ln r ≤ K → l < n → x < n → Cong n a l o → Cong n a x r → Nat.gcd o r = G →
    ∃ k0, ∀ k, k0 ≤ k → Cm.modn_Inverse.l0 k (ofN n) (ofN r) (ofN o) (ofN x) (ofN l) = some (if G = 1 then (ofN (invN a n), 0) else ([], 30)) := by
  intro r
  induction r using Nat.strongRecOn with
  | ind r ih =>
    intro o l x ho hr hlt hxt c1 c2 hg
    have hln : ∀ y, y < n → ln y ≤ K := fun y hy => Nat.le_trans (ln_mono (Nat.le_of_lt hy)) hl
    by_cases h0 : r = 0
    · refine ⟨1, fun k hk => ?_⟩
      obtain ⟨k, rfl⟩ : ∃ q, k = q + 1 := ⟨k - 1, by omega⟩
      have e1 := cm_of (n := 1) (by omega)
      rw [show ((1 : Nat) : Int) = 1 from rfl] at e1
      rw [h0, Nat.gcd_zero_right] at hg
      simp only [Cm.modn_Inverse.l0]
      rw [zero_pure (ok hr (by omega)), nI_ofN, Option.bind_some, decide_eq_true h0, if_pos rfl, e1, Option.bind_some, cm_cmp (ok ho (by omega)) (okS (by omega)), nI_ofN, nI_ofN, Option.bind_some]
      by_cases h1 : o = 1
      · rw [cmpN_eq h1, if_pos rfl, if_pos (by omega), invN_eq hlt (cong_gcd c1 h1)]
      · have : cmpN o 1 ≠ 0 := by
          unfold cmpN; split
          · omega
          · rw [if_pos (by omega)]; omega
        rw [if_neg this, if_neg (by omega)]
    · have hp : 0 < r := by omega
      have hm : o / r * x % n < n := Nat.mod_lt _ hn
      have hs := subM_lt hlt hm
      obtain ⟨k0, h⟩ := ih (o % r) (Nat.mod_lt o hp) r x (subM l (o / r * x % n) n) hr (ln_modlt hp hr) hxt hs c2 (c1.next c2 hp hn)
        (by rw [← hg, Nat.gcd_comm o r, Nat.gcd_rec r o, Nat.gcd_comm r])
      refine ⟨k0 + 1, fun k hk => ?_⟩
      obtain ⟨k, rfl⟩ : ∃ q, k = q + 1 := ⟨k - 1, by omega⟩
      simp only [Cm.modn_Inverse.l0]
      have ed : divR o r = (ofN (o / r), ofN (o % r), 0) := by unfold divR; rw [if_neg h0, if_neg h0, if_neg h0]
      have lq : ln (o / r) ≤ K := Nat.le_trans (ln_div o r) ho
      rw [zero_pure (ok hr (by omega)), nI_ofN, Option.bind_some, decide_eq_false h0, if_neg (by decide), cm_div (ok ho (by omega)) (ok hr (by omega)), nI_ofN, nI_ofN, ed, Option.bind_some]
      simp only
      rw [mmul_pure (okN_ofN (by omega)) (okN_ofN (by have := hln _ hxt; omega)) (ok hl (by omega)), nI_ofN, nI_ofN, nI_ofN, modR_pos hn, Option.bind_some]
      simp only
      rw [minus_pure (okN_ofN (by have := hln _ hlt; omega)) (okN_ofN (by have := hln _ hm; omega)) (okN_ofN (by omega)), nI_ofN, nI_ofN, nI_ofN, Option.bind_some]
      exact h k (by omega)
def invR (a n : Nat) : List Int × Int := if n = 0 then ([], 11) else if Nat.gcd a n = 1 then (ofN (invN a n), 0) else ([], 30)
theorem inverse_pure {a n : List Int} (ha : okN 65536 a) (hn : okN 65536 n) : ∃ k0, ∀ k, k0 ≤ k → Cm.modn_Inverse.f k a n = some (invR (nI a) (nI n)) := by
  have hn' := hn.le (m' := 262144) (by omega)
  have hln := ln_nI hn
  obtain ⟨m, hm⟩ : ∃ m, nI n = m := ⟨_, rfl⟩
  obtain ⟨x, hx⟩ : ∃ x, nI a = x := ⟨_, rfl⟩
  rw [hm] at hln
  rcases Nat.eq_zero_or_pos m with h0 | h0
  · refine ⟨0, fun k _ => ?_⟩
    unfold Cm.modn_Inverse.f invR
    rw [zero_pure hn', Option.bind_some, hm, h0]
    rfl
  · have lm : okN 262144 (ofN m) := ok hln (by omega)
    have e1 := cm_of (n := 1) (by omega)
    rw [show ((1 : Nat) : Int) = 1 from rfl] at e1
    have cong1 : Cong m x 0 m := ⟨-1, by simp⟩
    have cong2 : Cong m x (1 % m) (x % m) := by
      have h1 := Nat.div_add_mod x m
      have h2 := Nat.div_add_mod 1 m
      refine ⟨(x / m : Nat) - (1 / m : Nat) * x, ?_⟩
      have h1' : ((x % m : Nat) : Int) = x - m * (x / m : Nat) := by have : ((m * (x / m) + x % m : Nat) : Int) = x := by rw [h1]
                                                                     rw [← this]; push_cast; omega
      have h2' : ((1 % m : Nat) : Int) = 1 - m * (1 / m : Nat) := by have : ((m * (1 / m) + 1 % m : Nat) : Int) = (1 : Nat) := by rw [h2]
                                                                     rw [← Int.natCast_one, ← this]; push_cast; omega
      rw [h1', h2']
      grind
    obtain ⟨k0, h⟩ := inverse_loop (a := x) (G := Nat.gcd x m) h0 (Nat.le_refl 65536) hln (x % m) m 0 (1 % m) hln (ln_modlt h0 hln) h0 (Nat.mod_lt _ h0) cong1 cong2
      (by rw [Nat.gcd_comm x m, Nat.gcd_rec m x, Nat.gcd_comm m])
    refine ⟨k0, fun k hk => ?_⟩
    unfold Cm.modn_Inverse.f invR
    rw [zero_pure hn', Option.bind_some, hm, hx, decide_eq_false (by omega), if_neg (by decide), cm_trim hn', Option.bind_some, hm, mod_pure (ha.le (by omega)) lm, nI_ofN, hx, modR_pos h0, Option.bind_some, e1, Option.bind_some, mod_pure (okS (by omega)) lm, nI_ofN, nI_ofN, modR_pos h0, Option.bind_some, if_neg (show ¬ m = 0 by omega)]
    simp only
    rw [← ofN_zero, h k hk]
    rw [ofN_zero]
end Go.Proofs.YtdmglajfmfjmlaaGreat
namespace Go.Proofs.YtdmglajfmfjmlaaGreat
set_option linter.unusedSimpArgs false
set_option linter.unusedVariables false
set_option maxRecDepth 100000
open Go.RowKit Go.Proofs.YtdmglajfmfjmlaaGreatW.PrintWords Go.Proofs.YtdmglajfmfjmlaaGreatW.PrintLast Go.Proofs.YtdmglajfmfjmlaaGreatW.PrintMore
def twos (m : Nat) : Nat := if h : m = 0 ∨ m % 2 = 1 then 0 else twos (m / 2) + 1
termination_by m
decreasing_by omega
theorem twos_step {m : Nat} (h : m ≠ 0) (h' : m % 2 = 0) : twos m = twos (m / 2) + 1 := by rw [twos, dif_neg (by omega)]
theorem twos_odd {m : Nat} (h' : m % 2 = 1) : twos m = 0 := by rw [twos, dif_pos (by omega)]
theorem twos_spec {m : Nat} (h : m ≠ 0) : m = 2 ^ twos m * (m / 2 ^ twos m) ∧ m / 2 ^ twos m % 2 = 1 := by
  induction m using Nat.strongRecOn with
  | ind m ih =>
    by_cases ho : m % 2 = 1
    · rw [twos_odd ho]; simp [ho]
    · have h2 : m / 2 ≠ 0 := by omega
      obtain ⟨e1, e2⟩ := ih (m / 2) (by omega) h2
      rw [twos_step h (by omega), Nat.pow_succ, Nat.mul_comm _ 2, ← Nat.div_div_eq_div_mul]
      refine ⟨?_, e2⟩
      rw [Nat.mul_assoc, ← e1]; omega
theorem twos_lt {m : Nat} (h : m ≠ 0) : 2 ^ twos m ≤ m := by
  have := (twos_spec h).1
  rcases Nat.eq_zero_or_pos (m / 2 ^ twos m) with h0 | h0
  · rw [h0] at this; omega
  · have := Nat.mul_le_mul_left (2 ^ twos m) h0
    omega
theorem twos_bit {m j : Nat} (h : m ≠ 0) (hj : j < twos m) : m / 2 ^ j % 2 = 0 := by
  induction j generalizing m with
  | zero =>
    rcases Nat.mod_two_eq_zero_or_one m with h0 | h0
    · simpa using h0
    · rw [twos_odd h0] at hj; omega
  | succ j ih =>
    have h0 : m % 2 = 0 := by
      rcases Nat.mod_two_eq_zero_or_one m with h0 | h0
      · exact h0
      · rw [twos_odd h0] at hj; omega
    rw [twos_step h h0] at hj
    rw [Nat.pow_succ, Nat.mul_comm _ 2, ← Nat.div_div_eq_div_mul]
    exact ih (by omega) (by omega)
def sqs (b m : Nat) : Nat → Nat → Bool
  | 0, _ => false
  | s + 1, e => powM b e m == m - 1 || sqs b m s (2 * e)
def tellsN (n b : Nat) : Bool :=
  if n < 2 then true else if n = 2 then false else if n % 2 = 0 then true else
    if b % n = 0 then false else if powM b ((n - 1) / 2 ^ twos (n - 1)) n = 1 then false else !sqs b n (twos (n - 1)) ((n - 1) / 2 ^ twos (n - 1))
def primeN (n : Nat) (bs : List Nat) : Bool := if n < 2 then false else bs.all fun b => !tellsN n b
theorem tells_l1 {m b : Nat} (hm : 1 < m) (hl : ln m ≤ 1024) : ∀ (s e i S : Nat), i + s = S → S ≤ 65536 → ∀ k, s < k →
    Cm.modn_Tells.l1 k (ofN m) (ofN (m - 1)) (ofN (powM b e m)) (S : Int) (i : Int) = some (!sqs b m s e) := by
  intro s
  induction s with
  | zero =>
    intro e i S hi _ k hk
    obtain ⟨k, rfl⟩ : ∃ q, k = q + 1 := ⟨k - 1, by omega⟩
    simp only [Cm.modn_Tells.l1]
    rw [if_neg (by omega)]; rfl
  | succ s ih =>
    intro e i S hi hS k hk
    obtain ⟨k, rfl⟩ : ∃ q, k = q + 1 := ⟨k - 1, by omega⟩
    have hm0 : 0 < m := by omega
    have lm : okN 262144 (ofN m) := ok hl (by omega)
    have lp : ∀ f, ln (powM b f m) ≤ 1024 := fun f => ln_modlt hm0 hl
    have l1 : ln (m - 1) ≤ 1024 := Nat.le_trans (ln_mono (by omega)) hl
    simp only [Cm.modn_Tells.l1]
    rw [if_pos (by omega), cm_cmp (ok (lp e) (by omega)) (ok l1 (by omega)), nI_ofN, nI_ofN, Option.bind_some]
    unfold sqs
    by_cases h : powM b e m = m - 1
    · rw [cmpN_eq h, if_pos rfl, h]; simp
    · have hc : cmpN (powM b e m) (m - 1) ≠ 0 := by
        unfold cmpN; split
        · omega
        · rw [if_pos (by omega)]; omega
      rw [if_neg hc, mmul_pure (okN_ofN (by have := lp e; omega)) (okN_ofN (by have := lp e; omega)) lm, nI_ofN, nI_ofN, modR_pos hm0, Option.bind_some]
      have hw : wrap64 ((i : Int) + 1) = ((i + 1 : Nat) : Int) := by rw [wr (by omega) (by omega)]; omega
      have hb : (powM b e m == m - 1) = false := by simpa using h
      simp only
      rw [powM_sq, hw, ih (2 * e) (i + 1) S (by omega) hS k (by omega), hb, Bool.false_or]
theorem tells_l0 {m b : Nat} (hb64 : b < 18446744073709551616) (hm : 2 < m) (ho : m % 2 = 1) (hl : ln m ≤ 1024) : ∀ (d j : Nat), j + d = twos (m - 1) → ∃ k0, ∀ k, k0 ≤ k →
    Cm.modn_Tells.l0 k (ofN m) (b : Int) (ofN (m - 1)) (j : Int) = some (if b % m = 0 then false else if powM b ((m - 1) / 2 ^ twos (m - 1)) m = 1 then false else !sqs b m (twos (m - 1)) ((m - 1) / 2 ^ twos (m - 1))) := by
  have hm0 : 0 < m := by omega
  have h0 : m - 1 ≠ 0 := by omega
  have lm : okN 262144 (ofN m) := ok hl (by omega)
  have l1 : ln (m - 1) ≤ 1024 := Nat.le_trans (ln_mono (by omega)) hl
  have ts : twos (m - 1) ≤ 65536 := by
    have h1 := twos_lt h0
    have h2 : blen (m - 1) ≤ 65536 := Nat.le_trans (blen_of_ln l1) (by omega)
    have h3 := lt_blen (m - 1)
    rcases Nat.lt_or_ge (twos (m - 1)) (blen (m - 1)) with h | h
    · omega
    · have := Nat.pow_le_pow_right (show 0 < 2 by omega) h
      omega
  intro d
  induction d with
  | zero =>
    intro j hj
    obtain rfl : j = twos (m - 1) := by omega
    have hbit := (twos_spec h0).2
    have lsh : ln ((m - 1) / 2 ^ twos (m - 1)) ≤ 1024 := Nat.le_trans (ln_div _ _) l1
    have e1 := cm_of (n := 1) (by omega)
    rw [show ((1 : Nat) : Int) = 1 from rfl] at e1
    have hw : wrap64 (-((twos (m - 1) : Nat) : Int)) = -((twos (m - 1) : Nat) : Int) := wr (by omega) (by omega)
    have hsh : shiftN (m - 1) (-((twos (m - 1) : Nat) : Int)) = (m - 1) / 2 ^ twos (m - 1) := by
      unfold shiftN
      by_cases hz : twos (m - 1) = 0
      · rw [hz, show -((0 : Nat) : Int) = 0 from rfl, if_pos (by omega), show (min (0 : Int) 65536).toNat = 0 from rfl, Nat.pow_zero, Nat.mul_one, Nat.div_one]
      · rw [if_neg (by omega), Int.neg_neg]
        have : (min ((twos (m - 1) : Nat) : Int) 65536).toNat = twos (m - 1) := by omega
        rw [this]
    refine ⟨blen ((m - 1) / 2 ^ twos (m - 1)) + twos (m - 1) + 3, fun k hk => ?_⟩
    obtain ⟨k, rfl⟩ : ∃ q, k = q + 1 := ⟨k - 1, by omega⟩
    simp only [Cm.modn_Tells.l0]
    rw [cm_bit (ok l1 (by omega)) (by omega), nI_ofN, Option.bind_some, hbit, if_neg (by decide), cm_of hb64, Option.bind_some, mod_pure (okS hb64) lm, nI_ofN, nI_ofN, modR_pos hm0, Option.bind_some]
    simp only
    rw [zero_pure (ok (ln_modlt hm0 hl) (by omega)), nI_ofN, Option.bind_some]
    by_cases hb : b % m = 0
    · rw [decide_eq_true hb, if_pos rfl, if_pos hb]
    · rw [decide_eq_false hb, if_neg (by decide), if_neg hb, hw, cm_shift (ok l1 (by omega)), Option.bind_some, nI_ofN, hsh,
        pow_pure (okN_ofN (by have : ln (b % m) ≤ 1024 := ln_modlt hm0 hl
                              omega)) (okN_ofN (by omega)) (okN_ofN hl) k (by rw [nI_ofN]; omega), nI_ofN, nI_ofN, nI_ofN, Option.bind_some, if_neg (show ¬ m = 0 by omega), if_neg (show ¬ m = 0 by omega), powM_mod]
      simp only
      have lpw : okN 262144 (ofN (powM b ((m - 1) / 2 ^ twos (m - 1)) m)) := ok (ln_modlt hm0 hl) (by omega)
      rw [e1, Option.bind_some, cm_cmp lpw (okS (by omega)), nI_ofN, nI_ofN, Option.bind_some]
      by_cases h1 : powM b ((m - 1) / 2 ^ twos (m - 1)) m = 1
      · rw [cmpN_eq h1, if_pos rfl, if_pos h1]
      · have hc : cmpN (powM b ((m - 1) / 2 ^ twos (m - 1)) m) 1 ≠ 0 := by
          unfold cmpN; split
          · omega
          · rw [if_pos (by omega)]; omega
        rw [if_neg hc, if_neg h1]
        exact tells_l1 (by omega) hl _ _ 0 _ (by omega) ts k (by omega)
  | succ d ih =>
    intro j hj
    obtain ⟨k0, h⟩ := ih (j + 1) (by omega)
    refine ⟨k0 + 1, fun k hk => ?_⟩
    obtain ⟨k, rfl⟩ : ∃ q, k = q + 1 := ⟨k - 1, by omega⟩
    have hj1 : j ≤ 9223372036854775807 := by omega
    have hj2 : j < twos (m - 1) := by omega
    have lm1 : okN 262144 (ofN (m - 1)) := ok l1 (by omega)
    have hkk : k0 ≤ k := by omega
    have hw : wrap64 ((j : Int) + 1) = ((j + 1 : Nat) : Int) := by rw [wr (by omega) (by omega)]; omega
    simp only [Cm.modn_Tells.l0]
    rw [cm_bit lm1 hj1, nI_ofN, Option.bind_some, twos_bit h0 hj2, if_pos (show ((0 : Nat) : Int) = 0 from rfl), hw]
    exact h k hkk
theorem tells_pure {n : List Int} (hn : okN 1024 n) {b : Nat} (hb : b < 18446744073709551616) : ∃ k0, ∀ k, k0 ≤ k → Cm.modn_Tells.f k n (b : Int) = some (tellsN (nI n) b) := by
  have hn' := hn.le (m' := 262144) (by omega)
  have hln := ln_nI hn
  obtain ⟨m, hm⟩ : ∃ m, nI n = m := ⟨_, rfl⟩
  rw [hm] at hln
  have lm : okN 262144 (ofN m) := ok hln (by omega)
  have e2 := cm_of (n := 2) (by omega)
  rw [show ((2 : Nat) : Int) = 2 from rfl] at e2
  have e1 := cm_of (n := 1) (by omega)
  rw [show ((1 : Nat) : Int) = 1 from rfl] at e1
  rcases Nat.lt_trichotomy m 2 with h | h | h
  · refine ⟨0, fun k _ => ?_⟩
    unfold Cm.modn_Tells.f tellsN
    rw [cm_trim hn', hm, Option.bind_some, e2, Option.bind_some, cm_cmp lm (okS (by omega)), nI_ofN, nI_ofN, Option.bind_some, cmpN_lt h, if_pos (by decide), if_pos h]
    rfl
  · refine ⟨0, fun k _ => ?_⟩
    unfold Cm.modn_Tells.f tellsN
    rw [cm_trim hn', hm, Option.bind_some, e2, Option.bind_some, cm_cmp lm (okS (by omega)), nI_ofN, nI_ofN, Option.bind_some, cmpN_eq h, if_pos (by decide), if_neg (by omega), if_pos h]
    rfl
  · have hpar : m % 18446744073709551616 % 2 = m % 2 := by omega
    by_cases ho : m % 2 = 1
    · obtain ⟨k0, hk⟩ := tells_l0 hb h ho hln (twos (m - 1)) 0 (by omega)
      refine ⟨k0, fun k hk0 => ?_⟩
      have hk' := hk k hk0
      rw [show ((0 : Nat) : Int) = 0 from rfl] at hk'
      unfold Cm.modn_Tells.f tellsN
      rw [cm_trim hn', hm, Option.bind_some, e2, Option.bind_some, cm_cmp lm (okS (by omega)), nI_ofN, nI_ofN, Option.bind_some, cmpN_gt h, if_neg (by decide), ofN_length, if_pos (by have := ln_pos (show m ≠ 0 by omega); omega), lead_odd (by omega), nv_bits_and _ (Nat.mod_lt _ (by omega)), hpar, ho, if_neg (by decide), e1, Option.bind_some, cm_sub lm (okS (by omega)), nI_ofN, nI_ofN, Option.bind_some]
      simp only
      rw [hk', if_neg (show ¬ m < 2 by omega), if_neg (show ¬ m = 2 by omega), if_neg (show ¬ (1 : Nat) = 0 by decide)]
    · refine ⟨0, fun k _ => ?_⟩
      unfold Cm.modn_Tells.f tellsN
      rw [cm_trim hn', hm, Option.bind_some, e2, Option.bind_some, cm_cmp lm (okS (by omega)), nI_ofN, nI_ofN, Option.bind_some, cmpN_gt h, if_neg (by decide), ofN_length, if_pos (by have := ln_pos (show m ≠ 0 by omega); omega), lead_odd (by omega), nv_bits_and _ (Nat.mod_lt _ (by omega)), hpar, if_pos (by rw [show m % 2 = 0 by omega]; rfl), if_neg (show ¬ m < 2 by omega), if_neg (show ¬ m = 2 by omega), if_pos (show m % 2 = 0 by omega)]
end Go.Proofs.YtdmglajfmfjmlaaGreat
namespace Go.Proofs.YtdmglajfmfjmlaaGreat
set_option linter.unusedSimpArgs false
set_option linter.unusedVariables false
set_option maxRecDepth 100000
open Go.RowKit Go.Proofs.YtdmglajfmfjmlaaGreatW.PrintWords Go.Proofs.YtdmglajfmfjmlaaGreatW.PrintLast Go.Proofs.YtdmglajfmfjmlaaGreatW.PrintMore
theorem invR_pos {a n : Nat} (h : n ≠ 0) (h' : Nat.gcd a n = 1) : invR a n = (ofN (invN a n), 0) := by unfold invR; rw [if_neg h, if_pos h']
section
variable {A0 A1 A2 : Option Addr} {c0 c1 c2 : Nat} {l0 l1 l2 : List Int} {w : World}
theorem inverse_giv {r1 : List Int} {r2 : Int} (hr0 : Kd.C (Kd.int .u64) w A0 l0.length l0) (hc0 : l0.length ≤ c0) (hr1 : Kd.C (Kd.int .u64) w A1 l1.length l1) (hc1 : l1.length ≤ c1) (h : (if okN 65536 l0 ∧ okN 65536 l1 then some (invR (nI l0) (nI l1)) else none) = some (r1, r2)) :
    Calls Tryz.prog 63 #[.slice A0 l0.length c0, .slice A1 l1.length c1] w fun e w' => ∃ v0_ : Value, e = .returned (.tuple #[v0_, .int .i64 r2]) ∧ Kd.R (Kd.int .u64) 23 w' w.heap.size (fun _ => True) v0_ r1 ∧ Below w.heap.size w w' := by
  obtain ⟨⟨h0, h1⟩, h⟩ := of_ite h
  obtain ⟨k, hk⟩ := inverse_pure h0 h1
  exact Cm.modn_Inverse.calls k _ _ _ _ _ _ _ _ _ hr0 hc0 hr1 hc1 ((hk k (Nat.le_refl _)).trans (congrArg some h))
theorem tells_giv {a1 : Int} {r : Bool} (hr0 : Kd.C (Kd.int .u64) w A0 l0.length l0) (hc0 : l0.length ≤ c0) (h : (if okN 1024 l0 ∧ 0 ≤ a1 ∧ a1 < 18446744073709551616 then some (tellsN (nI l0) a1.toNat) else none) = some r) :
    Calls Tryz.prog 173 #[.slice A0 l0.length c0, .int .u64 a1] w fun e w' => e = .returned (.bool r) ∧ Below w.heap.size w w' := by
  obtain ⟨⟨h0, h1, h2⟩, rfl⟩ := of_ite h
  obtain ⟨b, rfl⟩ : ∃ b : Nat, a1 = b := ⟨a1.toNat, by omega⟩
  obtain ⟨k, hk⟩ := tells_pure h0 (b := b) (by omega)
  exact Cm.modn_Tells.calls k _ _ _ _ _ _ hr0 hc0 (hk k (Nat.le_refl _))
end
end Go.Proofs.YtdmglajfmfjmlaaGreat
namespace Go.Proofs.YtdmglajfmfjmlaaGreat
set_option linter.unusedSimpArgs false
set_option linter.unusedVariables false
set_option maxRecDepth 100000
open Go.RowKit
theorem cong_gcd_inv {n a G : Nat} : ∀ (r o l x : Nat), l < n → x < n → Cong n a l o → Cong n a x r → Nat.gcd o r = 1 → 0 < n → ∃ y, y < n ∧ a * y % n = 1 % n := by
  intro r
  induction r using Nat.strongRecOn with
  | ind r ih =>
    intro o l x hlt hxt c1 c2 hg hn
    by_cases h0 : r = 0
    · rw [h0, Nat.gcd_zero_right] at hg
      exact ⟨l, hlt, cong_gcd c1 hg⟩
    · have hp : 0 < r := by omega
      exact ih (o % r) (Nat.mod_lt o hp) r x _ hxt (subM_lt hlt (Nat.mod_lt _ hn)) c2 (c1.next c2 hp hn) (by rw [← hg, Nat.gcd_comm o r, Nat.gcd_rec r o, Nat.gcd_comm r]) hn
theorem cong_start1 (n a : Nat) : Cong n a 0 n := ⟨-1, by simp⟩
theorem cong_start2 (m x : Nat) : Cong m x (1 % m) (x % m) := by
  have h1 := Nat.div_add_mod x m
  have h2 := Nat.div_add_mod 1 m
  refine ⟨(x / m : Nat) - (1 / m : Nat) * x, ?_⟩
  have h1' : ((x % m : Nat) : Int) = x - m * (x / m : Nat) := by
    have : ((m * (x / m) + x % m : Nat) : Int) = x := by rw [h1]
    rw [← this]; push_cast; omega
  have h2' : ((1 % m : Nat) : Int) = 1 - m * (1 / m : Nat) := by
    have : ((m * (1 / m) + 1 % m : Nat) : Int) = (1 : Nat) := by rw [h2]
    rw [← Int.natCast_one, ← this]; push_cast; omega
  rw [h1', h2']
  grind
theorem invN_gcd {a n : Nat} (hn : n ≠ 0) (hg : Nat.gcd a n = 1) : invN a n < n ∧ a * invN a n % n = 1 % n :=
  invN_spec (cong_gcd_inv (G := 1) (a % n) n 0 (1 % n) (by omega) (Nat.mod_lt _ (by omega)) (cong_start1 n a) (cong_start2 n a) (by rw [← hg, Nat.gcd_comm a n, Nat.gcd_rec n a, Nat.gcd_comm n]) (by omega))
end Go.Proofs.YtdmglajfmfjmlaaGreat
namespace Go.Proofs.YtdmglajfmfjmlaaGreat
set_option linter.unusedSimpArgs false
set_option linter.unusedVariables false
set_option maxRecDepth 100000
open Go.RowKit Go.Proofs.YtdmglajfmfjmlaaGreatW.PrintWords Go.Proofs.YtdmglajfmfjmlaaGreatW.PrintLast
theorem lit_any (w : World) {A : Option Addr} {c g b : Nat} {l : List Int} (hc : Kd.C (Kd.int .u64) w A l.length l) (hlc : l.length ≤ c) (ho : okN 1024 l) (hb : b < 18446744073709551616) (hcell : w.cell? ⟨g, 0, none⟩ = some (.slice A l.length c)) :
    Calls Tryz.prog 172 #[.int .u64 b, .pointer (some ⟨g, 0, none⟩)] w fun e w' => e = .returned (.bool (tellsN (nI l) b)) ∧ Below w.heap.size w w' := by
  have HT := Lib.hid (tells_giv (a1 := (b : Int)) (r := tellsN (nI l) b) hc hlc (by rw [if_pos ⟨ho, by omega, by omega⟩, Int.toNat_natCast]))
  clear hc ho
  go_enter Tryz.func172, Tryz.ntmps172
  go_wp2_with fail
  refine HT.out.mono ?_
  rintro e w' ⟨rfl, hbel⟩
  go_wp2_with fail
  go_ret
  exact ⟨rfl, hbel⟩
def firstT (n : Nat) : List Nat → Nat → Int
  | [], _ => -1
  | b :: bs, i => if tellsN n b then (i : Int) else firstT n bs (i + 1)
theorem firstT_neg (n : Nat) (bs : List Nat) : ∀ i, (decide (0 ≤ firstT n bs i)) = bs.any (tellsN n) := by
  induction bs with
  | nil => intro i; rfl
  | cons b bs ih =>
    intro i
    unfold firstT
    rw [List.any_cons]
    cases h : tellsN n b
    · rw [if_neg (by simp), ih]; rfl
    · rw [if_pos rfl]; simp
theorem firstT_drop {n : Nat} {bs : List Nat} {k : Nat} (h : k < bs.length) : firstT n (bs.drop k) k = if tellsN n (gd bs k) then (k : Int) else firstT n (bs.drop (k + 1)) (k + 1) := by
  rw [List.drop_eq_getElem_cons h, gd_lt h]; rfl
structure PrW (w : World) (A : Option Addr) (c g : Nat) (l : List Int) : Prop where
  rd : Kd.C (Kd.int .u64) w A l.length l
  cap : l.length ≤ c
  ok : okN 1024 l
  box : w.cell? ⟨g, 0, none⟩ = some (.slice A l.length c)
  lt : g < w.heap.size
theorem PrW.below {w w' : World} {A : Option Addr} {c g : Nat} {l : List Int} (h : PrW w A c g l) (hb : Below w.heap.size w w') : PrW w' A c g l :=
  ⟨Kd.C_below h.rd hb, h.cap, h.ok, (hb.cell (p := ⟨g, 0, none⟩) h.lt).trans h.box, Nat.lt_of_lt_of_le h.lt hb.size⟩
set_option maxHeartbeats 400000 in
theorem index_any (w : World) {A B : Option Addr} {c g n d : Nat} {l : List Int} {bs : List Nat} (h : PrW w A c g l) (hb : Rd .u64 w B n d bs) (bb : B64 bs) (hn : n ≤ 1099511627776) :
    Calls Tryz.prog 198 #[.slice B n d, .func (.func 172) #[] #[.pointer (some ⟨g, 0, none⟩)]] w fun e w' => e = .returned (.int .i64 (firstT (nI l) bs 0)) ∧ Below w.heap.size w w' := by
  have H := Lib.hid h
  have HB := Lib.hid hb
  have BB := Lib.hid bb
  have hmax := hb.max
  have hcap := hb.cap
  clear h hb bb
  go_enter Tryz.func198, Tryz.ntmps198
  go_wp2_with fail
  go_loopw [8] (fun i wr => ∃ k : Nat, k ≤ n ∧ i = .int .i64 (k : Int) ∧ Below w.heap.size w wr ∧ firstT (nI l) (bs.drop k) k = firstT (nI l) bs 0) (fun i _ => n - (intOf i).toNat)
  case atStart => exact ⟨0, Nat.zero_le _, rfl, Below.refl _ _, rfl⟩
  case round =>
    obtain ⟨k, hk, rfl, hbel, hf⟩ := hrel
    have HBEL := Lib.hid hbel
    have HF := Lib.hid hf
    clear hf
    by_cases hlt : k < n
    · obtain ⟨ad, rfl, hab, hac⟩ := (HB.out.below hbel).form (by omega)
      have hx := hac k hlt
      obtain ⟨b, hb⟩ : ∃ b, gd bs k = b := ⟨_, rfl⟩
      rw [hb] at hx
      have hb64 : b < 18446744073709551616 := by rw [← hb]; exact BB.out.gd k
      have HST := Lib.hid (firstT_drop (n := nI l) (bs := bs) (k := k) (by rw [HB.out.len]; exact hlt))
      have HP := Lib.hid (H.out.below HBEL.out)
      have HGB := Lib.hid hb
      clear hac hbel hb
      have HL := Lib.hid (lit_any wr HP.out.rd HP.out.cap HP.out.ok hb64 HP.out.box)
      by_cases htl : tellsN (nI l) b = true
      · have HTL := Lib.hid htl
        rw [htl] at HL
        clear htl
        go_wp2_with fail
        refine HL.out.mono ?_
        rintro e w1 ⟨rfl, hb1⟩
        have HB1 := Lib.hid (HBEL.out.trans (hb1.mono HBEL.out.size))
        clear hb1
        go_wp2_with fail
        go_ret
        refine ⟨?_, HB1.out⟩
        rw [← HF.out, HST.out, HGB.out, if_pos HTL.out]; rfl
      · have htl' : tellsN (nI l) b = false := by simpa using htl
        have HTL := Lib.hid htl'
        rw [htl'] at HL
        clear htl htl'
        go_wp2_with fail
        refine HL.out.mono ?_
        rintro e w1 ⟨rfl, hb1⟩
        have HB1 := Lib.hid (HBEL.out.trans (hb1.mono HBEL.out.size))
        clear hb1
        go_wp2_with fail
        refine ⟨⟨k + 1, by omega, by go_num, HB1.out, ?_⟩, by simp [intOf]; omega⟩
        rw [← HF.out, HST.out, HGB.out, HTL.out]; rfl
    · obtain rfl : n = k := by omega
      have HZ := Lib.hid (show firstT (nI l) bs 0 = -1 by rw [← HF.out, List.drop_eq_nil_of_le (by rw [HB.out.len]; exact Nat.le_refl _)]; rfl)
      clear hbel
      go_wp2_with fail
      go_ret
      exact ⟨by rw [HZ.out]; rfl, HBEL.out⟩
theorem contains_any (w : World) {A B : Option Addr} {c g n d : Nat} {l : List Int} {bs : List Nat} (h : PrW w A c g l) (hb : Rd .u64 w B n d bs) (bb : B64 bs) (hn : n ≤ 1099511627776) :
    Calls Tryz.prog 171 #[.slice B n d, .func (.func 172) #[] #[.pointer (some ⟨g, 0, none⟩)]] w fun e w' => e = .returned (.bool (bs.any (tellsN (nI l)))) ∧ Below w.heap.size w w' := by
  have HI := Lib.hid (index_any w h hb bb hn)
  have HN := Lib.hid (firstT_neg (nI l) bs 0)
  obtain ⟨z, hz⟩ : ∃ z, firstT (nI l) bs 0 = z := ⟨_, rfl⟩
  rw [hz] at HI HN
  clear h hb bb hz
  go_enter Tryz.func171, Tryz.ntmps171
  go_wp2_with fail
  refine HI.out.mono ?_
  rintro e w1 ⟨rfl, hb1⟩
  go_wp2_with fail
  go_ret
  exact ⟨by rw [← HN.out]; rfl, hb1⟩
set_option maxHeartbeats 1000000 in
theorem prime_any (w : World) {A B : Option Addr} {c n d : Nat} {l : List Int} {bs : List Nat} (hc : Kd.C (Kd.int .u64) w A l.length l) (hlc : l.length ≤ c) (ho : okN 1024 l) (hb : Rd .u64 w B n d bs) (bb : B64 bs) (hn : n ≤ 1099511627776) :
    Calls Tryz.prog 116 #[.slice A l.length c, .slice B n d] w fun e w' => e = .returned (.bool (primeN (nI l) bs)) ∧ Below w.heap.size w w' := by
  have hP0 : PrW (w.alloc (.cells #[.slice A l.length c] 22)).drew A c w.heap.size l :=
    ⟨Kd.C_drew (Kd.C_alloc hc _), hlc, ho, ((Bk.new w 22 #[.slice A l.length c]).cell 0).trans rfl, by simp⟩
  have S0 := hP0.box
  have HP := Lib.hid hP0
  have B0 : Below w.heap.size w (w.alloc (.cells #[.slice A l.length c] 22)).drew := by (repeat (first | (with_reducible exact Below.refl _ _) | (with_reducible assumption) | (with_reducible refine Below.drew ?_) | (with_reducible refine below_drewN ?_ _) | ((with_reducible refine Below.setCell ?_ (p := ⟨_, _, _⟩) ?_ _); rotate_left; (simp <;> omega)) | ((with_reducible refine Below.alloc ?_ ?_ _); rotate_left; (simp <;> omega)) | ((with_reducible refine Below.trans ?_ (Below.mono (by with_reducible assumption) ?_)); rotate_left; (simp <;> omega))))
  have hs0 : (w.alloc (.cells #[.slice A l.length c] 22)).drew.heap.size = w.heap.size + 1 := by simp
  have HB := Lib.hid hb
  have BB := Lib.hid bb
  have HO := Lib.hid (show Calls Tryz.prog 57 #[.int .u64 2] (w.alloc (.cells #[.slice A l.length c] 22)).drew (RetN 2 (w.alloc (.cells #[.slice A l.length c] 22)).drew) from of_any _ 2 (by omega))
  have hlen := ho.1
  have HCMP := Lib.hid (fun (W : World) (hW : PrW W A c w.heap.size l) (A1 : Option Addr) (c1 : Nat) (h1 : NA W A1 (ln 2) c1 2) => cmp_any W (na_of_C hW.rd hW.cap hW.ok) h1 (by omega) (Nat.le_trans (ln_small (by omega)) (by omega)))
  obtain ⟨z, hz⟩ : ∃ z, cmpN (nI l) 2 = z := ⟨_, rfl⟩
  rw [hz] at HCMP
  have hz2 : (z < 0) ↔ nI l < 2 := by
    rw [← hz]; unfold cmpN
    constructor
    · intro h
      by_cases h1 : nI l < 2
      · exact h1
      · rw [if_neg h1] at h; split at h <;> omega
    · intro h; rw [if_pos h]; omega
  have HZ := Lib.hid hz2
  clear hc ho hb bb hP0 hz hz2
  go_enter Tryz.func116, Tryz.ntmps116
  go_wp2_with fail
  go_region_held3 (fun w' => w'.cell? ⟨w.heap.size, 0, none⟩ = some (.slice A l.length c))
    (with_reducible assumption)
    ((first | (go_at_call 57; (with_reducible refine HO.out.mono ?_); rintro e w1 ⟨A1, c1, rfl, ho1, hb1⟩; have hp1 := HP.out.below hb1; have S1 := hp1.box) | (go_at_call 58; refine (HCMP.out _ hp1 A1 c1 ho1.na).mono ?_; rintro e w2 ⟨rfl, rfl⟩)))
  have HB1 := Lib.hid (B0.trans (hb1.mono (by simp)))
  have HP1 := Lib.hid hp1
  clear S0 S1 hb1 ho1 B0 hp1
  by_cases h2 : nI l < 2
  · have hzd : z < 0 := HZ.out.2 h2
    have HPR := Lib.hid (show primeN (nI l) bs = false by unfold primeN; rw [if_pos h2])
    clear h2
    go_wp2_with fail
    go_ret
    exact ⟨by rw [HPR.out]; rfl, HB1.out⟩
  · have hzd : ¬ z < 0 := fun h => h2 (HZ.out.1 h)
    have HC := Lib.hid (contains_any w1 HP1.out (HB.out.below HB1.out) BB.out hn)
    have HPR := Lib.hid (show primeN (nI l) bs = !(bs.any (tellsN (nI l))) by unfold primeN; rw [if_neg h2, List.not_any_eq_all_not])
    obtain ⟨q, hq⟩ : ∃ q, bs.any (tellsN (nI l)) = q := ⟨_, rfl⟩
    rw [hq] at HC HPR
    clear h2 hq
    go_wp2_with fail
    refine HC.out.mono ?_
    rintro e w2 ⟨rfl, hb2⟩
    have HB2 := Lib.hid (HB1.out.trans (hb2.mono HB1.out.size))
    clear hb2
    go_wp2_with fail
    go_ret
    exact ⟨by rw [HPR.out]; rfl, HB2.out⟩
theorem prime_giv {A0 A1 : Option Addr} {c0 c1 : Nat} {l0 l1 : List Int} {w : World} {r : Bool} (hr0 : Kd.C (Kd.int .u64) w A0 l0.length l0) (hc0 : l0.length ≤ c0) (hr1 : Kd.C (Kd.int .u64) w A1 l1.length l1) (hc1 : l1.length ≤ c1) (h : (if okN 1024 l0 ∧ okN 1048576 l1 then some (primeN (nI l0) (toN l1)) else none) = some r) :
    Calls Tryz.prog 116 #[.slice A0 l0.length c0, .slice A1 l1.length c1] w fun e w' => e = .returned (.bool r) ∧ Below w.heap.size w w' := by
  obtain ⟨⟨h0, h1⟩, rfl⟩ := of_ite h
  exact prime_any w hr0 hc0 h0 (rd_of_C hr1 hc1 h1) h1.b64 (by have := h1.1; omega)
end Go.Proofs.YtdmglajfmfjmlaaGreat
namespace Go.Proofs.YtdmglajfmfjmlaaGreat
set_option linter.unusedSimpArgs false
set_option linter.unusedVariables false
set_option maxRecDepth 100000
open Go.RowKit
def B32 (xs : List Nat) : Prop := ∀ x ∈ xs, x < 4294967296
def B8 (xs : List Nat) : Prop := ∀ x ∈ xs, x < 256
def rot (x n : Nat) : Nat := (x / 2 ^ n) ||| (x * 2 ^ (32 - n) % 4294967296)
def sg0 (x : Nat) : Nat := rot x 7 ^^^ rot x 18 ^^^ x / 8
def sg1 (x : Nat) : Nat := rot x 17 ^^^ rot x 19 ^^^ x / 1024
def bg1 (x : Nat) : Nat := rot x 6 ^^^ rot x 11 ^^^ rot x 25
def bg0 (x : Nat) : Nat := rot x 2 ^^^ rot x 13 ^^^ rot x 22
def chN (e f g : Nat) : Nat := (e &&& f) ^^^ ((4294967295 - e) &&& g)
def mjN (a b c : Nat) : Nat := (a &&& b) ^^^ (a &&& c) ^^^ (b &&& c)
def nextW (ws : List Nat) (t : Nat) : Nat := (gd ws (t - 16) + sg0 (gd ws (t - 15)) + gd ws (t - 7) + sg1 (gd ws (t - 2))) % 4294967296
def sched : Nat → List Nat → List Nat
  | 0, ws => ws
  | n + 1, ws => (fun us => us ++ [nextW us us.length]) (sched n ws)
def kN : List Nat := [1116352408, 1899447441, 3049323471, 3921009573, 961987163, 1508970993, 2453635748, 2870763221, 3624381080, 310598401, 607225278, 1426881987, 1925078388, 2162078206, 2614888103, 3248222580, 3835390401, 4022224774, 264347078, 604807628, 770255983, 1249150122, 1555081692, 1996064986, 2554220882, 2821834349, 2952996808, 3210313671, 3336571891, 3584528711, 113926993, 338241895, 666307205, 773529912, 1294757372, 1396182291, 1695183700, 1986661051, 2177026350, 2456956037, 2730485921, 2820302411, 3259730800, 3345764771, 3516065817, 3600352804, 4094571909, 275423344, 430227734, 506948616, 659060556, 883997877, 958139571, 1322822218, 1537002063, 1747873779, 1955562222, 2024104815, 2227730452, 2361852424, 2428436474, 2756734187, 3204031479, 3329325298]
def hN : List Nat := [1779033703, 3144134277, 1013904242, 2773480762, 1359893119, 2600822924, 528734635, 1541459225]
def rndX (v : List Nat) (k w : Nat) : Nat := (gd v 7 + bg1 (gd v 4) + chN (gd v 4) (gd v 5) (gd v 6) + k + w) % 4294967296
def rndY (v : List Nat) : Nat := (bg0 (gd v 0) + mjN (gd v 0) (gd v 1) (gd v 2)) % 4294967296
def rnd (v : List Nat) (k w : Nat) : List Nat := [(rndX v k w + rndY v) % 4294967296, gd v 0, gd v 1, gd v 2, (gd v 3 + rndX v k w) % 4294967296, gd v 4, gd v 5, gd v 6]
def rounds (ws h : List Nat) : Nat → List Nat
  | 0 => h
  | t + 1 => rnd (rounds ws h t) (gd kN t) (gd ws t)
def be4 (p : List Nat) (i : Nat) : Nat := gd p (4 * i) * 16777216 + gd p (4 * i + 1) * 65536 + gd p (4 * i + 2) * 256 + gd p (4 * i + 3)
def w16 (p : List Nat) : List Nat := (List.range 16).map (be4 p)
def addW (h v : List Nat) (i : Nat) : List Nat := (List.range i).map fun j => (gd h j + gd v j) % 4294967296
def blockN (h p : List Nat) : List Nat := addW h (rounds (sched 48 (w16 p)) h 64) 8
theorem B32.nil : B32 [] := fun x hx => by cases hx
theorem B32.cons {x : Nat} {xs : List Nat} (h : x < 4294967296) (hs : B32 xs) : B32 (x :: xs) := fun y hy => by
  rcases List.mem_cons.1 hy with rfl | hy
  · exact h
  · exact hs y hy
theorem B32.gd {xs : List Nat} (h : B32 xs) (j : Nat) : gd xs j < 4294967296 := by
  rcases Nat.lt_or_ge j xs.length with hj | hj
  · exact h _ (List.mem_of_getElem? (gd_get hj))
  · rw [gd_ge hj]; omega
theorem B32.append {xs ys : List Nat} (h : B32 xs) (h' : B32 ys) : B32 (xs ++ ys) := fun x hx => by
  rcases List.mem_append.1 hx with hx | hx
  · exact h x hx
  · exact h' x hx
theorem B32.set {xs : List Nat} (h : B32 xs) {j y : Nat} (hy : y < 4294967296) : B32 (xs.set j y) := fun x hx => by
  rcases List.mem_or_eq_of_mem_set hx with hx | rfl
  · exact h x hx
  · exact hy
theorem B8.nil : B8 [] := fun x hx => by cases hx
theorem B8.cons {x : Nat} {xs : List Nat} (h : x < 256) (hs : B8 xs) : B8 (x :: xs) := fun y hy => by
  rcases List.mem_cons.1 hy with rfl | hy
  · exact h
  · exact hs y hy
theorem B8.gd {xs : List Nat} (h : B8 xs) (j : Nat) : gd xs j < 256 := by
  rcases Nat.lt_or_ge j xs.length with hj | hj
  · exact h _ (List.mem_of_getElem? (gd_get hj))
  · rw [gd_ge hj]; omega
theorem B8.append {xs ys : List Nat} (h : B8 xs) (h' : B8 ys) : B8 (xs ++ ys) := fun x hx => by
  rcases List.mem_append.1 hx with hx | hx
  · exact h x hx
  · exact h' x hx
theorem B8.take {xs : List Nat} (h : B8 xs) (k : Nat) : B8 (xs.take k) := fun x hx => h x (List.mem_of_mem_take hx)
theorem B8.drop {xs : List Nat} (h : B8 xs) (k : Nat) : B8 (xs.drop k) := fun x hx => h x (List.mem_of_mem_drop hx)
end Go.Proofs.YtdmglajfmfjmlaaGreat
namespace Go.Proofs.YtdmglajfmfjmlaaGreat
set_option linter.unusedSimpArgs false
set_option linter.unusedVariables false
set_option maxRecDepth 100000
open Go.RowKit
theorem Bk.row {w : World} {g : Nat} {t : TypeId} {cs : Array Value} (h : Bk w g t cs) (cs' : Array Value) : Bk (w.setRow g cs') g t cs' := by
  unfold Bk at h ⊢
  simp [World.setRow, Array.getElem?_modify, h]
theorem below_drewN {B : Nat} {a w : World} (h : Below B a w) (n : Nat) : Below B a (w.drewN n) := h.trans ⟨rfl, rfl, rfl, Nat.le_refl _, fun _ _ => rfl⟩
theorem B32.replicate (n : Nat) : B32 (List.replicate n 0) := fun x hx => by rw [List.eq_of_mem_replicate hx]; omega
end Go.Proofs.YtdmglajfmfjmlaaGreat
namespace Go.Proofs.YtdmglajfmfjmlaaGreat
set_option linter.unusedSimpArgs false
set_option linter.unusedVariables false
set_option maxRecDepth 100000
open Go.RowKit
def blkN (h m : List Nat) (i : Nat) : List Nat := blockN h ((m.drop (64 * i)).take 64)
def foldB (h m : List Nat) : Nat → List Nat
  | 0 => h
  | k + 1 => blkN (foldB h m k) m k
def stN (m : List Nat) : List Nat := foldB hN m (m.length / 64)
def restN (m : List Nat) : List Nat := m.drop (m.length / 64 * 64)
end Go.Proofs.YtdmglajfmfjmlaaGreat
namespace Go.Proofs.YtdmglajfmfjmlaaGreat
set_option linter.unusedSimpArgs false
set_option linter.unusedVariables false
set_option maxRecDepth 100000
open Go.RowKit
def AbidesBox {β : Type} (Bn : Nat) (J : β → World → Prop) : Prop := ∀ s W W' row, J s W → W.grownBy W' row → (∀ r, row = some r → r = Bn) → J s W'
theorem AbidesBox.and {β : Type} {Bn : Nat} {I I' : β → World → Prop} (h : AbidesBox Bn I) (h' : AbidesBox Bn I') : AbidesBox Bn (fun s W => I s W ∧ I' s W) := fun s W W' row hs hg hr => ⟨h s W W' row hs.1 hg hr, h' s W W' row hs.2 hg hr⟩
end Go.Proofs.YtdmglajfmfjmlaaGreat
namespace Go.Proofs.YtdmglajfmfjmlaaGreat
set_option linter.unusedSimpArgs false
set_option linter.unusedVariables false
set_option maxRecDepth 100000
open Go.RowKit
attribute [local go_sem] Oper.semAt_some
end Go.Proofs.YtdmglajfmfjmlaaGreat
namespace Go.Proofs.YtdmglajfmfjmlaaGreat
set_option linter.unusedSimpArgs false
set_option linter.unusedVariables false
set_option maxRecDepth 100000
open Go.RowKit
attribute [local go_sem] Oper.semAt_some
def hcells (bg : Bool) (ws : List Nat) (A : Option Addr) (n c k : Nat) : Array Value :=
  #[.bool bg, .int .u32 (gd ws 0 : Int), .int .u32 (gd ws 1 : Int), .int .u32 (gd ws 2 : Int), .int .u32 (gd ws 3 : Int), .int .u32 (gd ws 4 : Int), .int .u32 (gd ws 5 : Int), .int .u32 (gd ws 6 : Int), .int .u32 (gd ws 7 : Int), .slice A n c, .int .i64 (k : Int)]
def HS (w : World) (g base : Nat) (m : List Nat) : Prop :=
  B8 m ∧ m.length < 140737488355328 ∧ ∃ (bg : Bool) (ws : List Nat) (A : Option Addr) (n c : Nat), Bk w g 180 (hcells bg ws A n c m.length) ∧ B32 ws ∧ ws.length = 8 ∧
    Rd .u8 w A n c (restN m) ∧ (∀ ad, A = some ad → base ≤ ad.block ∧ ad.block ≠ g ∧ ad.block < w.heap.size) ∧ (bg = true → ws = stN m) ∧ (bg = false → m = [])
def Wrote (g : Nat) (w w' : World) : Prop := w.grownBy w' (some g)
theorem Rd.kept {k : IntKind} {w w' : World} {A : Option Addr} {n c : Nat} {xs : List Nat} {row : Option Nat} (h : Rd k w A n c xs) (hg : w.grownBy w' row) (hne : ∀ ad, A = some ad → ∀ r, row = some r → ad.block ≠ r) : Rd k w' A n c xs := by
  obtain ⟨h1, h2, h3, h4⟩ := h
  refine ⟨h1, h2, h3, fun hn => ?_⟩
  obtain ⟨ad, rfl, hlt, hc⟩ := h4 hn
  refine ⟨ad, rfl, Nat.lt_of_lt_of_le hlt hg.size, fun j x hx => ?_⟩
  have hb : w'.heap[ad.block]? = w.heap[ad.block]? := hg.block _ hlt (fun e => hne ad rfl _ e.symm rfl)
  rw [World.cell?_of_block (w := w) (by rw [Go.ChangeShapes.block_add]; exact hb)]
  exact hc j x hx
end Go.Proofs.YtdmglajfmfjmlaaGreat
namespace Go.Proofs.YtdmglajfmfjmlaaGreat
set_option linter.unusedSimpArgs false
set_option linter.unusedVariables false
set_option maxRecDepth 100000
open Go.RowKit
theorem HS.new (w : World) (base : Nat) : HS (w.alloc (.cells (hcells false (List.replicate 8 0) none 0 0 0) 180)) w.heap.size base [] :=
  ⟨B8.nil, by decide, false, List.replicate 8 0, none, 0, 0, Bk.new _ _ _, B32.replicate 8, rfl, Rd.nil _ _ _ _, fun _ h => (by cases h), fun h => (by cases h), fun _ => rfl⟩
theorem HS.below {w w' : World} {g base : Nat} {m : List Nat} (h : HS w g base m) (hb : Below w.heap.size w w') : HS w' g base m := by
  obtain ⟨h1, h2, bg, ws, A, n, c, hk, h3, h4, hr, hA, h5, h6⟩ := h
  exact ⟨h1, h2, bg, ws, A, n, c, hk.below hb hk.lt, h3, h4, hr.below hb, fun ad e => ⟨(hA ad e).1, (hA ad e).2.1, Nat.lt_of_lt_of_le (hA ad e).2.2 hb.size⟩, h5, h6⟩
theorem HS.lt {w : World} {g base : Nat} {m : List Nat} (h : HS w g base m) : g < w.heap.size := by
  obtain ⟨_, _, _, _, _, _, _, hk, _⟩ := h; exact hk.lt
end Go.Proofs.YtdmglajfmfjmlaaGreat
namespace Go.Proofs.YtdmglajfmfjmlaaGreat
set_option linter.unusedSimpArgs false
set_option linter.unusedVariables false
set_option maxRecDepth 100000
open Go.RowKit
theorem Wrote.below {g base : Nat} {w w' : World} (h : Wrote g w w') (hb : base ≤ w.heap.size) (hg : base ≤ g) : Below base w w' := (Below.refl _ _).grown h hb (fun k e => by cases e; exact hg)
end Go.Proofs.YtdmglajfmfjmlaaGreat
namespace Go.Proofs.YtdmglajfmfjmlaaGreat
set_option linter.unusedSimpArgs false
set_option linter.unusedVariables false
set_option maxRecDepth 100000
open Go.RowKit
abbrev GFact := Value → World → Prop
def GTrue : GFact := fun _ _ => True
def updV (y : Nat → Value) (k : Nat) (v : Value) : Nat → Value := fun i => if i = k then v else y i
def updG (Gs : Nat → GFact) (k : Nat) (G : GFact) : Nat → GFact := fun i => if i = k then G else Gs i
def putAll : List Oper → Nat → (Nat → Value) → Act → Act
  | [], _, _, a => a
  | o :: os, k, y, a => putAll os (k + 1) y (a.put o.dst (y k))
def depsOf (Gs : Nat → GFact) (y : Nat → Value) (w : World) : List Edge → Prop
  | [] => True
  | e :: es => (Region.binds .any e = true → Gs e.on (y e.on) w) ∧ depsOf Gs y w es
def toldUpon (P : Program) (w : World) (G : GFact) : Result Next → Prop
  | .ok (.value v) w' => Below w.heap.size w w' ∧ G v w'
  | .ok .skip w' => Below w.heap.size w w' ∧ G undef w'
  | .ok (.enter f args) w' => Below w.heap.size w w' ∧ Calls P f args w' fun e w'' => ∃ v, e = .returned v ∧ Below w'.heap.size w' w'' ∧ G v w''
  | _ => False
theorem toldUpon_value (P : Program) (w w' : World) (G : GFact) (v : Value) : toldUpon P w G (.ok (.value v) w') = (Below w.heap.size w w' ∧ G v w') := rfl
theorem toldUpon_skip (P : Program) (w w' : World) (G : GFact) : toldUpon P w G (.ok .skip w') = (Below w.heap.size w w' ∧ G undef w') := rfl
theorem toldUpon_enter (P : Program) (w w' : World) (G : GFact) (f : FuncId) (args : Array Value) : toldUpon P w G (.ok (.enter f args) w') = (Below w.heap.size w w' ∧ Calls P f args w' fun e w'' => ∃ v, e = .returned v ∧ Below w'.heap.size w' w'' ∧ G v w'') := rfl
def toldAt (P : Program) (ops : Array Oper) (o : Oper) (a : Act) (w : World) (G : GFact) : Prop :=
  if Region.wanted o (yielded ops a.tmps) = true then toldUpon P w G ((execOp a.eval o).run P w) else G undef w
def Stays (G : GFact) : Prop := ∀ v w w', Below w.heap.size w w' → G v w → G v w'
theorem Stays.eq (c : Value) : Stays (fun v _ => v = c) := fun _ _ _ _ h => h
def Told (P : Program) (ops : Array Oper) (w0 : World) (F : (Nat → Value) → Act) (Q : Exit → Act → World → Prop) : Nat → (Nat → GFact) → List Oper → Prop
  | k, Gs, [] => ∀ y w, Below w0.heap.size w0 w → (∀ i, i < k → Gs i (y i) w) → Q .normal (F y) w
  | k, Gs, o :: rest => ∃ G, Stays G ∧ (∀ y w, Below w0.heap.size w0 w → depsOf Gs y w o.after.toList → toldAt P ops o (F y) w G) ∧ Told P ops w0 F Q (k + 1) (updG Gs k G) rest
theorem depsOf_mono {Gs Gs' : Nat → GFact} {y : Nat → Value} {w : World} : ∀ {es : List Edge}, (∀ i, Gs i (y i) w → Gs' i (y i) w) → depsOf Gs y w es → depsOf Gs' y w es
  | [], _, _ => trivial
  | _ :: _, h, hd => ⟨fun hb => h _ (hd.1 hb), depsOf_mono h hd.2⟩
theorem depsOf_all {Gs : Nat → GFact} {y : Nat → Value} {w : World} : ∀ {es : List Edge}, (∀ e ∈ es, Region.binds .any e = true → Gs e.on (y e.on) w) → depsOf Gs y w es
  | [], _ => trivial
  | e :: es, h => ⟨h e (by simp), depsOf_all fun e' he' => h e' (by simp [he'])⟩
section
variable {P : Program} {ops : Array Oper} {w0 : World} {F : (Nat → Value) → Act} {Q : Exit → Act → World → Prop}
theorem told_family : ∀ (rest : List Oper) (k : Nat) (Gs : Nat → GFact), (∀ i, k ≤ i → Gs i = GTrue) → Told P ops w0 F Q k Gs rest →
    ∃ GG : Nat → GFact, (∀ i, i < k → GG i = Gs i) ∧ (∀ j o, rest[j]? = some o → Stays (GG (k + j)) ∧ ∀ y w, Below w0.heap.size w0 w → depsOf GG y w o.after.toList → toldAt P ops o (F y) w (GG (k + j))) ∧
      ∀ y w, Below w0.heap.size w0 w → (∀ i, i < k + rest.length → GG i (y i) w) → Q .normal (F y) w
  | [], k, Gs, _, h => ⟨Gs, fun _ _ => rfl, fun j o hj => by simp at hj, fun y w hb hg => h y w hb hg⟩
  | o :: rest, k, Gs, hT, h => by
    obtain ⟨G, hst, hstep, hrest⟩ := h
    obtain ⟨GG, g1, g2, g3⟩ := told_family rest (k + 1) (updG Gs k G) (fun i hi => by
      unfold updG
      rw [if_neg (by omega)]
      exact hT i (by omega)) hrest
    have gk : GG k = G := by rw [g1 k (by omega)]; unfold updG; rw [if_pos rfl]
    refine ⟨GG, fun i hi => ?_, fun j o' hj => ?_, fun y w hb hg => g3 y w hb fun i hi => hg i (by simp only [List.length_cons]; omega)⟩
    · rw [g1 i (by omega)]; unfold updG; rw [if_neg (by omega)]
    · cases j with
      | zero =>
        obtain rfl : o = o' := by simpa using hj
        rw [Nat.add_zero, gk]
        refine ⟨hst, fun y w hb hd => hstep y w hb (depsOf_mono (fun i hi => ?_) hd)⟩
        rcases Nat.lt_or_ge i k with hik | hik
        · have e : GG i = Gs i := by rw [g1 i (by omega)]; unfold updG; rw [if_neg (by omega)]
          rwa [e] at hi
        · rw [hT i hik]; trivial
      | succ j =>
        have := g2 j o' (by simpa using hj)
        rwa [show k + 1 + j = k + (j + 1) by omega] at this
end
theorem put_put (a : Act) (d : Option Tmp) (v u : Value) : (a.put d v).put d u = a.put d u := by
  cases d with
  | none => rfl
  | some d => simp [Act.put]
def dsts (os : List Oper) : List Tmp := os.filterMap (·.dst)
theorem putAll_put : ∀ (os : List Oper) (k : Nat) (y : Nat → Value) (a : Act) (d : Tmp) (v : Value), d ∉ dsts os → (putAll os k y a).put (some d) v = putAll os k y (a.put (some d) v)
  | [], _, _, _, _, _, _ => rfl
  | o :: os, k, y, a, d, v, h => by
    have h1 : d ∉ dsts os := fun hd => h (by unfold dsts at *; rw [List.filterMap_cons]; cases o.dst <;> simp_all)
    have h2 : o.dst ≠ some d := fun e => h (by unfold dsts; rw [List.filterMap_cons, e]; simp)
    show (putAll os (k + 1) y (a.put o.dst (y k))).put (some d) v = putAll os (k + 1) y ((a.put (some d) v).put o.dst (y k))
    rw [putAll_put os (k + 1) y _ d v h1, Act.put_comm a (y k) v (x := o.dst) (y := some d) (fun e he hc => h2 (by rw [he, Option.some.inj hc]))]
theorem putAll_far : ∀ (os : List Oper) (k i : Nat) (y : Nat → Value) (a : Act) (v : Value), i < k → putAll os k (updV y i v) a = putAll os k y a
  | [], _, _, _, _, _, _ => rfl
  | o :: os, k, i, y, a, v, h => by
    show putAll os (k + 1) (updV y i v) (a.put o.dst (updV y i v k)) = putAll os (k + 1) y (a.put o.dst (y k))
    rw [putAll_far os (k + 1) i y _ v (by omega)]
    have : updV y i v k = y k := by unfold updV; rw [if_neg (by omega)]
    rw [this]
theorem putAll_upd : ∀ (os : List Oper) (k j : Nat) (y : Nat → Value) (a : Act) (o : Oper) (v : Value), (dsts os).Nodup → os[j]? = some o → o.dst ≠ none → (putAll os k y a).put o.dst v = putAll os k (updV y (k + j) v) a
  | [], _, _, _, _, _, _, _, h, _ => by simp at h
  | o' :: os, k, 0, y, a, o, v, hn, h, hd => by
    obtain rfl : o' = o := by simpa using h
    obtain ⟨d, hd⟩ := Option.ne_none_iff_exists'.1 hd
    have hn' : d ∉ dsts os := by
      unfold dsts at hn ⊢
      rw [List.filterMap_cons, hd] at hn
      exact (List.nodup_cons.1 hn).1
    show (putAll os (k + 1) y (a.put o'.dst (y k))).put o'.dst v = putAll os (k + 1) (updV y k v) (a.put o'.dst (updV y k v k))
    rw [putAll_far os (k + 1) k y _ v (by omega), hd, putAll_put os (k + 1) y _ d v hn', put_put]
    have : updV y k v k = v := by unfold updV; rw [if_pos rfl]
    rw [this]
  | o' :: os, k, j + 1, y, a, o, v, hn, h, hd => by
    have hn' : (dsts os).Nodup := by
      unfold dsts at hn ⊢
      rw [List.filterMap_cons] at hn
      cases e : o'.dst with
      | none => rw [e] at hn; exact hn
      | some d => rw [e] at hn; exact (List.nodup_cons.1 hn).2
    show (putAll os (k + 1) y (a.put o'.dst (y k))).put o.dst v = putAll os (k + 1) (updV y (k + (j + 1)) v) (a.put o'.dst (updV y (k + (j + 1)) v k))
    have : updV y (k + (j + 1)) v k = y k := by unfold updV; rw [if_neg (by omega)]
    rw [putAll_upd os (k + 1) j y _ o v hn' (by simpa using h) hd, this, show k + 1 + j = k + (j + 1) by omega]
theorem putAll_none : ∀ (os : List Oper) (k j : Nat) (y : Nat → Value) (a : Act) (o : Oper) (v : Value), os[j]? = some o → o.dst = none → putAll os k y a = putAll os k (updV y (k + j) v) a
  | [], _, _, _, _, _, _, h, _ => by simp at h
  | o' :: os, k, 0, y, a, o, v, h, hd => by
    obtain rfl : o' = o := by simpa using h
    show putAll os (k + 1) y (a.put o'.dst (y k)) = putAll os (k + 1) (updV y k v) (a.put o'.dst (updV y k v k))
    rw [putAll_far os (k + 1) k y _ v (by omega), hd]
    rfl
  | o' :: os, k, j + 1, y, a, o, v, h, hd => by
    show putAll os (k + 1) y (a.put o'.dst (y k)) = putAll os (k + 1) (updV y (k + (j + 1)) v) (a.put o'.dst (updV y (k + (j + 1)) v k))
    have : updV y (k + (j + 1)) v k = y k := by unfold updV; rw [if_neg (by omega)]
    rw [this, ← show k + 1 + j = k + (j + 1) by omega]
    exact putAll_none os (k + 1) j y _ o v (by simpa using h) hd
def nowAt (os : List Oper) (a : Act) : Nat → Value := fun i => ((os[i]?.bind (·.dst)).bind (a.tmps[·]?)).getD undef
theorem put_same (a : Act) (d : Tmp) : a.put (some d) ((a.tmps[d]?).getD undef) = a := by
  unfold Act.put
  have : a.tmps.setIfInBounds d ((a.tmps[d]?).getD undef) = a.tmps := by
    apply Array.ext
    · simp
    · intro i h1 h2
      rw [Array.getElem_setIfInBounds h2]
      split
      · rename_i e
        subst e
        rw [Array.getElem?_eq_getElem h2]
        rfl
      · rfl
  show { a with tmps := a.tmps.setIfInBounds d ((a.tmps[d]?).getD undef) } = a
  rw [this]
theorem putAll_now (all : List Oper) (a : Act) : ∀ (os : List Oper) (k : Nat), (∀ j, os[j]? = all[k + j]?) → putAll os k (nowAt all a) a = a
  | [], _, _ => rfl
  | o :: os, k, h => by
    have h0 : all[k]? = some o := by simpa using (h 0).symm
    have e : a.put o.dst (nowAt all a k) = a := by
      unfold nowAt
      rw [h0]
      cases hd : o.dst with
      | none => rfl
      | some d => simpa [hd] using put_same a d
    show putAll os (k + 1) (nowAt all a) (a.put o.dst (nowAt all a k)) = a
    rw [e]
    exact putAll_now all a os (k + 1) fun j => by
      have := h (j + 1)
      rw [show k + 1 + j = k + (j + 1) by omega, ← this]
      simp
def backB (ops : List Oper) : Bool := (List.range ops.length).all fun i => (ops[i]?.map fun o => o.after.toList.all fun e => !Region.binds .any e || decide (e.on < i)).getD true
def nodupB : List Tmp → Bool
  | [] => true
  | d :: ds => !ds.contains d && nodupB ds
theorem nodup_of : ∀ {ds : List Tmp}, nodupB ds = true → ds.Nodup
  | [], _ => List.nodup_nil
  | d :: ds, h => by
    simp only [nodupB, Bool.and_eq_true, Bool.not_eq_true'] at h
    exact List.nodup_cons.2 ⟨fun hm => by simp [hm] at h, nodup_of h.2⟩
section
variable {P : Program} {ops : List Oper} {w0 : World} {a0 : Act} {Q : Exit → Act → World → Prop}
theorem told_wp {o : Oper} {a : Act} {w : World} {G : GFact} {K : Act → World → Prop} (hw : Region.wanted o (yielded ops.toArray a.tmps) = true) (h : toldAt P ops.toArray o a w G)
    (hK : ∀ v w', Below w.heap.size w w' → G v w' → K (a.put o.dst v) w') : Oper.wp P o a w K Q := by
  unfold toldAt at h
  rw [if_pos hw] at h
  unfold Oper.wp
  generalize (execOp a.eval o).run P w = r at *
  cases r with
  | ok n w' =>
    cases n <;> simp only [toldUpon] at h <;> simp only [Oper.upon]
    case value v => exact hK v w' h.1 h.2
    case skip => exact hK undef w' h.1 h.2
    case enter f args => exact h.2.mono fun e w'' ⟨v, he, hb, hg⟩ => by subst he; exact hK v w'' (h.1.trans (hb.mono h.1.size)) hg
  | halt x w' => simp only [toldUpon] at h
theorem told_any (GG : Nat → GFact) (hback : backB ops = true) (hnd : (dsts ops).Nodup)
    (hG : ∀ j o, ops[j]? = some o → Stays (GG j) ∧ ∀ y w, Below w0.heap.size w0 w → depsOf GG y w o.after.toList → toldAt P ops.toArray o (putAll ops 0 y a0) w (GG j))
    (hQ : ∀ y w, Below w0.heap.size w0 w → (∀ i, i < ops.length → GG i (y i) w) → Q .normal (putAll ops 0 y a0) w) :
    ∀ (fuel : Nat) (listed : Array Bool) (y : Nat → Value) (w : World), listed.size = ops.length → listed.toList.countP (! ·) ≤ fuel → Below w0.heap.size w0 w → (∀ i, listed.getD i false = true → GG i (y i) w) →
      wpAny P .any ops.toArray Q fuel listed (putAll ops 0 y a0) w := by
  have hend : ∀ (listed : Array Bool) (y : Nat → Value) (w : World), listed.size = ops.length → Below w0.heap.size w0 w → (∀ i, listed.getD i false = true → GG i (y i) w) → Region.ready .any ops.toArray listed = [] → Q .normal (putAll ops 0 y a0) w := by
    intro listed y w hs hb hg hr
    refine hQ y w hb fun i hi => hg i ?_
    have key : ∀ n, n ≤ ops.length → ∀ j, j < n → listed.getD j false = true := by
      intro n
      induction n with
      | zero => intro _ j hj; omega
      | succ n ih =>
        intro hn j hj
        rcases Nat.lt_or_ge j n with h1 | h1
        · exact ih (by omega) j h1
        · obtain rfl : j = n := by omega
          apply Decidable.byContradiction
          intro hne
          have hj' : j < listed.size := by omega
          have hlj : listed.getD j true = false := by
            simp only [Array.getD, hj', dif_pos] at hne ⊢
            simpa using hne
          have ho : ops[j]? = some ops[j] := List.getElem?_eq_getElem (by omega)
          have hbk := hback
          unfold backB at hbk
          rw [List.all_eq_true] at hbk
          have hbj := hbk j (by simp; omega)
          rw [ho] at hbj
          simp only [Option.map_some, Option.getD_some, List.all_eq_true] at hbj
          have : j ∈ Region.ready .any ops.toArray listed := mem_ready.2 ⟨hlj, ops[j], by simp [ho], fun e he hbe => by
            have h2 := hbj e (by simpa using he)
            rw [hbe] at h2
            simp only [Bool.not_true, Bool.false_or, decide_eq_true_eq] at h2
            exact ih (by omega) _ h2⟩
          rw [hr] at this
          cases this
    exact key ops.length (Nat.le_refl _) i hi
  intro fuel
  induction fuel with
  | zero =>
    intro listed y w hs hc hb hg
    have h0 : Region.ready .any ops.toArray listed = [] := by
      cases hr : Region.ready .any ops.toArray listed with
      | nil => rfl
      | cons i is =>
        obtain ⟨hl, o, ho, _⟩ := mem_ready.1 (show i ∈ Region.ready .any ops.toArray listed by rw [hr]; simp)
        have hi : i < listed.size := by
          rw [hs]
          have := (Array.getElem?_eq_some_iff.1 ho).1
          simpa using this
        have : 0 < listed.toList.countP (! ·) := List.countP_pos_iff.2 ⟨listed[i], by simp, by simpa [Array.getD, hi] using hl⟩
        omega
    exact ⟨h0, hend listed y w hs hb hg h0⟩
  | succ fuel ih =>
    intro listed y w hs hc hb hg
    refine ⟨hend listed y w hs hb hg, fun i hi => ?_⟩
    obtain ⟨hl, o, ho, hed⟩ := mem_ready.1 hi
    have ho' : ops[i]? = some o := by simpa using ho
    have hi' : i < listed.size := by
      rw [hs]
      have := (Array.getElem?_eq_some_iff.1 ho).1
      simpa using this
    have hli : listed.toList[i]'(by simpa using hi') = false := by simpa [Array.getD, hi'] using hl
    have hcnt : (listed.setIfInBounds i true).toList.countP (! ·) ≤ fuel := by
      rw [Array.toList_setIfInBounds, List.countP_set (by simpa using hi')]
      simp only [hli, Bool.not_false, if_true, Bool.not_true, Bool.false_eq_true, if_false, Nat.add_zero]
      omega
    have hstep := hG i o ho'
    have ht := hstep.2 y w hb (depsOf_all fun e he hbe => hg _ (hed e (by simpa using he) hbe))
    have hnext : ∀ v w', Below w.heap.size w w' → GG i v w' → wpAny P .any ops.toArray Q fuel (listed.setIfInBounds i true) ((putAll ops 0 y a0).put o.dst v) w' := by
      intro v w' hbw hgv
      have e : (putAll ops 0 y a0).put o.dst v = putAll ops 0 (updV y i v) a0 := by
        cases hd : o.dst with
        | none => show putAll ops 0 y a0 = _; have := putAll_none ops 0 i y a0 o v ho' hd; simpa using this
        | some d => have := putAll_upd ops 0 i y a0 o v hnd ho' (by rw [hd]; simp); rw [hd] at this; simpa using this
      rw [e]
      refine ih _ _ _ (by simp [hs]) hcnt (hb.trans (hbw.mono hb.size)) fun j hj => ?_
      by_cases hji : j = i
      · subst hji
        have : updV y j v j = v := by unfold updV; rw [if_pos rfl]
        rw [this]; exact hgv
      · have e2 : updV y i v j = y j := by unfold updV; rw [if_neg hji]
        rw [e2]
        have hj2 : listed.getD j false = true := by
          rw [getD_set_ne false (fun h => hji h.symm)] at hj
          exact hj
        have hjl : j < ops.length := by
          rw [← hs]
          rcases Nat.lt_or_ge j listed.size with h' | h'
          · exact h'
          · simp [Array.getD, Nat.not_lt.2 h'] at hj2
        exact (hG j ops[j] (List.getElem?_eq_getElem hjl)).1 _ _ _ hbw (hg j hj2)
    unfold wpOp
    rw [ho]
    show if Region.wanted o (yielded ops.toArray (putAll ops 0 y a0).tmps) = true then _ else _
    split
    · rename_i hw
      exact .inl (told_wp hw ht hnext)
    · rename_i hw
      refine hnext undef w (Below.refl _ _) ?_
      unfold toldAt at ht
      rwa [if_neg hw] at ht
theorem region_told {id : Nat} (F : (Nat → Value) → Act) (hm : P.follows .mixedOrders = true) (hB : (backB ops && nodupB (dsts ops)) = true) (hF : (fun y => putAll ops 0 y a0) = F)
    (h : Told P ops.toArray w0 F Q 0 (fun _ => GTrue) ops) : (Code.region id ops.toArray true).wp P Q a0 w0 := by
  subst hF
  rw [Bool.and_eq_true] at hB
  obtain ⟨GG, _, g2, g3⟩ := told_family ops 0 _ (fun _ _ => rfl) h
  refine wp_region_any hm ?_
  have := told_any (P := P) (w0 := w0) (a0 := a0) (Q := Q) GG hB.1 (nodup_of hB.2) (fun j o hj => by simpa using g2 j o hj) (fun y w hb hg => g3 y w hb (by simpa using hg)) ops.toArray.size (Array.replicate ops.toArray.size false) (nowAt ops a0) { w0 with drawn := w0.drawn + 1 }
    (by simp) (Nat.le_trans List.countP_le_length (by simp)) (Below.drew (Below.refl _ _)) (fun i hi => by
      rcases Nat.lt_or_ge i ops.length with h' | h'
      · simp [Array.getD, h'] at hi
      · simp [Array.getD, Nat.not_lt.2 h'] at hi)
  rwa [putAll_now ops a0 ops 0 (by simp)] at this
theorem told_nil {F : (Nat → Value) → Act} {k : Nat} {Gs : Nat → GFact} {os : Array Oper} (h : ∀ y w, Below w0.heap.size w0 w → (∀ i, i < k → Gs i (y i) w) → Q .normal (F y) w) : Told P os w0 F Q k Gs [] := h
theorem told_step {F : (Nat → Value) → Act} {k : Nat} {Gs : Nat → GFact} {os : Array Oper} {o : Oper} {rest : List Oper} (G : GFact) (hst : Stays G)
    (h : ∀ y w, Below w0.heap.size w0 w → depsOf Gs y w o.after.toList → toldAt P os o (F y) w G)
    (hr : Told P os w0 F Q (k + 1) (updG Gs k G) rest) : Told P os w0 F Q k Gs (o :: rest) := ⟨G, hst, h, hr⟩
end
end Go.Proofs.YtdmglajfmfjmlaaGreat
namespace Go.Proofs.YtdmglajfmfjmlaaGreat
set_option linter.unusedSimpArgs false
set_option linter.unusedVariables false
set_option maxRecDepth 100000
open Go.RowKit Go.Proofs.YtdmglajfmfjmlaaGreatW.PrintWords Go.Proofs.YtdmglajfmfjmlaaGreatW.PrintLast Go.Proofs.YtdmglajfmfjmlaaGreatW.PrintMore
def LI (k : IntKind) (w : World) (v : Value) (l : List Int) : Prop := ∃ A c, v = .slice A l.length c ∧ Kd.C (Kd.int k) w A l.length l ∧ l.length ≤ c
theorem LI.below {k : IntKind} {w w' : World} {v : Value} {l : List Int} (h : LI k w v l) (hb : Below w.heap.size w w') : LI k w' v l := by
  obtain ⟨A, c, e, h1, h2⟩ := h
  exact ⟨A, c, e, Kd.C_below h1 hb, h2⟩
theorem LI.of_R {k : IntKind} {e : Nat} {w : World} {base : Nat} {ok : Nat → Prop} {v : Value} {l : List Int} (h : Kd.R (Kd.int k) e w base ok v l) : LI k w v l := by
  obtain ⟨A, c, he, hl, hc⟩ := Kd.R_reads h
  exact ⟨A, c, he, hc, hl⟩
theorem LI.nil (k : IntKind) (w : World) : LI k w (.slice none 0 0) [] := ⟨none, 0, rfl, Kd.C_nil _ _, Nat.le_refl _⟩
theorem LI.of_Rd {k : IntKind} {w : World} {A : Option Addr} {n c : Nat} {xs : List Nat} (h : Rd k w A n c xs) : LI k w (.slice A n c) (cI xs) := by
  refine ⟨A, c, by rw [cI_length, h.len], C_of_Rd h, by rw [cI_length, h.len]; exact h.cap⟩
theorem LI.of_Rdl {k : IntKind} {w : World} {A : Option Addr} {n c : Nat} {l : List Int} (h : Rd k w A n c (toN l)) (h0 : ∀ x ∈ l, 0 ≤ x) : LI k w (.slice A n c) l := by
  have := LI.of_Rd h
  rwa [cI_toN h0] at this
theorem LI.conv {w : World} {v : Value} {l : List Int} (h : LI .u8 w v l) : (convert 32 9 v).run Tryz.prog w = .ok (.string (strOfNums l)) w := by
  obtain ⟨A, c, rfl, h1, h2⟩ := h
  exact Kd.C_string (P := Tryz.prog) (A := A) (c := c) Tryz.underlying32 Tryz.underlying5 Tryz.underlying9 h1
theorem LI.form {k : IntKind} {w : World} {v : Value} {l : List Int} (h : LI k w v l) : ∃ A c, v = .slice A l.length c ∧ LI k w (.slice A l.length c) l := by
  obtain ⟨A, c, e, h1, h2⟩ := h
  exact ⟨A, c, e, A, c, rfl, h1, h2⟩
theorem okN_pos {m : Nat} {l : List Int} (h : okN m l) : ∀ x ∈ l, 0 ≤ x := fun x hx => (h.2 x hx).1
def GLI (k : IntKind) (l : List Int) : GFact := fun v w => LI k w v l
theorem GLI.stays (k : IntKind) (l : List Int) : Stays (GLI k l) := fun _ _ _ hb h => LI.below h hb
def PLI (k : IntKind) (l : List Int) (w : World) (e : Ending) (w' : World) : Prop := ∃ v, e = .returned v ∧ Below w.heap.size w w' ∧ GLI k l v w'
def PLE (k : IntKind) (r : List Int × Int) (w : World) (e : Ending) (w' : World) : Prop := ∃ v, e = .returned (.tuple #[v, .int .i64 r.2]) ∧ Below w.heap.size w w' ∧ GLI k r.1 v w'
def PIN (z : Int) (w : World) (e : Ending) (w' : World) : Prop := e = .returned (.int .i64 z) ∧ Below w.heap.size w w'
def PBO (b : Bool) (w : World) (e : Ending) (w' : World) : Prop := e = .returned (.bool b) ∧ Below w.heap.size w w'
section
variable {w : World} {v0 v1 v2 : Value} {a b c : List Int}
theorem of_li (x : Nat) (hx : x < 18446744073709551616) (w : World) : Calls Tryz.prog 57 #[.int .u64 (x : Int)] w (PLI .u64 (ofN x) w) := by
  refine (of_any w x hx).mono ?_
  rintro e w' ⟨A, c, rfl, ho, hb⟩
  exact ⟨_, rfl, hb, LI.of_Rd ho.rd⟩
theorem cmp_li (h0 : LI .u64 w v0 a) (h1 : LI .u64 w v1 b) (oa : okN 262144 a) (ob : okN 262144 b) : Calls Tryz.prog 58 #[v0, v1] w (PIN (cmpN (nI a) (nI b)) w) := by
  obtain ⟨A0, c0, rfl, h0, k0⟩ := h0
  obtain ⟨A1, c1, rfl, h1, k1⟩ := h1
  refine (cmp_giv (r := cmpN (nI a) (nI b)) h0 k0 h1 k1 (by rw [if_pos ⟨oa, ob⟩])).mono ?_
  rintro e w' ⟨rfl, hd⟩
  obtain ⟨n, rfl⟩ := hd.out
  exact ⟨rfl, below_drewN (Below.refl _ _) n⟩
theorem bits_li (h0 : LI .u64 w v0 a) (oa : okN 262144 a) : Calls Tryz.prog 74 #[v0] w (PIN ((blen (nI a) : Nat) : Int) w) := by
  obtain ⟨A0, c0, rfl, h0, k0⟩ := h0
  exact bits_giv h0 k0 (by rw [if_pos oa])
theorem bit0_li (h0 : LI .u64 w v0 a) (oa : okN 262144 a) : Calls Tryz.prog 133 #[v0, .int .i64 0] w (PIN ((nI a % 2 : Nat) : Int) w) := by
  obtain ⟨A0, c0, rfl, h0, k0⟩ := h0
  refine (bit_giv (a1 := 0) (r := ((nI a % 2 : Nat) : Int)) h0 k0 (by rw [if_pos ⟨oa, by omega⟩, if_neg (by omega), Int.toNat_zero, Nat.pow_zero, Nat.div_one])).mono ?_
  rintro e w' ⟨rfl, hd⟩
  obtain ⟨n, rfl⟩ := hd.out
  exact ⟨rfl, below_drewN (Below.refl _ _) n⟩
theorem sub_li (h0 : LI .u64 w v0 a) (h1 : LI .u64 w v1 b) (oa : okN 262144 a) (ob : okN 262144 b) : Calls Tryz.prog 94 #[v0, v1] w (PLE .u64 (ofN (nI a - nI b), if nI a < nI b then 10 else 0) w) := by
  obtain ⟨A0, c0, rfl, h0, k0⟩ := h0
  obtain ⟨A1, c1, rfl, h1, k1⟩ := h1
  refine (sub_giv h0 k0 h1 k1 (by rw [if_pos ⟨oa, ob⟩])).mono ?_
  rintro e w' ⟨v, rfl, hR, hb⟩
  exact ⟨v, rfl, hb, .of_R hR⟩
theorem mul_li (h0 : LI .u64 w v0 a) (h1 : LI .u64 w v1 b) (oa : okN 262144 a) (ob : okN 262144 b) : Calls Tryz.prog 61 #[v0, v1] w (PLI .u64 (ofN (nI a * nI b)) w) := by
  obtain ⟨A0, c0, rfl, h0, k0⟩ := h0
  obtain ⟨A1, c1, rfl, h1, k1⟩ := h1
  refine (mul_giv h0 k0 h1 k1 (by rw [if_pos ⟨oa, ob⟩])).mono ?_
  rintro e w' ⟨v, rfl, hR, hb⟩
  exact ⟨v, rfl, hb, .of_R hR⟩
theorem primes_li (h0 : LI .u64 w v0 a) (h1 : LI .u64 w v1 b) (oa : okN 1024 a) (ob : okN 1048576 b) : Calls Tryz.prog 116 #[v0, v1] w (PBO (primeN (nI a) (toN b)) w) := by
  obtain ⟨A0, c0, rfl, h0, k0⟩ := h0
  obtain ⟨A1, c1, rfl, h1, k1⟩ := h1
  exact prime_giv h0 k0 h1 k1 (by rw [if_pos ⟨oa, ob⟩])
end
structure KB (w wa : World) (g : Nat) (t : TypeId) (V0 V1 V2 : Value) (n e d : List Int) : Prop where
  bk : Bk wa g t #[V0, V1, V2]
  h0 : LI .u64 wa V0 n
  h1 : LI .u64 wa V1 e
  h2 : LI .u64 wa V2 d
  bel : Below w.heap.size w wa
theorem KB.new {w : World} {t : TypeId} {V0 V1 V2 : Value} {n e d : List Int} (h0 : LI .u64 w V0 n) (h1 : LI .u64 w V1 e) (h2 : LI .u64 w V2 d) : KB w (w.alloc (.cells #[V0, V1, V2] t)) w.heap.size t V0 V1 V2 n e d := by
  have hb : Below w.heap.size w (w.alloc (.cells #[V0, V1, V2] t)) := (Below.refl _ _).alloc (Nat.le_refl _) _
  exact ⟨Bk.new w _ _, h0.below hb, h1.below hb, h2.below hb, hb⟩
section
variable {w wa w' : World} {g : Nat} {t : TypeId} {V0 V1 V2 : Value} {n e d : List Int}
theorem KB.below (h : KB w wa g t V0 V1 V2 n e d) (hb : Below wa.heap.size wa w') : KB w w' g t V0 V1 V2 n e d :=
  ⟨h.bk.below hb h.bk.lt, h.h0.below hb, h.h1.below hb, h.h2.below hb, h.bel.trans (hb.mono h.bel.size)⟩
theorem KB.c0 (h : KB w wa g t V0 V1 V2 n e d) : wa.cell? ⟨g, 0, none⟩ = some V0 := h.bk.cell 0
theorem KB.c1 (h : KB w wa g t V0 V1 V2 n e d) : wa.cell? ⟨g, 1, none⟩ = some V1 := h.bk.cell 1
theorem KB.c2 (h : KB w wa g t V0 V1 V2 n e d) : wa.cell? ⟨g, 2, none⟩ = some V2 := h.bk.cell 2
end
end Go.Proofs.YtdmglajfmfjmlaaGreat
namespace Go.Proofs.YtdmglajfmfjmlaaGreat
set_option linter.unusedSimpArgs false
set_option linter.unusedVariables false
set_option maxRecDepth 100000
open Go.RowKit Go.Proofs.YtdmglajfmfjmlaaGreatW.PrintWords Go.Proofs.YtdmglajfmfjmlaaGreatW.PrintLast Go.Proofs.YtdmglajfmfjmlaaGreatW.PrintMore
def szN (n : Nat) : Nat := (blen n + 7) / 8
def keyR (n e d : Nat) : Int := if 16 ≤ blen n ∧ blen n ≤ 1024 ∧ n % 2 = 1 ∧ e % 2 = 1 ∧ 2 ≤ blen e ∧ e < n ∧ d < n then 0 else 50
section
variable {a b c n e d t s : List Int}
theorem blen_okN {m : Nat} (h : okN m a) : blen (nI a) ≤ 64 * m := by
  have h1 := ln_le.1 (ln_nI h)
  refine blen_le.2 ?_
  rw [show (18446744073709551616 : Nat) = 2 ^ 64 by decide, ← Nat.pow_mul] at h1
  exact h1
end
end Go.Proofs.YtdmglajfmfjmlaaGreat
namespace Go.Proofs.YtdmglajfmfjmlaaGreat
set_option linter.unusedSimpArgs false
set_option linter.unusedVariables false
set_option maxRecDepth 100000
open Go.RowKit Go.Proofs.YtdmglajfmfjmlaaGreatW.PrintWords Go.Proofs.YtdmglajfmfjmlaaGreatW.PrintLast Go.Proofs.YtdmglajfmfjmlaaGreatW.PrintMore
attribute [local go_sem] toldUpon_value toldUpon_skip toldUpon_enter
section
variable {w : World} {v0 v1 v2 vt vs vx : Value} {n e d t s x : List Int}
theorem size_li (h0 : LI .u64 w v0 n) (h1 : LI .u64 w v1 e) (h2 : LI .u64 w v2 d) (on : okN 64 n) : Calls Tryz.prog 59 #[.agg #[v0, v1, v2]] w (PIN ((szN (nI n) : Nat) : Int) w) := by
  obtain ⟨A0, c0, rfl, h0⟩ := h0.form
  obtain ⟨A1, c1, rfl, h1⟩ := h1.form
  obtain ⟨A2, c2, rfl, h2⟩ := h2.form
  have HN := Lib.hid (KB.new (t := 26) h0 h1 h2)
  obtain ⟨wa, hwa⟩ : ∃ z, w.alloc (.cells #[.slice A0 n.length c0, .slice A1 e.length c1, .slice A2 d.length c2] 26) = z := ⟨_, rfl⟩
  rw [hwa] at HN
  have y0 := HN.out.c0
  have y1 := HN.out.c1
  have y2 := HN.out.c2
  have hB := Lib.hid (bits_li HN.out.h0 (on.le (by omega)))
  have hb4 := blen_okN on
  obtain ⟨z, hz⟩ : ∃ z, blen (nI n) = z := ⟨_, rfl⟩
  have HS := Lib.hid (show szN (nI n) = (z + 7) / 8 by unfold szN; rw [hz])
  rw [hz] at hB hb4
  have i1 : IntKind.i64.wrap ((z : Int) + 7) = ((z + 7 : Nat) : Int) := by rw [IntWalk.i64_in _ (by omega)]; omega
  have i2 : IntKind.i64.wrap (Int.tdiv ((z + 7 : Nat) : Int) 8) = (((z + 7) / 8 : Nat) : Int) := by rw [Int.tdiv_eq_ediv_of_nonneg (by omega), IntWalk.i64_in _ (by omega)]; omega
  clear hz h0 h1 h2
  go_enter Tryz.func59, Tryz.ntmps59
  go_wp2_with (go_at_call 74; refine hB.out.mono ?_; rintro e_ w1 ⟨rfl, hb⟩)
  go_ret
  exact ⟨by have e1 : (((z + 7) / 8 : Nat) : Int) = ((z : Int) + 7) / 8 := by omega
            rw [HS.out, e1]; rfl, HN.out.bel.trans (hb.mono HN.out.bel.size)⟩
set_option maxHeartbeats 2000000 in
theorem right_li (h0 : LI .u64 w v0 n) (h1 : LI .u64 w v1 e) (h2 : LI .u64 w v2 d) (on : okN 64 n) (oe : okN 64 e) (od : okN 64 d) : Calls Tryz.prog 64 #[.agg #[v0, v1, v2]] w (PIN (keyR (nI n) (nI e) (nI d)) w) := by
  obtain ⟨A0, c0, rfl, h0⟩ := h0.form
  obtain ⟨A1, c1, rfl, h1⟩ := h1.form
  obtain ⟨A2, c2, rfl, h2⟩ := h2.form
  have HN := Lib.hid (KB.new (t := 26) h0 h1 h2)
  obtain ⟨wa, hwa⟩ : ∃ z, w.alloc (.cells #[.slice A0 n.length c0, .slice A1 e.length c1, .slice A2 d.length c2] 26) = z := ⟨_, rfl⟩
  rw [hwa] at HN
  have y0 := HN.out.c0
  have y1 := HN.out.c1
  have y2 := HN.out.c2
  have on' := on.le (m' := 262144) (by omega)
  have oe' := oe.le (m' := 262144) (by omega)
  have od' := od.le (m' := 262144) (by omega)
  have HB0 := Lib.hid (fun w' (h : LI .u64 w' (.slice A0 n.length c0) n) => bits_li h on')
  have HB1 := Lib.hid (fun w' (h : LI .u64 w' (.slice A1 e.length c1) e) => bits_li h oe')
  have HT0 := Lib.hid (fun w' (h : LI .u64 w' (.slice A0 n.length c0) n) => bit0_li h on')
  have HT1 := Lib.hid (fun w' (h : LI .u64 w' (.slice A1 e.length c1) e) => bit0_li h oe')
  have HC1 := Lib.hid (fun w' (h : LI .u64 w' (.slice A1 e.length c1) e) (h' : LI .u64 w' (.slice A0 n.length c0) n) => cmp_li h h' oe' on')
  have HC2 := Lib.hid (fun w' (h : LI .u64 w' (.slice A2 d.length c2) d) (h' : LI .u64 w' (.slice A0 n.length c0) n) => cmp_li h h' od' on')
  obtain ⟨z, hz⟩ : ∃ z : Int, ((blen (nI n) : Nat) : Int) = z := ⟨_, rfl⟩
  obtain ⟨y, hy⟩ : ∃ y : Int, ((blen (nI e) : Nat) : Int) = y := ⟨_, rfl⟩
  obtain ⟨q1, hq1⟩ : ∃ q : Int, cmpN (nI e) (nI n) = q := ⟨_, rfl⟩
  obtain ⟨q2, hq2⟩ : ∃ q : Int, cmpN (nI d) (nI n) = q := ⟨_, rfl⟩
  have c1' : (0 ≤ q1) ↔ nI n ≤ nI e := by rw [← hq1]; unfold cmpN; split <;> (try split) <;> omega
  have c2' : (0 ≤ q2) ↔ nI n ≤ nI d := by rw [← hq2]; unfold cmpN; split <;> (try split) <;> omega
  have K : ∀ r, (keyR (nI n) (nI e) (nI d) = r) → Calls Tryz.prog 64 #[.agg #[.slice A0 n.length c0, .slice A1 e.length c1, .slice A2 d.length c2]] w (PIN r w) → Calls Tryz.prog 64 #[.agg #[.slice A0 n.length c0, .slice A1 e.length c1, .slice A2 d.length c2]] w (PIN (keyR (nI n) (nI e) (nI d)) w) := fun r h h' => by rw [h]; exact h'
  rw [hz] at HB0
  rw [hy] at HB1
  rw [hq1] at HC1
  rw [hq2] at HC2
  clear h0 h1 h2 on' oe' od' on oe od
  by_cases g1 : z < 16
  · refine K 50 (by unfold keyR; rw [if_neg (by omega)]) ?_
    clear c1' c2' hz hy hq1 hq2 K
    go_enter Tryz.func64, Tryz.ntmps64
    go_wp2_with (first
      | (go_at_call 74; (with_reducible refine (HB0.out _ HN.out.h0).mono ?_); rintro e_ w1 ⟨rfl, hb⟩; clear y0 y1 y2; replace HN := Lib.hid (HN.out.below hb); clear hb; have y0 := HN.out.c0; have y1 := HN.out.c1; have y2 := HN.out.c2)
      | (go_at_call 74; (with_reducible refine (HB1.out _ HN.out.h1).mono ?_); rintro e_ w1 ⟨rfl, hb⟩; clear y0 y1 y2; replace HN := Lib.hid (HN.out.below hb); clear hb; have y0 := HN.out.c0; have y1 := HN.out.c1; have y2 := HN.out.c2)
      | (go_at_call 133; (with_reducible refine (HT0.out _ HN.out.h0).mono ?_); rintro e_ w1 ⟨rfl, hb⟩; clear y0 y1 y2; replace HN := Lib.hid (HN.out.below hb); clear hb; have y0 := HN.out.c0; have y1 := HN.out.c1; have y2 := HN.out.c2)
      | (go_at_call 133; (with_reducible refine (HT1.out _ HN.out.h1).mono ?_); rintro e_ w1 ⟨rfl, hb⟩; clear y0 y1 y2; replace HN := Lib.hid (HN.out.below hb); clear hb; have y0 := HN.out.c0; have y1 := HN.out.c1; have y2 := HN.out.c2)
      | (go_at_call 58; (with_reducible refine (HC1.out _ HN.out.h1 HN.out.h0).mono ?_); rintro e_ w1 ⟨rfl, hb⟩; clear y0 y1 y2; replace HN := Lib.hid (HN.out.below hb); clear hb; have y0 := HN.out.c0; have y1 := HN.out.c1; have y2 := HN.out.c2)
      | (go_at_call 58; (with_reducible refine (HC2.out _ HN.out.h2 HN.out.h0).mono ?_); rintro e_ w1 ⟨rfl, hb⟩; clear y0 y1 y2; replace HN := Lib.hid (HN.out.below hb); clear hb; have y0 := HN.out.c0; have y1 := HN.out.c1; have y2 := HN.out.c2))
    go_ret
    exact ⟨rfl, HN.out.bel⟩
  by_cases g2 : 1024 < z
  · refine K 50 (by unfold keyR; rw [if_neg (by omega)]) ?_
    clear c1' c2' hz hy hq1 hq2 K
    go_enter Tryz.func64, Tryz.ntmps64
    go_wp2_with (first
      | (go_at_call 74; (with_reducible refine (HB0.out _ HN.out.h0).mono ?_); rintro e_ w1 ⟨rfl, hb⟩; clear y0 y1 y2; replace HN := Lib.hid (HN.out.below hb); clear hb; have y0 := HN.out.c0; have y1 := HN.out.c1; have y2 := HN.out.c2)
      | (go_at_call 74; (with_reducible refine (HB1.out _ HN.out.h1).mono ?_); rintro e_ w1 ⟨rfl, hb⟩; clear y0 y1 y2; replace HN := Lib.hid (HN.out.below hb); clear hb; have y0 := HN.out.c0; have y1 := HN.out.c1; have y2 := HN.out.c2)
      | (go_at_call 133; (with_reducible refine (HT0.out _ HN.out.h0).mono ?_); rintro e_ w1 ⟨rfl, hb⟩; clear y0 y1 y2; replace HN := Lib.hid (HN.out.below hb); clear hb; have y0 := HN.out.c0; have y1 := HN.out.c1; have y2 := HN.out.c2)
      | (go_at_call 133; (with_reducible refine (HT1.out _ HN.out.h1).mono ?_); rintro e_ w1 ⟨rfl, hb⟩; clear y0 y1 y2; replace HN := Lib.hid (HN.out.below hb); clear hb; have y0 := HN.out.c0; have y1 := HN.out.c1; have y2 := HN.out.c2)
      | (go_at_call 58; (with_reducible refine (HC1.out _ HN.out.h1 HN.out.h0).mono ?_); rintro e_ w1 ⟨rfl, hb⟩; clear y0 y1 y2; replace HN := Lib.hid (HN.out.below hb); clear hb; have y0 := HN.out.c0; have y1 := HN.out.c1; have y2 := HN.out.c2)
      | (go_at_call 58; (with_reducible refine (HC2.out _ HN.out.h2 HN.out.h0).mono ?_); rintro e_ w1 ⟨rfl, hb⟩; clear y0 y1 y2; replace HN := Lib.hid (HN.out.below hb); clear hb; have y0 := HN.out.c0; have y1 := HN.out.c1; have y2 := HN.out.c2))
    go_ret
    exact ⟨rfl, HN.out.bel⟩
  rcases Nat.mod_two_eq_zero_or_one (nI n) with g3 | g3
  · rw [g3] at HT0
    refine K 50 (by unfold keyR; rw [if_neg (by omega)]) ?_
    clear c1' c2' hz hy hq1 hq2 K
    go_enter Tryz.func64, Tryz.ntmps64
    go_wp2_with (first
      | (go_at_call 74; (with_reducible refine (HB0.out _ HN.out.h0).mono ?_); rintro e_ w1 ⟨rfl, hb⟩; clear y0 y1 y2; replace HN := Lib.hid (HN.out.below hb); clear hb; have y0 := HN.out.c0; have y1 := HN.out.c1; have y2 := HN.out.c2)
      | (go_at_call 74; (with_reducible refine (HB1.out _ HN.out.h1).mono ?_); rintro e_ w1 ⟨rfl, hb⟩; clear y0 y1 y2; replace HN := Lib.hid (HN.out.below hb); clear hb; have y0 := HN.out.c0; have y1 := HN.out.c1; have y2 := HN.out.c2)
      | (go_at_call 133; (with_reducible refine (HT0.out _ HN.out.h0).mono ?_); rintro e_ w1 ⟨rfl, hb⟩; clear y0 y1 y2; replace HN := Lib.hid (HN.out.below hb); clear hb; have y0 := HN.out.c0; have y1 := HN.out.c1; have y2 := HN.out.c2)
      | (go_at_call 133; (with_reducible refine (HT1.out _ HN.out.h1).mono ?_); rintro e_ w1 ⟨rfl, hb⟩; clear y0 y1 y2; replace HN := Lib.hid (HN.out.below hb); clear hb; have y0 := HN.out.c0; have y1 := HN.out.c1; have y2 := HN.out.c2)
      | (go_at_call 58; (with_reducible refine (HC1.out _ HN.out.h1 HN.out.h0).mono ?_); rintro e_ w1 ⟨rfl, hb⟩; clear y0 y1 y2; replace HN := Lib.hid (HN.out.below hb); clear hb; have y0 := HN.out.c0; have y1 := HN.out.c1; have y2 := HN.out.c2)
      | (go_at_call 58; (with_reducible refine (HC2.out _ HN.out.h2 HN.out.h0).mono ?_); rintro e_ w1 ⟨rfl, hb⟩; clear y0 y1 y2; replace HN := Lib.hid (HN.out.below hb); clear hb; have y0 := HN.out.c0; have y1 := HN.out.c1; have y2 := HN.out.c2))
    go_ret
    exact ⟨rfl, HN.out.bel⟩
  rw [g3] at HT0
  rcases Nat.mod_two_eq_zero_or_one (nI e) with g4 | g4
  · rw [g4] at HT1
    refine K 50 (by unfold keyR; rw [if_neg (by omega)]) ?_
    clear c1' c2' hz hy hq1 hq2 K
    go_enter Tryz.func64, Tryz.ntmps64
    go_wp2_with (first
      | (go_at_call 74; (with_reducible refine (HB0.out _ HN.out.h0).mono ?_); rintro e_ w1 ⟨rfl, hb⟩; clear y0 y1 y2; replace HN := Lib.hid (HN.out.below hb); clear hb; have y0 := HN.out.c0; have y1 := HN.out.c1; have y2 := HN.out.c2)
      | (go_at_call 74; (with_reducible refine (HB1.out _ HN.out.h1).mono ?_); rintro e_ w1 ⟨rfl, hb⟩; clear y0 y1 y2; replace HN := Lib.hid (HN.out.below hb); clear hb; have y0 := HN.out.c0; have y1 := HN.out.c1; have y2 := HN.out.c2)
      | (go_at_call 133; (with_reducible refine (HT0.out _ HN.out.h0).mono ?_); rintro e_ w1 ⟨rfl, hb⟩; clear y0 y1 y2; replace HN := Lib.hid (HN.out.below hb); clear hb; have y0 := HN.out.c0; have y1 := HN.out.c1; have y2 := HN.out.c2)
      | (go_at_call 133; (with_reducible refine (HT1.out _ HN.out.h1).mono ?_); rintro e_ w1 ⟨rfl, hb⟩; clear y0 y1 y2; replace HN := Lib.hid (HN.out.below hb); clear hb; have y0 := HN.out.c0; have y1 := HN.out.c1; have y2 := HN.out.c2)
      | (go_at_call 58; (with_reducible refine (HC1.out _ HN.out.h1 HN.out.h0).mono ?_); rintro e_ w1 ⟨rfl, hb⟩; clear y0 y1 y2; replace HN := Lib.hid (HN.out.below hb); clear hb; have y0 := HN.out.c0; have y1 := HN.out.c1; have y2 := HN.out.c2)
      | (go_at_call 58; (with_reducible refine (HC2.out _ HN.out.h2 HN.out.h0).mono ?_); rintro e_ w1 ⟨rfl, hb⟩; clear y0 y1 y2; replace HN := Lib.hid (HN.out.below hb); clear hb; have y0 := HN.out.c0; have y1 := HN.out.c1; have y2 := HN.out.c2))
    go_ret
    exact ⟨rfl, HN.out.bel⟩
  rw [g4] at HT1
  by_cases g5 : y < 2
  · refine K 50 (by unfold keyR; rw [if_neg (by omega)]) ?_
    clear c1' c2' hz hy hq1 hq2 K
    go_enter Tryz.func64, Tryz.ntmps64
    go_wp2_with (first
      | (go_at_call 74; (with_reducible refine (HB0.out _ HN.out.h0).mono ?_); rintro e_ w1 ⟨rfl, hb⟩; clear y0 y1 y2; replace HN := Lib.hid (HN.out.below hb); clear hb; have y0 := HN.out.c0; have y1 := HN.out.c1; have y2 := HN.out.c2)
      | (go_at_call 74; (with_reducible refine (HB1.out _ HN.out.h1).mono ?_); rintro e_ w1 ⟨rfl, hb⟩; clear y0 y1 y2; replace HN := Lib.hid (HN.out.below hb); clear hb; have y0 := HN.out.c0; have y1 := HN.out.c1; have y2 := HN.out.c2)
      | (go_at_call 133; (with_reducible refine (HT0.out _ HN.out.h0).mono ?_); rintro e_ w1 ⟨rfl, hb⟩; clear y0 y1 y2; replace HN := Lib.hid (HN.out.below hb); clear hb; have y0 := HN.out.c0; have y1 := HN.out.c1; have y2 := HN.out.c2)
      | (go_at_call 133; (with_reducible refine (HT1.out _ HN.out.h1).mono ?_); rintro e_ w1 ⟨rfl, hb⟩; clear y0 y1 y2; replace HN := Lib.hid (HN.out.below hb); clear hb; have y0 := HN.out.c0; have y1 := HN.out.c1; have y2 := HN.out.c2)
      | (go_at_call 58; (with_reducible refine (HC1.out _ HN.out.h1 HN.out.h0).mono ?_); rintro e_ w1 ⟨rfl, hb⟩; clear y0 y1 y2; replace HN := Lib.hid (HN.out.below hb); clear hb; have y0 := HN.out.c0; have y1 := HN.out.c1; have y2 := HN.out.c2)
      | (go_at_call 58; (with_reducible refine (HC2.out _ HN.out.h2 HN.out.h0).mono ?_); rintro e_ w1 ⟨rfl, hb⟩; clear y0 y1 y2; replace HN := Lib.hid (HN.out.below hb); clear hb; have y0 := HN.out.c0; have y1 := HN.out.c1; have y2 := HN.out.c2))
    go_ret
    exact ⟨rfl, HN.out.bel⟩
  by_cases g6 : 0 ≤ q1
  · refine K 50 (by unfold keyR; rw [if_neg (by have := c1'.1 g6; omega)]) ?_
    clear c1' c2' hz hy hq1 hq2 K
    go_enter Tryz.func64, Tryz.ntmps64
    go_wp2_with (first
      | (go_at_call 74; (with_reducible refine (HB0.out _ HN.out.h0).mono ?_); rintro e_ w1 ⟨rfl, hb⟩; clear y0 y1 y2; replace HN := Lib.hid (HN.out.below hb); clear hb; have y0 := HN.out.c0; have y1 := HN.out.c1; have y2 := HN.out.c2)
      | (go_at_call 74; (with_reducible refine (HB1.out _ HN.out.h1).mono ?_); rintro e_ w1 ⟨rfl, hb⟩; clear y0 y1 y2; replace HN := Lib.hid (HN.out.below hb); clear hb; have y0 := HN.out.c0; have y1 := HN.out.c1; have y2 := HN.out.c2)
      | (go_at_call 133; (with_reducible refine (HT0.out _ HN.out.h0).mono ?_); rintro e_ w1 ⟨rfl, hb⟩; clear y0 y1 y2; replace HN := Lib.hid (HN.out.below hb); clear hb; have y0 := HN.out.c0; have y1 := HN.out.c1; have y2 := HN.out.c2)
      | (go_at_call 133; (with_reducible refine (HT1.out _ HN.out.h1).mono ?_); rintro e_ w1 ⟨rfl, hb⟩; clear y0 y1 y2; replace HN := Lib.hid (HN.out.below hb); clear hb; have y0 := HN.out.c0; have y1 := HN.out.c1; have y2 := HN.out.c2)
      | (go_at_call 58; (with_reducible refine (HC1.out _ HN.out.h1 HN.out.h0).mono ?_); rintro e_ w1 ⟨rfl, hb⟩; clear y0 y1 y2; replace HN := Lib.hid (HN.out.below hb); clear hb; have y0 := HN.out.c0; have y1 := HN.out.c1; have y2 := HN.out.c2)
      | (go_at_call 58; (with_reducible refine (HC2.out _ HN.out.h2 HN.out.h0).mono ?_); rintro e_ w1 ⟨rfl, hb⟩; clear y0 y1 y2; replace HN := Lib.hid (HN.out.below hb); clear hb; have y0 := HN.out.c0; have y1 := HN.out.c1; have y2 := HN.out.c2))
    go_ret
    exact ⟨rfl, HN.out.bel⟩
  by_cases g7 : 0 ≤ q2
  · refine K 50 (by unfold keyR; rw [if_neg (by have := c2'.1 g7; omega)]) ?_
    clear c1' c2' hz hy hq1 hq2 K
    go_enter Tryz.func64, Tryz.ntmps64
    go_wp2_with (first
      | (go_at_call 74; (with_reducible refine (HB0.out _ HN.out.h0).mono ?_); rintro e_ w1 ⟨rfl, hb⟩; clear y0 y1 y2; replace HN := Lib.hid (HN.out.below hb); clear hb; have y0 := HN.out.c0; have y1 := HN.out.c1; have y2 := HN.out.c2)
      | (go_at_call 74; (with_reducible refine (HB1.out _ HN.out.h1).mono ?_); rintro e_ w1 ⟨rfl, hb⟩; clear y0 y1 y2; replace HN := Lib.hid (HN.out.below hb); clear hb; have y0 := HN.out.c0; have y1 := HN.out.c1; have y2 := HN.out.c2)
      | (go_at_call 133; (with_reducible refine (HT0.out _ HN.out.h0).mono ?_); rintro e_ w1 ⟨rfl, hb⟩; clear y0 y1 y2; replace HN := Lib.hid (HN.out.below hb); clear hb; have y0 := HN.out.c0; have y1 := HN.out.c1; have y2 := HN.out.c2)
      | (go_at_call 133; (with_reducible refine (HT1.out _ HN.out.h1).mono ?_); rintro e_ w1 ⟨rfl, hb⟩; clear y0 y1 y2; replace HN := Lib.hid (HN.out.below hb); clear hb; have y0 := HN.out.c0; have y1 := HN.out.c1; have y2 := HN.out.c2)
      | (go_at_call 58; (with_reducible refine (HC1.out _ HN.out.h1 HN.out.h0).mono ?_); rintro e_ w1 ⟨rfl, hb⟩; clear y0 y1 y2; replace HN := Lib.hid (HN.out.below hb); clear hb; have y0 := HN.out.c0; have y1 := HN.out.c1; have y2 := HN.out.c2)
      | (go_at_call 58; (with_reducible refine (HC2.out _ HN.out.h2 HN.out.h0).mono ?_); rintro e_ w1 ⟨rfl, hb⟩; clear y0 y1 y2; replace HN := Lib.hid (HN.out.below hb); clear hb; have y0 := HN.out.c0; have y1 := HN.out.c1; have y2 := HN.out.c2))
    go_ret
    exact ⟨rfl, HN.out.bel⟩
  · refine K 0 (if_pos ⟨by omega, by omega, g3, g4, by omega, Nat.lt_of_not_le fun h => g6 (c1'.2 h), Nat.lt_of_not_le fun h => g7 (c2'.2 h)⟩) ?_
    clear c1' c2' hz hy hq1 hq2 K
    go_enter Tryz.func64, Tryz.ntmps64
    go_wp2_with (first
      | (go_at_call 74; (with_reducible refine (HB0.out _ HN.out.h0).mono ?_); rintro e_ w1 ⟨rfl, hb⟩; clear y0 y1 y2; replace HN := Lib.hid (HN.out.below hb); clear hb; have y0 := HN.out.c0; have y1 := HN.out.c1; have y2 := HN.out.c2)
      | (go_at_call 74; (with_reducible refine (HB1.out _ HN.out.h1).mono ?_); rintro e_ w1 ⟨rfl, hb⟩; clear y0 y1 y2; replace HN := Lib.hid (HN.out.below hb); clear hb; have y0 := HN.out.c0; have y1 := HN.out.c1; have y2 := HN.out.c2)
      | (go_at_call 133; (with_reducible refine (HT0.out _ HN.out.h0).mono ?_); rintro e_ w1 ⟨rfl, hb⟩; clear y0 y1 y2; replace HN := Lib.hid (HN.out.below hb); clear hb; have y0 := HN.out.c0; have y1 := HN.out.c1; have y2 := HN.out.c2)
      | (go_at_call 133; (with_reducible refine (HT1.out _ HN.out.h1).mono ?_); rintro e_ w1 ⟨rfl, hb⟩; clear y0 y1 y2; replace HN := Lib.hid (HN.out.below hb); clear hb; have y0 := HN.out.c0; have y1 := HN.out.c1; have y2 := HN.out.c2)
      | (go_at_call 58; (with_reducible refine (HC1.out _ HN.out.h1 HN.out.h0).mono ?_); rintro e_ w1 ⟨rfl, hb⟩; clear y0 y1 y2; replace HN := Lib.hid (HN.out.below hb); clear hb; have y0 := HN.out.c0; have y1 := HN.out.c1; have y2 := HN.out.c2)
      | (go_at_call 58; (with_reducible refine (HC2.out _ HN.out.h2 HN.out.h0).mono ?_); rintro e_ w1 ⟨rfl, hb⟩; clear y0 y1 y2; replace HN := Lib.hid (HN.out.below hb); clear hb; have y0 := HN.out.c0; have y1 := HN.out.c1; have y2 := HN.out.c2))
    go_ret
    exact ⟨rfl, HN.out.bel⟩
end
end Go.Proofs.YtdmglajfmfjmlaaGreat
namespace Go.Proofs.YtdmglajfmfjmlaaGreat
set_option linter.unusedSimpArgs false
set_option linter.unusedVariables false
set_option maxRecDepth 100000
open Go.RowKit Go.Proofs.YtdmglajfmfjmlaaGreatW.PrintWords Go.Proofs.YtdmglajfmfjmlaaGreatW.PrintLast Go.Proofs.YtdmglajfmfjmlaaGreatW.PrintMore
attribute [local go_sem] toldUpon_value toldUpon_skip toldUpon_enter
def GOW (k : IntKind) (e : TypeId) (base : Nat) (l : List Int) : GFact := fun v w => ∃ A c, v = .slice A l.length c ∧ Own k e w base A l.length c (toN l)
theorem GOW.lower {k : IntKind} {e : TypeId} {base b' : Nat} {l : List Int} {v : Value} {w : World} (h : GOW k e base l v w) (hb : b' ≤ base) : GOW k e b' l v w := by
  obtain ⟨A, c, he, ho⟩ := h
  exact ⟨A, c, he, ho.lower hb⟩
theorem Own.lowL {k : IntKind} {e : TypeId} {w : World} {base n c : Nat} {A : Option Addr} {xs : List Nat} (h : Own k e w base A n c xs) {p : Addr} (hp : p.block < base) (u : Value) : Own k e (w.setCell p u) base A n c xs := by
  refine ⟨h.1, ?_⟩
  rcases h.2 with hn | ⟨g, cap, cur, h1, hg, hh, rest⟩
  · exact .inl hn
  · exact .inr ⟨g, cap, cur, h1, hg, (Below.heap_setCell w p u g (by omega)).trans hh, rest⟩
end Go.Proofs.YtdmglajfmfjmlaaGreat
namespace Go.Proofs.YtdmglajfmfjmlaaGreat
set_option linter.unusedSimpArgs false
set_option linter.unusedVariables false
set_option maxRecDepth 100000
open Go.RowKit Go.Proofs.YtdmglajfmfjmlaaGreatW.PrintWords Go.Proofs.YtdmglajfmfjmlaaGreatW.PrintLast Go.Proofs.YtdmglajfmfjmlaaGreatW.PrintMore
attribute [local go_sem] toldUpon_value toldUpon_skip toldUpon_enter
end Go.Proofs.YtdmglajfmfjmlaaGreat
