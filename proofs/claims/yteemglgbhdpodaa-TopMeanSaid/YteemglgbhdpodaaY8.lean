/- Of clocks that lie equally far the combined offset is the mean of their points, where that is whole: the walk. -/
import Derived.Test.YteemglgbhdpodaaY6
namespace Go.Proofs.Yteemglgbhdpodaa
set_option linter.unusedSimpArgs false
set_option linter.unusedVariables false
set_option maxRecDepth 100000
open Go.RowKit

theorem tdiv_mul {a n : Int} (h : Int.tmod a n = 0) : a = Int.tdiv a n * n := by
  have := Int.tdiv_mul_add_tmod a n
  omega
theorem info_i : (Try.prog.info? 2).map (fun i => (i.zero, i.size, i.bytes)) = some (some (.int .i64 0), 1, 8) := by kernel_rfl
theorem gi_getE {xs : List Int} {k : Nat} (h : k < xs.length) : gi xs k = xs[k] := by
  unfold gi; rw [List.getD_eq_getElem?_getD, List.getElem?_eq_getElem h]; rfl
theorem ivs_take (xs : List Int) (k : Nat) (h : k < xs.length) : ivs (xs.take k) ++ [.int .i64 (gi xs k)] = ivs (xs.take (k + 1)) := by
  unfold ivs; rw [List.take_succ_eq_append_getElem h, List.map_append, gi_getE h]; rfl
theorem sum_iv {xs : List Int} (h : ∀ t, t < xs.length → (gi xs t).natAbs < 68719476736) (hl : xs.length ≤ 64) : ∀ t, t ≤ xs.length → IV (fsum ((xs.map fi).take t)) (sumT xs t) ∧ (sumT xs t).natAbs ≤ t * 68719476736
  | 0, _ => ⟨iv0, by simp [sumT]⟩
  | t + 1, ht => by
    obtain ⟨h1, h2⟩ := sum_iv h hl t (by omega)
    have h3 := h t (by omega)
    have h4 : (sumT xs (t + 1)).natAbs ≤ (t + 1) * 68719476736 := by unfold sumT; omega
    refine ⟨?_, h4⟩
    unfold fsum at h1 ⊢
    rw [fsumF_take _ (by simp; omega), List.getElem_map, ← gi_getE (by omega)]
    exact h1.add (fi_iv (by omega)) (Sm.of (by show (sumT xs t + gi xs t).natAbs < _; unfold sumT at h4; omega))
theorem mean_iv {xs : List Int} (h : ∀ t, t < xs.length → (gi xs t).natAbs < 68719476736) (h1 : 1 ≤ xs.length) (hl : xs.length ≤ 64) {Q : Int} (hQ : sumT xs xs.length = Q * xs.length) : IV (fmean (xs.map fi)) Q := by
  unfold fmean
  rw [List.length_map, if_pos (fit_ok (by omega) (by omega))]
  obtain ⟨k1, k2⟩ := sum_iv h hl xs.length (Nat.le_refl _)
  rw [List.take_of_length_le (by simp)] at k1
  exact mean_exact k1 (fcnt_iv (by omega)) (by omega) (by omega) (Sm.of (by omega)) hQ
theorem gi_rep {n t : Nat} {D : Int} (h : t < n) : gi (List.replicate n D) t = D := by rw [gi_getE (by simpa using h)]; simp
theorem sum_rep {n : Nat} {D : Int} : ∀ t, t ≤ n → sumT (List.replicate n D) t = D * t
  | 0, _ => by simp [sumT]
  | t + 1, h => by
    unfold sumT
    rw [sum_rep t (by omega), gi_rep (by omega), show ((t + 1 : Nat) : Int) = (t : Int) + 1 from rfl, Int.mul_add, Int.mul_one]
set_option maxRecDepth 100000 in
set_option maxHeartbeats 2000000 in
theorem walk_TopMean (A : Option Addr) (n c : Nat) (xs : List Int) (dist : Int) (w : World) (rd : RdV w A n c (ivs xs)) (_h1 : (Lit.int .i64 dist).wf = true) :
    Calls Try.prog 4 #[.slice A n c, .int .i64 dist] w fun e w' => e = .returned (.bool true) ∧ Below w.heap.size w w' := by
  have hl : xs.length = n := by have := rd.len; rwa [ivs_len] at this
  have hmx := rd.max
  go_enter Try.func4, Try.ntmps4
  by_cases h3 : n = 0
  · have t2 : ((n : Int) == 0) = true := by simp; omega
    have H := Lib.hid h3
    clear hl h3
    go_wp2_with (go_at_call 15; refine (alive8_any _).mono ?_; rintro e w1 ⟨rfl, hb1⟩)
    go_ret
    exact ⟨rfl, hb1⟩
  have t3 : ((n : Int) == 0) = false := by simp; omega
  by_cases h1 : (64 : Int) < (n : Int)
  · clear h3
    go_wp2_with (go_at_call 15; refine (alive8_any _).mono ?_; rintro e w1 ⟨rfl, hb1⟩)
    go_ret
    exact ⟨rfl, hb1⟩
  have t1 := decide_eq_false h1
  have hn : n ≤ 64 := by omega
  have hn1 : 1 ≤ n := by omega
  obtain ⟨D, hD⟩ : ∃ D, smN dist = D := ⟨_, rfl⟩
  have hSm := fun w => some_any w dist
  rw [hD] at hSm
  obtain ⟨D0, D1⟩ := smN_bd dist
  rw [hD] at D0 D1
  have HSM := Lib.hid hSm
  obtain ⟨ys, has⟩ : ∃ ys, xs.map nrN = ys := ⟨_, rfl⟩
  have hla : ys.length = n := by rw [← has, List.length_map, hl]
  have hga : ∀ t, t < n → gi ys t = nrN (gi xs t) := fun t ht => by
    rw [gi_getE (by omega), gi_getE (by omega)]; subst has; rw [List.getElem_map]
  have hab : ∀ t, t < n → (gi ys t).natAbs < 68719476736 := fun t ht => by
    rw [hga t ht]; have := nrN_bd (gi xs t); omega
  have hsum := fun t (ht : t ≤ n) => (sum_iv (xs := ys) (fun t ht => hab t (by omega)) (by omega) t (by omega)).2
  have HAB := Lib.hid hab
  have HGA := Lib.hid hga
  have HSUM := Lib.hid hsum
  have HLA := Lib.hid hla
  have HRD := Lib.hid rd
  clear hSm hD has hga hab hsum h1 h3 hla rd
  obtain ⟨i1', hi1, hz1, hz1', hz1''⟩ := info_parts info_c
  obtain ⟨i2', hi2, hz2, hz2', hz2''⟩ := info_parts info_i
  go_wp2_with fail
  go_loopw [5, 6, 7, 8, 9] (fun u v x s i wr => ∃ (t : Nat) (A1 : Option Addr) (c1 : Nat) (A2 : Option Addr) (c2 : Nat) (A3 : Option Addr) (c3 : Nat), t ≤ n ∧ i = .int .i64 (t : Int) ∧ u = .slice A1 t c1 ∧ v = .slice A2 t c2 ∧ x = .slice A3 t c3 ∧ s = .int .i64 (sumT ys t) ∧
    OwnV 47 wr w.heap.size A1 t c1 (cvs ((ys.map fun x => (fi x, fi D)).take t)) ∧ OwnV 2 wr w.heap.size A2 t c2 (ivs (ys.take t)) ∧ OwnV 2 wr w.heap.size A3 t c3 (ivs (List.replicate t D)) ∧ Apt A1 A2 ∧ Apt A1 A3 ∧ Apt A2 A3 ∧ Below w.heap.size w wr) (fun _ _ _ _ i _ => n - (intOf i).toNat)
  case atStart => exact ⟨0, none, 0, none, 0, none, 0, Nat.zero_le _, rfl, rfl, rfl, rfl, rfl, OwnV.nil _ _ _, OwnV.nil _ _ _, OwnV.nil _ _ _, Apt.none _, Apt.none _, Apt.none _, Below.refl _ _⟩
  case round =>
    obtain ⟨t, A1, k1, A2, k2, A3, k3, ht, rfl, rfl, rfl, rfl, rfl, o1, o2, o3, p12, p13, p23, hbel⟩ := hrel
    have hsr := hbel.size
    by_cases hlt : t < n
    · obtain ⟨ad, rfl, hab, hac⟩ := HRD.out.form (by omega)
      have cx := (hbel.cell (p := ad.add t) (adlt hab t)).trans (hac t _ (gi_get (by omega)))
      have HG := Lib.hid (HGA.out t hlt)
      have hx := nrN_bd (gi xs t)
      have hlen := HLA.out
      have bs := HSUM.out t (by omega)
      have N1 := Lib.hid (show cvs ((ys.map fun x => (fi x, fi D)).take t) ++ [.complex .f64 (fi (gi ys t)) (fi D)] = cvs ((ys.map fun x => (fi x, fi D)).take (t + 1)) by rw [← cvs_take _ _ (by rw [List.length_map]; omega), List.getElem_map, gi_getE (by omega)])
      have N2 := Lib.hid (ivs_take ys t (by omega))
      have N3 := Lib.hid (show ivs (List.replicate t D) ++ [.int .i64 D] = ivs (List.replicate (t + 1) D) by unfold ivs; rw [List.replicate_succ', List.map_append]; rfl)
      have N4 := Lib.hid (show sumT ys t + gi ys t = sumT ys (t + 1) from rfl)
      rw [HG.out] at N1 N2 N4
      have HNR := Lib.hid (fun w => nr_any w (gi xs t))
      generalize gi xs t = x0 at cx HNR N1 N2 N4 hx
      generalize nrN x0 = x at HNR N1 N2 N4 hx
      have HPT := Lib.hid (fun w => pointV w x D)
      have a1 : (t : Int) < (n : Int) := by omega
      have a0 : (0 : Int) ≤ (t : Int) := by omega
      have i1 : IntKind.i64.wrap ((t : Int) + 1) = (t : Int) + 1 := IntWalk.i64_in _ (by omega)
      have i2 : IntKind.i64.wrap (sumT ys t + x) = sumT ys t + x := IntWalk.i64_in _ (by omega)
      have HBEL := Lib.hid hbel
      clear hac hab HG hlen
      go_upto_region 10 with ((with_reducible refine (HNR.out _).mono ?_); rintro e w1 ⟨rfl, rfl⟩)
      refine wp_region_lit ?_
      iterate 3 (refine wpList_plain rfl (fun K hK => ?_); go_simp; refine hK _ _ ?_; clear hK K)
      have hn1 := (Below.refl wr.heap.size wr).alloc (Nat.le_refl _) (.cells #[.int .i64 x] 2)
      have hr1 := RdV.one (Bk.new wr 2 #[.int .i64 x])
      replace o1 := o1.below hn1
      replace o2 := o2.below hn1
      replace o3 := o3.below hn1
      have hb3 := HBEL.out.trans (hn1.mono (by omega))
      generalize wr.alloc (.cells #[.int .i64 x] 2) = w3 at hr1 hn1 o1 o2 o3 hb3 ⊢
      have hs3 := hb3.size
      clear cx
      go_wp2_with (at_builtin; refine wpList_append_rdv _ rfl (.tmp 35) (.tmp 37) _ rfl w.heap.size 2 i2' (.int .i64 0) 8 Try.underlying44 hi2 hz2 hz2' hz2'' rfl A2 t k2 (ivs (ys.take t)) rfl o2 _ _ _ _ rfl (by omega) hr1 (by simp [Value.oneCell']) (by unfold maxLen; omega) (by omega) (by omega) (by omega) ?_)
      intro B2 l2 w4 o2' hb4 hsz4 hk4 hob4
      rw [N2.out] at o2'
      rw [obk_eq, obk_eq] at hob4
      have q23 := p23.left o3 hob4
      have q21 := p12.symm.left o1 hob4
      replace o1 := o1.keep p12.symm hk4
      replace o3 := o3.keep p23 hk4
      replace hb4 := hb3.trans hb4
      have hs4 := hb4.size
      clear hk4 hob4 hb3 hr1 hn1 o2 hbel
      -- the distances
      go_upto_region 11 with (fail)
      refine wp_region_lit ?_
      iterate 2 (refine wpList_plain rfl (fun K hK => ?_); go_simp; refine hK _ _ ?_; clear hK K)
      (refine wpList_plain rfl (fun K hK => ?_); go_simp; refine (HSM.out w4).mono ?_; rintro e w5 ⟨rfl, rfl⟩; refine hK _ _ ?_; clear hK K)
      (refine wpList_plain rfl (fun K hK => ?_); go_simp; refine hK _ _ ?_; clear hK K)
      have hn1 := (Below.refl w4.heap.size w4).alloc (Nat.le_refl _) (.cells #[.int .i64 D] 2)
      have hr1 := RdV.one (Bk.new w4 2 #[.int .i64 D])
      replace o1 := o1.below hn1
      replace o2' := o2'.below hn1
      replace o3 := o3.below hn1
      have hb5 := hb4.trans (hn1.mono (by omega))
      generalize w4.alloc (.cells #[.int .i64 D] 2) = w5 at hr1 hn1 o1 o2' o3 hb5 ⊢
      have hs5 := hb5.size
      go_wp2_with (at_builtin; refine wpList_append_rdv _ rfl (.tmp 39) (.tmp 42) _ rfl w.heap.size 2 i2' (.int .i64 0) 8 Try.underlying44 hi2 hz2 hz2' hz2'' rfl A3 t k3 (ivs (List.replicate t D)) rfl o3 _ _ _ _ rfl (by omega) hr1 (by simp [Value.oneCell']) (by unfold maxLen; omega) (by omega) (by omega) (by omega) ?_)
      intro B3 l3 w6 o3' hb6 hsz6 hk6 hob6
      rw [N3.out] at o3'
      rw [obk_eq, obk_eq] at hob6
      have q31 := p13.symm.left o1 hob6
      have q32 := q23.symm.left o2' hob6
      replace o1 := o1.keep p13.symm hk6
      replace o2' := o2'.keep q23.symm hk6
      replace hb6 := hb5.trans hb6
      have hs6 := hb6.size
      clear hk6 hob6 hb5 hr1 hn1 o3 hb4
      -- the points
      go_upto_region 12 with (fail)
      refine wp_region_lit ?_
      iterate 3 (refine wpList_plain rfl (fun K hK => ?_); go_simp; refine hK _ _ ?_; clear hK K)
      (refine wpList_plain rfl (fun K hK => ?_); go_simp; refine (HSM.out w6).mono ?_; rintro e w7 ⟨rfl, rfl⟩; refine hK _ _ ?_; clear hK K)
      (refine wpList_plain rfl (fun K hK => ?_); go_simp; refine (HPT.out w6).mono ?_; rintro e w7 ⟨rfl, rfl⟩; refine hK _ _ ?_; clear hK K)
      (refine wpList_plain rfl (fun K hK => ?_); go_simp; refine hK _ _ ?_; clear hK K)
      have hn1 := (Below.refl w6.heap.size w6).alloc (Nat.le_refl _) (.cells #[.complex .f64 (fi x) (fi D)] 47)
      have hr1 := RdV.one (Bk.new w6 47 #[.complex .f64 (fi x) (fi D)])
      replace o1 := o1.below hn1
      replace o2' := o2'.below hn1
      replace o3' := o3'.below hn1
      have hb7 := hb6.trans (hn1.mono (by omega))
      generalize w6.alloc (.cells #[.complex .f64 (fi x) (fi D)] 47) = w7 at hr1 hn1 o1 o2' o3' hb7 ⊢
      have hs7 := hb7.size
      go_wp2_with (at_builtin; refine wpList_append_rdv _ rfl (.tmp 44) (.tmp 49) _ rfl w.heap.size 47 i1' (.complex .f64 0 0) 16 Try.underlying45 hi1 hz1 hz1' hz1'' rfl A1 t k1 (cvs ((ys.map fun x => (fi x, fi D)).take t)) rfl o1 _ _ _ _ rfl (by omega) hr1 (by simp [Value.oneCell']) (by unfold maxLen; omega) (by omega) (by omega) (by omega) ?_)
      intro B1 l1 w8 o1' hb8 hsz8 hk8 hob8
      rw [N1.out] at o1'
      rw [obk_eq, obk_eq] at hob8
      have q12 := q21.symm.left o2' hob8
      have q13 := q31.symm.left o3' hob8
      replace o2' := o2'.keep q21.symm hk8
      replace o3' := o3'.keep q31.symm hk8
      have HF := Lib.hid (And.intro o1' (And.intro o2' (And.intro o3' (And.intro q12 (And.intro q13 (And.intro q32.symm (hb7.trans hb8)))))))
      clear hk8 hob8 hb7 hb8 hr1 hn1 o1 o1' o2' o3' q12 q13 q21 q31 q32 q23 hb6 p12 p13 p23
      go_wp2_with fail
      go_roundw
      case rel =>
        obtain ⟨f1, f2, f3, f4, f5, f6, f7⟩ := HF.out
        exact ⟨t + 1, B1, l1, B2, l2, B3, l3, by omega, by go_num, rfl, rfl, rfl, by rw [← N4.out], f1, f2, f3, f4, f5, f6, f7⟩
      case measure => simp [intOf]; omega
    · obtain rfl : t = n := by omega
      have hlen := HLA.out
      rw [List.take_of_length_le (by rw [List.length_map]; omega)] at o1
      rw [List.take_of_length_le (by omega)] at o2
      have HBEL := Lib.hid hbel
      have hr1 := o1.rd
      have hr2 := o2.rd
      have hr3 := o3.rd
      have bS := HSUM.out t (Nat.le_refl _)
      have ef : fitN t = 0 := fit_ok (by omega) (by omega)
      have hfar : ys.any farB = false := by
        rw [List.any_eq_false]
        intro x hx
        obtain ⟨j, hj, rfl⟩ := List.mem_iff_getElem.1 hx
        have := HAB.out j (by omega)
        rw [gi_getE hj] at this
        unfold farB
        simp; omega
      have HCM := Lib.hid (fun (Q : Int) (hQ : sumT ys t = Q * t) => combine_any (D := D) (Q := Q) wr hr2 hr3 (by omega) (by omega) hfar D0 (by omega) (fun j hj => gi_rep hj) hQ)
      have hM := fun (w' : World) (h : Below wr.heap.size wr w') => mean_any w' (hr1.below h)
      rw [List.map_map, List.map_map, show (Prod.fst ∘ fun x => (fi x, fi D)) = fi from rfl, show (Prod.snd ∘ fun x : Int => (fi x, fi D)) = fun _ => fi D from rfl, ef] at hM
      have HM := Lib.hid hM
      have HI1 := Lib.hid (fun (Q : Int) (hQ : sumT ys t = Q * t) => mean_iv (xs := ys) (fun j hj => HAB.out j (by omega)) (by omega) (by omega) (Q := Q) (by rw [hlen]; exact hQ))
      have HI2 := Lib.hid (show IV (fmean (ys.map fun _ => fi D)) D by
        have e : (ys.map fun _ => fi D) = (List.replicate t D).map fi := by rw [List.map_replicate, List.map_const', hlen]
        rw [e]
        exact mean_iv (fun j hj => by rw [gi_rep (by simpa using hj)]; omega) (by simp; omega) (by simp; omega) (by rw [List.length_replicate]; exact sum_rep t (Nat.le_refl _)))
      have t0 : ¬ (t : Int) = 0 := by omega
      have tz : ¬ t = 0 := by omega
      clear hM hr1 hr2 hr3 o1 o2 o3 p12 p13 p23 hbel ef hfar hlen HAB HGA HSUM HRD HLA
      generalize sumT ys t = S at HCM HI1 bS ⊢
      by_cases hx : Int.tmod S (t : Int) = 0
      · have tx : (Int.tmod S (t : Int) != 0) = false := by simpa using hx
        have hq := tdiv_mul hx
        have bq1 : (Int.tdiv S (t : Int)).natAbs ≤ S.natAbs := by rw [Int.natAbs_tdiv]; exact Nat.div_le_self _ _
        generalize Int.tdiv S (t : Int) = Q at hq bq1
        have HCQ := Lib.hid (HCM.out Q hq)
        have IX := HI1.out Q hq
        have IY := HI2.out
        have IQ : IV (mk (fi Q)) Q := IV.mk_fi (Sm.of (n := Q) (by omega))
        have ID : IV (mk (fi D)) D := IV.mk_fi (Sm.of (n := D) (by omega))
        have HSa := Lib.hid (fun (w : World) (u v : Nat) (eu : mk u = fmean (ys.map fi)) (ev : mk v = fmean (ys.map fun _ => fi D)) => show Calls Try.prog 21 #[.complex .f64 u v, .complex .f64 (fi Q) (fi D)] w fun e w' => e = .returned (.bool true) ∧ w = w' by
          have h := same_any w eu ev (rfl : mk (fi Q) = _) (rfl : mk (fi D) = _)
          rwa [IX.eq IQ, IY.eq ID] at h)
        have HPT := Lib.hid (fun w => pointV w Q D)
        clear IX IY IQ ID HCM HI1 HI2 hq bq1 bS hx
        go_upto_region 18 with (first
          | ((with_reducible refine HCQ.out.mono ?_); rintro e w1 ⟨rfl, hb1⟩; have HB1 := Lib.hid hb1; clear hb1)
          | (go_at_call 20; (with_reducible refine (HM.out _ HB1.out).mono ?_); rintro e w2 ⟨u, v, rfl, lu, lv, eu, ev, hb2⟩; have HB2 := Lib.hid ((HBEL.out.trans (HB1.out.mono HBEL.out.size)).trans (hb2.mono (HBEL.out.trans (HB1.out.mono HBEL.out.size)).size)); have HS2 := Lib.hid (fun w => HSa.out w u v eu ev); clear hb2 lu lv eu ev))
        go_wp2_with (first
          | (go_at_call 15; refine (alive8_any _).mono ?_; rintro e w3 ⟨rfl, hb3⟩; have HB3 := Lib.hid (HB2.out.trans (hb3.mono HB2.out.size)); clear hb3)
          | (go_at_call 17; (with_reducible refine (HSM.out _).mono ?_); rintro e w4 ⟨rfl, rfl⟩)
          | (go_at_call 18; (with_reducible refine (HPT.out _).mono ?_); rintro e w4 ⟨rfl, rfl⟩)
          | (go_at_call 21; (with_reducible refine (HS2.out _).mono ?_); rintro e w4 ⟨rfl, rfl⟩))
        go_ret
        exact ⟨rfl, HB3.out⟩
      · have tx : (Int.tmod S (t : Int) != 0) = true := by simpa using hx
        clear hx HCM HI1 HI2 bS
        go_wp2_with (go_at_call 15; refine (alive8_any _).mono ?_; rintro e w6 ⟨rfl, b6⟩)
        go_ret
        exact ⟨rfl, HBEL.out.trans (b6.mono HBEL.out.size)⟩
end Go.Proofs.Yteemglgbhdpodaa
