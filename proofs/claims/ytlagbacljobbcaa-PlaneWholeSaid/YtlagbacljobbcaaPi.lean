/- Layer 13: points with whole parts have the mean that whole numbers tell, and a spread of 0 just if they are all the same: the walk. -/
import Derived.Test.YtlagbacljobbcaaPh
namespace Go.Proofs.Ytlagbacljobbcaa
set_option linter.unusedSimpArgs false
set_option linter.unusedVariables false
open Go.RowKit
attribute [local go_sem] toldUpon_value toldUpon_skip toldUpon_enter call_bits call_frombits

theorem tdiv_mul {a n : Int} (h : Int.tmod a n = 0) : a = Int.tdiv a n * n := by
  have := Int.tdiv_mul_add_tmod a n
  omega
set_option maxRecDepth 100000 in
set_option maxHeartbeats 2000000 in
theorem walk_PlaneWhole (A0 : Option Addr) (n0 c0 : Nat) (xs : List Int) (A1 : Option Addr) (n1 c1 : Nat) (ys : List Int) (W : World) (rd0 : RdV W A0 n0 c0 (ivs xs)) (rd1 : RdV W A1 n1 c1 (ivs ys)) :
    Calls Try.prog 6 #[.slice A0 n0 c0, .slice A1 n1 c1] W fun e w' => e = .returned (.bool true) ∧ Below W.heap.size W w' := by
  have l0 : xs.length = n0 := by have := rd0.len; rwa [ivs_len] at this
  have l1 : ys.length = n1 := by have := rd1.len; rwa [ivs_len] at this
  have m0 := rd0.max
  have m1 := rd1.max
  go_enter Try.func6, Try.ntmps6
  by_cases h1 : (100 : Int) < (n0 : Int)
  · skip
    go_wp2_with (go_at_call 9; refine (palive_any _).mono ?_; rintro e w1 ⟨rfl, hb1⟩)
    go_ret
    exact ⟨rfl, hb1⟩
  by_cases h2 : n0 ≠ n1
  · have t2 : ((n0 : Int) == (n1 : Int)) = false := by simp; omega
    have t3 : ((n0 : Int) != (n1 : Int)) = true := by simp; omega
    clear l0 l1 h2
    go_wp2_with (go_at_call 9; refine (palive_any _).mono ?_; rintro e w1 ⟨rfl, hb1⟩)
    go_ret
    exact ⟨rfl, hb1⟩
  have h2 : n0 = n1 := by omega
  by_cases h3 : n0 = 0
  · have t2 : ((n0 : Int) == 0) = true := by simp; omega
    have H := Lib.hid h3
    clear l0 l1 h3
    subst h2
    go_wp2_with (go_at_call 9; refine (palive_any _).mono ?_; rintro e w1 ⟨rfl, hb1⟩)
    go_ret
    exact ⟨rfl, hb1⟩
  subst h2
  have t1 := decide_eq_false h1
  have t3 : ((n0 : Int) == 0) = false := by simp; omega
  have hn : n0 ≤ 100 := by omega
  have hn1 : 1 ≤ n0 := by omega
  have hxy : xs.length = ys.length := by omega
  have hzl : (pz xs ys).length = n0 := by rw [pz_len hxy]; exact l0
  have HSP := Lib.hid (And.intro (spread_alike hxy (by omega) (by omega)) (spread_on hxy (by omega) (by omega)).sign)
  have HPZ := fun k (hk : k < n0) => Lib.hid (pz_at hxy (show k < xs.length by omega))
  have HM1 := Lib.hid (fun (Q : Int) (h : sx xs n0 = Q * n0) => fmean_iv xs (by omega) (by omega) (Q := Q) (by rw [l0]; exact h))
  have HM2 := Lib.hid (fun (Q : Int) (h : sx ys n0 = Q * n0) => fmean_iv ys (by omega) (by omega) (Q := Q) (by rw [l1]; exact h))
  have HP1 := Lib.hid (pz_fst hxy)
  have HP2 := Lib.hid (pz_snd hxy)
  rw [l0] at HSP
  obtain ⟨zs, hzs⟩ : ∃ z, pz xs ys = z := ⟨_, rfl⟩
  have HZT : ∀ t (h : t < n0), Hid (cvs (zs.take t) ++ [.complex .f64 (fi (nr (gi xs t))) (fi (nr (gi ys t)))] = cvs (zs.take (t + 1))) := fun t h => Lib.hid (by
    subst hzs
    rw [← cvs_take _ _ (by omega), (HPZ t h).out])
  rw [hzs] at hzl HSP HP1 HP2
  clear hzs HPZ hxy h1 h3
  obtain ⟨i1', hi1, hz1, hz1', hz1''⟩ := info_parts info_c
  go_wp2_with fail
  go_loopw [5, 6, 7, 8, 9] (fun u x y s i wr => ∃ (t : Nat) (B : Option Addr) (k : Nat), t ≤ n0 ∧ i = .int .i64 (t : Int) ∧ u = .slice B t k ∧ x = .int .i64 (sx xs t) ∧ y = .int .i64 (sx ys t) ∧ s = .bool (alikeB xs ys t) ∧ OwnV 28 wr W.heap.size B t k (cvs (zs.take t)) ∧ Below W.heap.size W wr) (fun _ _ _ _ i _ => n0 - (intOf i).toNat)
  case atStart => exact ⟨0, none, 0, Nat.zero_le _, rfl, rfl, rfl, rfl, rfl, OwnV.nil _ _ _, Below.refl _ _⟩
  case round =>
    obtain ⟨t, B, k, ht, rfl, rfl, rfl, rfl, rfl, o1, hbel⟩ := hrel
    have hsr := hbel.size
    by_cases hlt : t < n0
    · obtain ⟨ad, rfl, hab, hac⟩ := rd0.form (by omega)
      obtain ⟨ae, rfl, hbb, hbc⟩ := rd1.form (by omega)
      have c1' := hac t _ (gi_get (by omega))
      have c2' := hbc t _ (gi_get (by omega))
      have c3' := hac 0 _ (gi_get (by omega))
      have c4' := hbc 0 _ (gi_get (by omega))
      rw [show ad.add 0 = ad by simp [Addr.add]] at c3'
      rw [show ae.add 0 = ae by simp [Addr.add]] at c4'
      have HZ := HZT t hlt
      have HA := Lib.hid (show alikeB xs ys (t + 1) = (alikeB xs ys t && nr (gi xs t) == nr (gi xs 0) && nr (gi ys t) == nr (gi ys 0)) from rfl)
      have HX := Lib.hid (show sx xs t + nr (gi xs t) = sx xs (t + 1) from rfl)
      have HY := Lib.hid (show sx ys t + nr (gi ys t) = sx ys (t + 1) from rfl)
      have bx := sx_small xs t
      have bY := sx_small ys t
      have nx := nr_small (gi xs t)
      have ny := nr_small (gi ys t)
      obtain ⟨x, hx⟩ : ∃ x, nr (gi xs t) = x := ⟨_, rfl⟩
      obtain ⟨yy, hy⟩ : ∃ x, nr (gi ys t) = x := ⟨_, rfl⟩
      obtain ⟨x9, hx9⟩ : ∃ x, nr (gi xs 0) = x := ⟨_, rfl⟩
      obtain ⟨y9, hy9⟩ : ∃ x, nr (gi ys 0) = x := ⟨_, rfl⟩
      have M1 := fun w => nearV w hx
      have M2 := fun w => nearV w hy
      have M3 := fun w => nearV w hx9
      have M4 := fun w => nearV w hy9
      rw [hx, hy] at HZ
      rw [hx, hy, hx9, hy9] at HA
      rw [hx] at HX nx
      rw [hy] at HY ny
      clear hx hy hx9 hy9
      generalize gi xs t = x0 at c1' M1
      generalize gi ys t = y0 at c2' M2
      generalize gi xs 0 = x8 at c3' M3
      generalize gi ys 0 = y8 at c4' M4
      generalize sx xs t = sX at HX bx ⊢
      generalize sx ys t = sY at HY bY ⊢
      generalize alikeB xs ys t = al at HA ⊢
      have Q1 := fun w => pointV w x yy
      have C1 : ∀ w', Below wr.heap.size wr w' → w'.cell? (ad.add t) = some (.int .i64 x0) := fun w' h => ((hbel.trans (h.mono hsr)).cell (p := ad.add t) (adlt hab t)).trans c1'
      have C2 : ∀ w', Below wr.heap.size wr w' → w'.cell? (ae.add t) = some (.int .i64 y0) := fun w' h => ((hbel.trans (h.mono hsr)).cell (p := ae.add t) (adlt hbb t)).trans c2'
      have a1 : (t : Int) < (n0 : Int) := by omega
      have a0 : (0 : Int) ≤ (t : Int) := by omega
      have O1 := Lib.hid o1
      have HBEL := Lib.hid hbel
      have i1 : IntKind.i64.wrap ((t : Int) + 1) = (t : Int) + 1 := IntWalk.i64_in _ (by omega)
      have k3 := fun w' (h : Below W.heap.size W w') => (h.cell (p := ad) (by exact hab)).trans c3'
      have k4 := fun w' (h : Below W.heap.size W w') => (h.cell (p := ae) (by exact hbb)).trans c4'
      have KB := Lib.hid (And.intro hab hbb)
      clear hac hbc c1' c2' c3' c4' o1 hbel HZT hzl rd0 rd1 l0 l1 HSP HM1 HM2 HP1 HP2
      go_upto_region 9 with (fail)
      (refine region_told _ (by kernel_rfl) (by kernel_rfl) (by simp only [putAll, Act.put, List.setIfInBounds_toArray, List.set_cons_zero, List.set_cons_succ, Nat.reduceAdd]; rfl) ?_)
      repeat (refine told_step (fun v _ => v = _) (Stays.eq _) (by intro y w' hw' hd; simp only [depsOf, updG, Region.binds, Nat.reduceAdd, Nat.reduceEqDiff, if_false, if_true, and_true, true_and, forall_const, Array.toList, GTrue] at hd; (try go_split_ands); unfold toldAt; go_simp; exact ⟨Below.refl _ _, rfl⟩) ?_)
      (refine told_step (fun v _ => v = .int .i64 x) (Stays.eq _) (by intro y w' hw' hd; simp only [depsOf, updG, Region.binds, Nat.reduceAdd, Nat.reduceEqDiff, if_false, if_true, and_true, true_and, forall_const, Array.toList, GTrue] at hd; (try go_split_ands); unfold toldAt; go_simp; exact ⟨Below.refl _ _, quietV (M1 w')⟩) ?_)
      repeat (refine told_step (fun v _ => v = _) (Stays.eq _) (by intro y w' hw' hd; simp only [depsOf, updG, Region.binds, Nat.reduceAdd, Nat.reduceEqDiff, if_false, if_true, and_true, true_and, forall_const, Array.toList, GTrue] at hd; (try go_split_ands); unfold toldAt; go_simp; exact ⟨Below.refl _ _, rfl⟩) ?_)
      (refine told_step (fun v _ => v = .int .i64 yy) (Stays.eq _) (by intro y w' hw' hd; simp only [depsOf, updG, Region.binds, Nat.reduceAdd, Nat.reduceEqDiff, if_false, if_true, and_true, true_and, forall_const, Array.toList, GTrue] at hd; (try go_split_ands); unfold toldAt; go_simp; exact ⟨Below.refl _ _, quietV (M2 w')⟩) ?_)
      repeat (refine told_step (fun v _ => v = _) (Stays.eq _) (by intro y w' hw' hd; simp only [depsOf, updG, Region.binds, Nat.reduceAdd, Nat.reduceEqDiff, if_false, if_true, and_true, true_and, forall_const, Array.toList, GTrue] at hd; (try go_split_ands); unfold toldAt; go_simp; exact ⟨Below.refl _ _, rfl⟩) ?_)
      (refine told_nil ?_; intro z w2 hw2 hd)
      have e10 : z 10 = .int .i64 x := hd 10 (by decide)
      have e11 : z 11 = .int .i64 yy := hd 11 (by decide)
      rw [e10, e11]
      clear hd e10 e11 C1 C2 M1 M2
      have o1 := O1.out.below hw2
      have hb2 := HBEL.out.trans (hw2.mono hsr)
      have hs2 := hb2.size
      go_upto_region 10 with (fail)
      refine wp_region_lit ?_
      iterate 3 (refine wpList_plain rfl (fun K hK => ?_); go_simp; refine hK _ _ ?_; clear hK K)
      (refine wpList_plain rfl (fun K hK => ?_); go_simp; refine (Q1 w2).mono ?_; rintro e w3 ⟨rfl, rfl⟩; refine hK _ _ ?_; clear hK K)
      (refine wpList_plain rfl (fun K hK => ?_); go_simp; refine hK _ _ ?_; clear hK K)
      have hn1 := (Below.refl w2.heap.size w2).alloc (Nat.le_refl _) (.cells #[.complex .f64 (fi x) (fi yy)] 28)
      have hr1 := RdV.one (Bk.new w2 28 #[.complex .f64 (fi x) (fi yy)])
      replace o1 := o1.below hn1
      have hb3 := hb2.trans (hn1.mono (by omega))
      have hw3 := hw2.trans (hn1.mono hw2.size)
      generalize w2.alloc (.cells #[.complex .f64 (fi x) (fi yy)] 28) = w3 at hr1 hn1 o1 hb3 hw3 ⊢
      have hs3 := hb3.size
      go_wp2_with (at_builtin; refine wpList_append_rdv _ rfl (.tmp 49) (.tmp 53) _ rfl W.heap.size 28 i1' (.complex .f64 0 0) 16 Try.underlying24 hi1 hz1 hz1' hz1'' rfl B t k (cvs (zs.take t)) rfl o1 _ _ _ _ rfl (by omega) hr1 (by simp [Value.oneCell']) (by unfold maxLen; omega) (by omega) (by omega) (by omega) ?_)
      intro B1 l1 w4 o1' hb4 hsz4 hk4 hob4
      rw [HZ.out] at o1'
      have hb5 := hb3.trans hb4
      have q3 := k3 w4 hb5
      have q4 := k4 w4 hb5
      have HO := Lib.hid (And.intro o1' hb5)
      clear o1 o1' hb2 hb3 hb4 hb5 hk4 hob4 hr1 HZ O1 HBEL hw2 hw3 hn1 k3 k4 Q1 hs2 hs3 hsz4
      have i2 : IntKind.i64.wrap (sX + x) = sX + x := IntWalk.i64_in _ (by omega)
      have i3 : IntKind.i64.wrap (sY + yy) = sY + yy := IntWalk.i64_in _ (by omega)
      rcases al with _ | _
      · have HA2 := Lib.hid (show alikeB xs ys (t + 1) = false by rw [HA.out]; rfl)
        clear HA M3 M4
        go_wp2_with fail
        go_roundw
        case rel => exact ⟨t + 1, B1, l1, by omega, by go_num, rfl, by rw [← HX.out], by rw [← HY.out], by rw [HA2.out], HO.out⟩
        case measure => simp [intOf]; omega
      · by_cases hx : x = x9
        · subst hx
          by_cases hy : yy = y9
          · subst hy
            have HA2 := Lib.hid (show alikeB xs ys (t + 1) = true by rw [HA.out]; simp)
            clear HA
            go_wp2_with (first
              | (go_at_call 17; (with_reducible refine (M3 _).mono ?_); rintro e w5 ⟨rfl, rfl⟩)
              | (go_at_call 17; (with_reducible refine (M4 _).mono ?_); rintro e w5 ⟨rfl, rfl⟩))
            go_roundw
            case rel => exact ⟨t + 1, B1, l1, by omega, by go_num, rfl, by rw [← HX.out], by rw [← HY.out], by rw [HA2.out], HO.out⟩
            case measure => simp [intOf]; omega
          · have tq : (yy == y9) = false := by simpa using hy
            have HA2 := Lib.hid (show alikeB xs ys (t + 1) = false by rw [HA.out, tq]; simp)
            clear HA hy
            go_wp2_with (first
              | (go_at_call 17; (with_reducible refine (M3 _).mono ?_); rintro e w5 ⟨rfl, rfl⟩)
              | (go_at_call 17; (with_reducible refine (M4 _).mono ?_); rintro e w5 ⟨rfl, rfl⟩))
            go_roundw
            case rel => exact ⟨t + 1, B1, l1, by omega, by go_num, rfl, by rw [← HX.out], by rw [← HY.out], by rw [HA2.out], HO.out⟩
            case measure => simp [intOf]; omega
        · have tq : (x == x9) = false := by simpa using hx
          have HA2 := Lib.hid (show alikeB xs ys (t + 1) = false by rw [HA.out, tq]; simp)
          clear HA hx
          go_wp2_with (first
            | (go_at_call 17; (with_reducible refine (M3 _).mono ?_); rintro e w5 ⟨rfl, rfl⟩)
            | (go_at_call 17; (with_reducible refine (M4 _).mono ?_); rintro e w5 ⟨rfl, rfl⟩))
          go_roundw
          case rel => exact ⟨t + 1, B1, l1, by omega, by go_num, rfl, by rw [← HX.out], by rw [← HY.out], by rw [HA2.out], HO.out⟩
          case measure => simp [intOf]; omega
    · obtain rfl : t = n0 := by omega
      have e1 : zs.take t = zs := List.take_of_length_le (by omega)
      rw [e1] at o1
      have hr := o1.rd
      have HBEL := Lib.hid hbel
      have ef : fitN t = 0 := fit_ok (by omega) (by omega)
      have hM := mean_any wr hr
      have hS := fun (w : World) (h : Below wr.heap.size wr w) => spread_any w (hr.below h)
      rw [ef] at hM hS
      rw [HP1.out, HP2.out] at hM
      clear e1 ef o1 HZT hbel rd0 rd1 hr
      have bx := sx_small xs t
      have bY := sx_small ys t
      generalize hX : sx xs t = sX at bx HM1 ⊢
      generalize hY : sx ys t = sY at bY HM2 ⊢
      generalize alikeB xs ys t = al at HSP ⊢
      clear hX hY
      go_upto_region 15 with (go_at_call 13; refine hM.mono ?_; rintro e w1 ⟨u, v, rfl, lu, lv, eu, ev, bw1⟩)
      have hS1 := hS w1 bw1
      go_upto_region 16 with (go_at_call 25; refine hS1.mono ?_; rintro e w2 ⟨s, rfl, ls, es, bw2⟩)
      have o1 : (FloatKind.f64.format.order s 0 == some .lt) = false := by
        have := HSP.out.2
        rw [← es] at this
        unfold flt at this
        rw [ford_mk] at this
        exact this
      have o2 : (FloatKind.f64.format.order s 0 == some .eq) = al := by
        have := HSP.out.1
        rw [← es] at this
        unfold feq at this
        rw [ford_mk] at this
        exact this
      have HB := Lib.hid (HBEL.out.trans ((bw1.trans (bw2.mono bw1.size)).mono HBEL.out.size))
      have EU := Lib.hid eu
      have EV := Lib.hid ev
      clear hM hS hS1 eu ev es bw1 bw2 HBEL HSP HP1 HP2 lu lv ls
      have t0 : ¬ (t : Int) = 0 := by omega
      have tz : ¬ t = 0 := by omega
      by_cases hx : Int.tmod sX (t : Int) = 0
      · have tx : (Int.tmod sX (t : Int) != 0) = false := by simpa using hx
        have tx' : (Int.tmod sX (t : Int) == 0) = true := by simpa using hx
        by_cases hy : Int.tmod sY (t : Int) = 0
        · have ty : (Int.tmod sY (t : Int) != 0) = false := by simpa using hy
          have ty' : (Int.tmod sY (t : Int) == 0) = true := by simpa using hy
          have IX := HM1.out _ (tdiv_mul hx)
          have IY := HM2.out _ (tdiv_mul hy)
          have bq1 : (Int.tdiv sX (t : Int)).natAbs ≤ sX.natAbs := by rw [Int.natAbs_tdiv]; exact Nat.div_le_self _ _
          have bq2 : (Int.tdiv sY (t : Int)).natAbs ≤ sY.natAbs := by rw [Int.natAbs_tdiv]; exact Nat.div_le_self _ _
          obtain ⟨Q1, hQ1⟩ : ∃ q, Int.tdiv sX (t : Int) = q := ⟨_, rfl⟩
          obtain ⟨Q2, hQ2⟩ : ∃ q, Int.tdiv sY (t : Int) = q := ⟨_, rfl⟩
          rw [hQ1] at IX bq1
          rw [hQ2] at IY bq2
          have w1' : IntKind.i64.wrap Q1 = Q1 := IntWalk.i64_in _ (by omega)
          have w2' : IntKind.i64.wrap Q2 = Q2 := IntWalk.i64_in _ (by omega)
          have hSa : ∀ w, Calls Try.prog 19 #[.complex .f64 u v, .complex .f64 (fi Q1) (fi Q2)] w fun e w' => e = .returned (.bool true) ∧ w = w' := fun w => by
            have h := same_any w EU.out EV.out (rfl : mk (fi Q1) = _) (rfl : mk (fi Q2) = _)
            rwa [IX.eq (show IV (mk (fi Q1)) Q1 from IV.mk_fi (Sm.of (by omega))), IY.eq (show IV (mk (fi Q2)) Q2 from IV.mk_fi (Sm.of (by omega)))] at h
          have Q1p := fun w => pointV w Q1 Q2
          have HA := fun w => palive_any w
          clear IX IY HM1 HM2 bx bY bq1 bq2 hx hy EU EV
          go_upto_region 20 with (fail)
          have hs2 := HB.out.size
          (refine region_told _ (by kernel_rfl) (by kernel_rfl) (by simp only [putAll, Act.put, List.setIfInBounds_toArray, List.set_cons_zero, List.set_cons_succ, Nat.reduceAdd]; rfl) ?_)
          (refine told_step (fun v _ => v = _) (Stays.eq _) (by intro y w' hw' hd; simp only [depsOf, updG, Region.binds, Nat.reduceAdd, Nat.reduceEqDiff, if_false, if_true, and_true, true_and, forall_const, Array.toList, GTrue] at hd; (try go_split_ands); unfold toldAt; go_simp; refine ⟨Below.refl _ _, ?_⟩; exact HA w') ?_)
          repeat (refine told_step (fun v _ => v = _) (Stays.eq _) (by intro y w' hw' hd; simp only [depsOf, updG, Region.binds, Nat.reduceAdd, Nat.reduceEqDiff, if_false, if_true, and_true, true_and, forall_const, Array.toList, GTrue] at hd; (try go_split_ands); unfold toldAt; go_simp; exact ⟨Below.refl _ _, rfl⟩) ?_)
          (refine told_step (fun v _ => v = .complex .f64 (fi Q1) (fi Q2)) (Stays.eq _) (by intro y w' hw' hd; simp only [depsOf, updG, Region.binds, Nat.reduceAdd, Nat.reduceEqDiff, if_false, if_true, and_true, true_and, forall_const, Array.toList, GTrue] at hd; (try go_split_ands); unfold toldAt; go_simp; exact ⟨Below.refl _ _, quietV (Q1p w')⟩) ?_)
          (refine told_step (fun v _ => v = .bool true) (Stays.eq _) (by intro y w' hw' hd; simp only [depsOf, updG, Region.binds, Nat.reduceAdd, Nat.reduceEqDiff, if_false, if_true, and_true, true_and, forall_const, Array.toList, GTrue] at hd; (try go_split_ands); unfold toldAt; go_simp; exact ⟨Below.refl _ _, quietV (hSa w')⟩) ?_)
          repeat (refine told_step (fun v _ => v = _) (Stays.eq _) (by intro y w' hw' hd; simp only [depsOf, updG, Region.binds, Nat.reduceAdd, Nat.reduceEqDiff, if_false, if_true, and_true, true_and, forall_const, Array.toList, GTrue] at hd; (try go_split_ands); unfold toldAt; go_simp; exact ⟨Below.refl _ _, rfl⟩) ?_)
          (refine told_nil ?_; intro z w3 hw3 hd)
          have e18 : z 18 = .bool true := hd 18 (by decide)
          rw [e18]
          clear hd e18
          have HC := Lib.hid (HB.out.trans (hw3.mono hs2))
          clear hw3 HB
          go_wp2_with fail
          go_ret
          exact ⟨rfl, HC.out⟩
        · have ty : (Int.tmod sY (t : Int) != 0) = true := by simpa using hy
          have ty' : (Int.tmod sY (t : Int) == 0) = false := by simpa using hy
          clear HM1 HM2 bx bY hx hy EU EV
          go_wp2_with (go_at_call 9; refine (palive_any _).mono ?_; rintro e w6 ⟨rfl, b6⟩)
          go_ret
          exact ⟨rfl, HB.out.trans (b6.mono HB.out.size)⟩
      · have tx : (Int.tmod sX (t : Int) != 0) = true := by simpa using hx
        have tx' : (Int.tmod sX (t : Int) == 0) = false := by simpa using hx
        clear HM1 HM2 bx bY hx EU EV
        go_wp2_with (go_at_call 9; refine (palive_any _).mono ?_; rintro e w6 ⟨rfl, b6⟩)
        go_ret
        exact ⟨rfl, HB.out.trans (b6.mono HB.out.size)⟩
end Go.Proofs.Ytlagbacljobbcaa
