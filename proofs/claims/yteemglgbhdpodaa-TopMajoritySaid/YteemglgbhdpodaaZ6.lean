/- The majority is right: the walk. -/
import Derived.Test.YteemglgbhdpodaaZ5
import Derived.Test.YteemglgbhdpodaaBy
namespace Go.Proofs.Yteemglgbhdpodaa
set_option linter.unusedSimpArgs false
set_option linter.unusedVariables false
set_option maxRecDepth 100000
open Go.RowKit

theorem info_sp : (Try.prog.info? 72).map (fun i => (i.zero, i.size, i.bytes)) = some (some (.agg #[.int .i64 0, .int .i64 0, .int .i64 0]), 3, 24) := by kernel_rfl
theorem add_ok (w : World) {B g n : Nat} {R : List Smp} (s : Smp) (h : FB w g R n) (hB : B ≤ g) (hn : n < 1000000) (hm : mayB s = true) : Calls Try.prog 27 #[.pointer (some ⟨g, 0, none⟩), sv s] w fun e w' => e = .returned (.int .i64 0) ∧ FB w' g (R.set (n % 8) s) (n + 1) ∧ Below B w w' ∧ w.heap.size ≤ w'.heap.size := by
  have h1 := add_any (B := B) w s h hB hn
  simpa only [hm, if_true] using h1
set_option maxHeartbeats 8000000 in
theorem walk_TopMajority (t1 o0 : Int) (A2 : Option Addr) (n2 c2 : Nat) (ws : List Sp) (A3 : Option Addr) (n3 c3 : Nat) (ls : List Sp) (w : World) (q1 : (Lit.int .u64 t1).wf = true) (_ : (Lit.int .i64 o0).wf = true)
    (r2 : RdK spE 3 w A2 n2 c2 ws) (m2 : n2 ≤ 140737488351232) (r3 : RdK spE 3 w A3 n3 c3 ls) (m3 : n3 ≤ 140737488351232) :
    Calls Try.prog 6 #[.int .u64 t1, .int .i64 o0, .slice A2 n2 c2, .slice A3 n3 c3] w fun e w' => e = .returned (.bool true) ∧ Below w.heap.size w w' := by
  have HA := Lib.hid (fun w => alive8_any w)
  have iw : IntKind.i64.wrap ((n2 : Int) + (n3 : Int)) = (n2 : Int) + (n3 : Int) := IntWalk.i64_in _ (by omega)
  by_cases g1 : (64 : Int) < (n2 : Int) + (n3 : Int)
  · clear r2 r3
    go_enter Try.func6, Try.ntmps6
    go_wp2_with (go_at_call 15; refine (HA.out _).mono ?_; rintro e w1 ⟨rfl, hb⟩)
    go_ret
    exact ⟨rfl, hb⟩
  by_cases g2 : (n2 : Int) ≤ (n3 : Int)
  · clear r2 r3
    go_enter Try.func6, Try.ntmps6
    go_wp2_with (go_at_call 15; refine (HA.out _).mono ?_; rintro e w1 ⟨rfl, hb⟩)
    go_ret
    exact ⟨rfl, hb⟩
  obtain ⟨i1, hi1, hz1, hz1', hz1''⟩ := info_parts info_sp
  have l2 := r2.len
  have l3 := r3.len
  have R2 := Lib.hid r2
  have R3 := Lib.hid r3
  have HNR := Lib.hid (fun w => nr_any w o0)
  have hob := nrN_bd o0
  generalize nrN o0 = o at HNR hob
  have ht : 0 ≤ t1 ∧ t1 < 18446744073709551616 := u64_wf q1
  have HT := Lib.hid (And.intro ht hob)
  clear r2 r3 q1 ht hob
  go_enter Try.func6, Try.ntmps6
  go_upto_region 6 with ((with_reducible refine (HNR.out _).mono ?_); rintro e w1 ⟨rfl, rfl⟩)
  go_loopw [9, 10, 11] (fun v i _ wr => ∃ (t : Nat) (A1 : Option Addr) (k1 : Nat), t ≤ n3 ∧ v = .slice A1 t k1 ∧ i = .int .i64 (t : Int) ∧ OwnK spE 3 72 wr w.heap.size A1 t k1 (ls.take t) ∧ (∀ x ∈ ls.take t, badB x = false) ∧ Below w.heap.size w wr) (fun _ i _ _ => n3 - (intOf i).toNat)
  case atStart => exact ⟨0, none, 0, Nat.zero_le _, rfl, rfl, OwnK.nil _ _ _ _ _, by simp, Below.refl _ _⟩
  case round =>
    obtain ⟨t, A1, k1, hlt0, rfl, rfl, o1, hgd, hbel⟩ := hrel
    have hsr := hbel.size
    by_cases hlt : t < n3
    · obtain ⟨ad, he, hab, hac⟩ := sp_field R3.out hlt
      have htl : t < ls.length := by omega
      obtain ⟨c0, c1, c2'⟩ := hac wr hbel _ (List.getElem?_eq_getElem htl)
      have N1 := Lib.hid (show ls.take t ++ [ls[t]] = ls.take (t + 1) by rw [List.take_add_one, List.getElem?_eq_getElem htl]; rfl)
      obtain ⟨⟨x, y, z⟩, hx⟩ : ∃ q, ls[t] = q := ⟨_, rfl⟩
      rw [hx] at c0 c1 c2' N1
      have a1 : (t : Int) < (n3 : Int) := by omega
      have a0 : (0 : Int) ≤ (t : Int) := by omega
      have i1' : IntKind.i64.wrap ((t : Int) + 1) = (t : Int) + 1 := IntWalk.i64_in _ (by omega)
      have HBEL := Lib.hid hbel
      have HO1 := Lib.hid o1
      have HGD := Lib.hid hgd
      clear hac hx o1 hbel hgd
      by_cases b1 : y < x
      · subst he
        go_wp2_with (go_at_call 15; refine (HA.out _).mono ?_; rintro e w1 ⟨rfl, hb⟩)
        go_ret
        have hb1 := HBEL.out.alloc (by omega) (.cells #[.int .i64 x, .int .i64 y, .int .i64 z] 72)
        exact ⟨rfl, hb1.trans (hb.mono hb1.size)⟩
      by_cases b2 : z < y
      · subst he
        go_wp2_with (go_at_call 15; refine (HA.out _).mono ?_; rintro e w1 ⟨rfl, hb⟩)
        go_ret
        have hb1 := HBEL.out.alloc (by omega) (.cells #[.int .i64 x, .int .i64 y, .int .i64 z] 72)
        exact ⟨rfl, hb1.trans (hb.mono hb1.size)⟩
      have hng : badB (x, y, z) = false := by unfold badB; simp; omega
      have HNG := Lib.hid hng
      clear hng
      subst he
      go_upto_region 11 with (fail)
      refine wp_region_lit ?_
      iterate 3 (refine wpList_plain rfl (fun K hK => ?_); go_simp; refine hK _ _ ?_; clear hK K)
      have hn1 : Below wr.heap.size wr ((wr.alloc (.cells #[.int .i64 x, .int .i64 y, .int .i64 z] 72)).alloc (.cells #[.int .i64 x, .int .i64 y, .int .i64 z] 72)) := ((Below.refl _ _).alloc (Nat.le_refl _) _).alloc (by simp) _
      have hr1 : Bk ((wr.alloc (.cells #[.int .i64 x, .int .i64 y, .int .i64 z] 72)).alloc (.cells #[.int .i64 x, .int .i64 y, .int .i64 z] 72)) (wr.heap.size + 1) 72 ([((x, y, z) : Sp)].flatMap spE).toArray := Bk.at_new _ _ (by simp)
      have o1 := HO1.out.below hn1
      have hb3 := HBEL.out.trans (hn1.mono (by omega))
      generalize (wr.alloc (.cells #[.int .i64 x, .int .i64 y, .int .i64 z] 72)).alloc (.cells #[.int .i64 x, .int .i64 y, .int .i64 z] 72) = w3 at hr1 hn1 o1 hb3 ⊢
      have hs3 := hb3.size
      clear c0 c1 c2' HBEL HO1
      go_wp2_with (at_builtin; refine wpList_append_k _ rfl (.tmp 59) (.tmp 61) _ rfl spE_len spE_one w.heap.size i1 (.agg #[.int .i64 0, .int .i64 0, .int .i64 0]) 24 Try.underlying70 hi1 hz1 hz1' hz1'' rfl (by decide) A1 t k1 (ls.take t) rfl o1 (wr.heap.size + 1) 1 [((x, y, z) : Sp)] rfl hr1 (by unfold maxLen; simp only [List.length_cons, List.length_nil]; omega) (by simp only [List.length_cons, List.length_nil]; omega) (by omega) ?_; intro B2 l2' w4 o2 hb4 hsz4)
      rw [N1.out] at o2
      have HF := Lib.hid (And.intro o2 (hb3.trans hb4))
      clear o2 hb4 hb3 hr1 hn1 o1
      go_roundw
      case rel =>
        refine ⟨t + 1, B2, l2', by omega, by go_num, by go_num, HF.out.1, ?_, HF.out.2⟩
        rw [← N1.out]
        intro u hu
        rcases List.mem_append.1 hu with h | h
        · exact HGD.out u h
        · rw [List.mem_singleton.1 h]; exact HNG.out
      case measure => simp [intOf]; omega
    · obtain rfl : n3 = t := by omega
      rw [List.take_of_length_le (by omega)] at o1 hgd
      have HGD := Lib.hid hgd
      have HBEL := Lib.hid hbel
      have HO := Lib.hid o1
      clear o1 hgd hbel
      go_upto_region 13 with (fail)
      go_loopw [9, 12, 13, 14, 15, 16] (fun v i _ _ _ _ wr => ∃ (t : Nat) (A1 : Option Addr) (k1 : Nat) (zs : List Sp), t ≤ n2 ∧ zs.length = t ∧ v = .slice A1 (n3 + t) k1 ∧ i = .int .i64 (t : Int) ∧ OwnK spE 3 72 wr w.heap.size A1 (n3 + t) k1 (ls ++ zs) ∧ (∀ x ∈ zs, GS o x) ∧ Below w.heap.size w wr) (fun _ i _ _ _ _ _ => n2 - (intOf i).toNat)
      case atStart => exact ⟨0, A1, k1, [], Nat.zero_le _, rfl, rfl, rfl, by simpa using HO.out, by simp, HBEL.out⟩
      case round =>
        clear HO HBEL
        obtain ⟨s, B1, l1, zs, hs0, hzl, rfl, rfl, o1, hgs, hbel⟩ := hrel
        obtain ⟨wo, rfl⟩ : ∃ z, z = wr := ⟨_, rfl⟩
        have hsr := hbel.size
        by_cases hlt : s < n2
        · have a1 : (s : Int) < (n2 : Int) := by omega
          have a0 : (0 : Int) ≤ (s : Int) := by omega
          have i1' : IntKind.i64.wrap ((s : Int) + 1) = (s : Int) + 1 := IntWalk.i64_in _ (by omega)
          have HBEL := Lib.hid hbel
          have HO1 := Lib.hid o1
          have HGS := Lib.hid hgs
          clear o1 hbel hgs
          have HNW := Lib.hid (new_any wo)
          go_upto_region 17 with ((with_reducible refine HNW.out.mono ?_); rintro e w1 ⟨rfl, hfb, hb1⟩; have HFB := Lib.hid hfb; have HB1 := Lib.hid hb1; clear hfb hb1 HNW)
          go_loopw [14] (fun k wx => ∃ (j : Nat) (R : List Smp), j ≤ s + 1 ∧ j ≤ 3 ∧ k = .int .i64 (j : Int) ∧ FB wx wo.heap.size R j ∧ KP o R j ∧ Below wo.heap.size wo wx) (fun k _ => 4 - (intOf k).toNat)
          case atStart => exact ⟨0, R0, by omega, by omega, rfl, HFB.out, fun j hj => absurd hj (by omega), HB1.out⟩
          case round =>
            clear HFB HB1
            obtain ⟨j, R, hj1, hj3, rfl, hfb, hkp, hb1⟩ := hrel
            have hsx := hb1.size
            by_cases hgo : j ≤ s ∧ j < 3
            · obtain ⟨ad, he, hab, hac⟩ := sp_field R2.out (t := s - j) (by omega)
              have htl : s - j < ws.length := by omega
              obtain ⟨c0, c1, c2'⟩ := hac _ (HBEL.out.trans (hb1.mono hsr)) _ (List.getElem?_eq_getElem htl)
              obtain ⟨⟨x, y, z⟩, hx⟩ : ∃ q, ws[s - j] = q := ⟨_, rfl⟩
              rw [hx] at c0 c1 c2'
              have b1 : (j : Int) ≤ (s : Int) := by omega
              have b2 : (j : Int) < 3 := by omega
              have b0 : (0 : Int) ≤ ((s - j : Nat) : Int) := by omega
              have b3 : ((s - j : Nat) : Int) < (n2 : Int) := by omega
              have i2' : IntKind.i64.wrap ((s : Int) - (j : Int)) = ((s - j : Nat) : Int) := by rw [IntWalk.i64_in _ (by omega)]; omega
              have i3' : IntKind.i64.wrap ((j : Int) + 1) = (j : Int) + 1 := IntWalk.i64_in _ (by omega)
              have HSM := Lib.hid (fun w => sample_any w (t := t1) (o := o) (a := x) (b := y) (c := z) HT.out.1.1 HT.out.1.2 HT.out.2.1 HT.out.2.2)
              have hps := waS_PS HT.out.2 (x, y, z)
              have HAD := Lib.hid (fun w (h : FB w wo.heap.size R j) => add_ok (B := wo.heap.size) w (waS o (x, y, z)) h (Nat.le_refl _) (by omega) hps.1)
              have HKP := Lib.hid (hkp.add hfb.2 (by omega) hps)
              have HFB := Lib.hid hfb
              have HB1 := Lib.hid hb1
              clear hac hx hfb hkp hb1 hps
              replace HAD : Hid (∀ (w : World) (h : FB w wo.heap.size R j), Calls Try.prog 27 #[.pointer (some ⟨wo.heap.size, 0, none⟩), .agg #[.int .i64 ((smN x + 2 * o - smN z) / 2), .int .i64 (smN x + smN z), .int .i64 0, .int .i64 0]] w fun e w' => e = .returned (.int .i64 0) ∧ FB w' wo.heap.size (R.set (j % 8) (waS o (x, y, z))) (j + 1) ∧ Below wo.heap.size w w' ∧ w.heap.size ≤ w'.heap.size) := HAD
              generalize (smN x + 2 * o - smN z) / 2 = p1 at HSM HAD
              generalize smN x + smN z = p2 at HSM HAD
              generalize waS o (x, y, z) = sx at HAD HKP
              subst he
              go_wp2_with (first
                | ((with_reducible refine (HSM.out _).mono ?_); rintro e w2 ⟨rfl, hb2⟩; have HB2 := Lib.hid hb2; clear hb2)
                | ((with_reducible refine (HAD.out _ (HFB.out.below HB2.out)).mono ?_); rintro e w3 ⟨rfl, hfb3, hb3, hsz3⟩; have HFB3 := Lib.hid hfb3; have HB3 := Lib.hid (HB1.out.trans ((HB2.out.mono HB1.out.size).trans hb3)); clear hfb3 hb3))
              refine ⟨⟨j + 1, _, by omega, by omega, by go_num, HFB3.out, HKP.out, HB3.out⟩, by simp [intOf]; omega⟩
            · have hj0 : 0 < j := by omega
              have hps := hkp.best hj0 (by omega) 0
              have HBS := Lib.hid (best_any wr 0 hfb (by omega))
              rw [if_neg (by omega : ¬ j = 0)] at HBS
              unfold BES at HBS
              have HB1 := Lib.hid hb1
              obtain ⟨⟨so, sd, sp, sa⟩, hbs⟩ : ∃ q, bestN R j 0 = q := ⟨_, rfl⟩
              rw [hbs] at hps HBS
              have HG := Lib.hid hps.gs
              obtain ⟨_, hp1, hp2, hp3, hp4, hp5, hp6⟩ := hps
              have hp3' : -1099511627776 ≤ so := hp3
              have hp4' : so ≤ 1099511627776 := hp4
              have hp5' : 0 ≤ sd := hp5
              have hp6' : sd ≤ 1099511627776 := hp6
              have k1 : IntKind.i64.wrap (so - sd) = so - sd := IntWalk.i64_in _ (by omega)
              have k2 : IntKind.i64.wrap (so - sd - 1) = so - sd - 1 := IntWalk.i64_in _ (by omega)
              have k3 : IntKind.i64.wrap (so + sd) = so + sd := IntWalk.i64_in _ (by omega)
              have k4 : IntKind.i64.wrap (so + sd + 1) = so + sd + 1 := IntWalk.i64_in _ (by omega)
              clear hfb hkp hb1 hbs hp1 hp2 hp3 hp4 hp5 hp6 hp3' hp4' hp5' hp6'
              unfold sv at HBS
              dsimp only at HBS
              rcases Nat.lt_or_ge s j with hc | hc
              · have b1 : ¬ (j : Int) ≤ (s : Int) := by omega
                clear hgo
                go_upto_region 24 with ((with_reducible refine HBS.out.mono ?_); rintro e w2 ⟨rfl, hb2⟩; have HB2 := Lib.hid (HB1.out.trans (hb2.mono hsx)); clear hb2)
                refine wp_region_lit ?_
                iterate 17 (refine wpList_plain rfl (fun K hK => ?_); go_simp; refine hK _ _ ?_; clear hK K)
                have hn1 : Below w2.heap.size w2 ((w2.alloc (.cells #[.int .i64 so, .int .i64 sd, .int .i64 sp, .int .i64 sa] 56)).alloc (.cells #[.int .i64 (so - sd - 1), .int .i64 so, .int .i64 (so + sd + 1)] 72)) := ((Below.refl _ _).alloc (Nat.le_refl _) _).alloc (by simp) _
                have hr1 : Bk ((w2.alloc (.cells #[.int .i64 so, .int .i64 sd, .int .i64 sp, .int .i64 sa] 56)).alloc (.cells #[.int .i64 (so - sd - 1), .int .i64 so, .int .i64 (so + sd + 1)] 72)) (w2.heap.size + 1) 72 ([((so - sd - 1, so, so + sd + 1) : Sp)].flatMap spE).toArray := Bk.at_new _ _ (by simp)
                have hb2 := HB2.out
                have hs2 := hb2.size
                have o1 := (HO1.out.below hb2).below hn1
                have hb3 := HBEL.out.trans ((hb2.mono hsr).trans (hn1.mono (by omega)))
                generalize (w2.alloc (.cells #[.int .i64 so, .int .i64 sd, .int .i64 sp, .int .i64 sa] 56)).alloc (.cells #[.int .i64 (so - sd - 1), .int .i64 so, .int .i64 (so + sd + 1)] 72) = w3 at hr1 hn1 o1 hb3 ⊢
                have hs3 := hb3.size
                clear HBEL HO1 hb2 HB2 HBS
                go_wp2_with (at_builtin; refine wpList_append_k _ rfl (.tmp 98) (.tmp 114) _ rfl spE_len spE_one w.heap.size i1 (.agg #[.int .i64 0, .int .i64 0, .int .i64 0]) 24 Try.underlying70 hi1 hz1 hz1' hz1'' rfl (by decide) B1 (n3 + s) l1 (ls ++ zs) rfl o1 (w2.heap.size + 1) 1 [((so - sd - 1, so, so + sd + 1) : Sp)] rfl hr1 (by unfold maxLen; simp only [List.length_cons, List.length_nil]; omega) (by simp only [List.length_cons, List.length_nil]; omega) (by omega) ?_; intro B2 l2' w4 o2 hb4 hsz4)
                rw [List.append_assoc] at o2
                have HF := Lib.hid (And.intro o2 (hb3.trans hb4))
                clear o2 hb4 hb3 hr1 hn1 o1
                go_roundw
                case rel =>
                  refine ⟨s + 1, B2, l2', _, by omega, ?_, by go_num, by go_num, HF.out.1, ?_, HF.out.2⟩
                  · rw [List.length_append, hzl]; rfl
                  · intro u hu
                    rcases List.mem_append.1 hu with h | h
                    · exact HGS.out u h
                    · rw [List.mem_singleton.1 h]; exact HG.out
                case measure => simp [intOf]; omega
              · have b1 : (j : Int) ≤ (s : Int) := by omega
                have b2 : ¬ (j : Int) < 3 := by omega
                clear hgo
                go_upto_region 24 with ((with_reducible refine HBS.out.mono ?_); rintro e w2 ⟨rfl, hb2⟩; have HB2 := Lib.hid (HB1.out.trans (hb2.mono hsx)); clear hb2)
                refine wp_region_lit ?_
                iterate 17 (refine wpList_plain rfl (fun K hK => ?_); go_simp; refine hK _ _ ?_; clear hK K)
                have hn1 : Below w2.heap.size w2 ((w2.alloc (.cells #[.int .i64 so, .int .i64 sd, .int .i64 sp, .int .i64 sa] 56)).alloc (.cells #[.int .i64 (so - sd - 1), .int .i64 so, .int .i64 (so + sd + 1)] 72)) := ((Below.refl _ _).alloc (Nat.le_refl _) _).alloc (by simp) _
                have hr1 : Bk ((w2.alloc (.cells #[.int .i64 so, .int .i64 sd, .int .i64 sp, .int .i64 sa] 56)).alloc (.cells #[.int .i64 (so - sd - 1), .int .i64 so, .int .i64 (so + sd + 1)] 72)) (w2.heap.size + 1) 72 ([((so - sd - 1, so, so + sd + 1) : Sp)].flatMap spE).toArray := Bk.at_new _ _ (by simp)
                have hb2 := HB2.out
                have hs2 := hb2.size
                have o1 := (HO1.out.below hb2).below hn1
                have hb3 := HBEL.out.trans ((hb2.mono hsr).trans (hn1.mono (by omega)))
                generalize (w2.alloc (.cells #[.int .i64 so, .int .i64 sd, .int .i64 sp, .int .i64 sa] 56)).alloc (.cells #[.int .i64 (so - sd - 1), .int .i64 so, .int .i64 (so + sd + 1)] 72) = w3 at hr1 hn1 o1 hb3 ⊢
                have hs3 := hb3.size
                clear HBEL HO1 hb2 HB2 HBS
                go_wp2_with (at_builtin; refine wpList_append_k _ rfl (.tmp 98) (.tmp 114) _ rfl spE_len spE_one w.heap.size i1 (.agg #[.int .i64 0, .int .i64 0, .int .i64 0]) 24 Try.underlying70 hi1 hz1 hz1' hz1'' rfl (by decide) B1 (n3 + s) l1 (ls ++ zs) rfl o1 (w2.heap.size + 1) 1 [((so - sd - 1, so, so + sd + 1) : Sp)] rfl hr1 (by unfold maxLen; simp only [List.length_cons, List.length_nil]; omega) (by simp only [List.length_cons, List.length_nil]; omega) (by omega) ?_; intro B2 l2' w4 o2 hb4 hsz4)
                rw [List.append_assoc] at o2
                have HF := Lib.hid (And.intro o2 (hb3.trans hb4))
                clear o2 hb4 hb3 hr1 hn1 o1
                go_roundw
                case rel =>
                  refine ⟨s + 1, B2, l2', _, by omega, ?_, by go_num, by go_num, HF.out.1, ?_, HF.out.2⟩
                  · rw [List.length_append, hzl]; rfl
                  · intro u hu
                    rcases List.mem_append.1 hu with h | h
                    · exact HGS.out u h
                    · rw [List.mem_singleton.1 h]; exact HG.out
                case measure => simp [intOf]; omega
        · obtain rfl : n2 = s := by omega
          have HRG := Lib.hid (region_any wo (o1.rd spE_len) (fun x hx => by
            rcases List.mem_append.1 hx with h | h
            · exact HGD.out x h
            · exact (hgs x h).1) (by omega) (by omega))
          have HMJ := Lib.hid (fun (l : List En) => major_pure (l := l) HGD.out hgs (by omega))
          have HBEL := Lib.hid hbel
          unfold REG at HRG
          clear o1 hgs hbel R2 R3 HGD
          go_upto_region 26 with ((with_reducible refine HRG.out.mono ?_); rintro e w2 ⟨l, hp, hsr', hb2, rfl⟩; obtain ⟨lo, hi, hlo, hhi, he⟩ := HMJ.out l hp hsr'; rw [he]; have HB2 := Lib.hid (HBEL.out.trans (hb2.mono hsr)); clear hb2 hp hsr' he)
          clear HRG HMJ
          go_wp2_with (go_at_call 15; refine (HA.out _).mono ?_; rintro e w1 ⟨rfl, hb⟩)
          go_ret
          exact ⟨rfl, HB2.out.trans (hb.mono HB2.out.size)⟩
end Go.Proofs.Yteemglgbhdpodaa
