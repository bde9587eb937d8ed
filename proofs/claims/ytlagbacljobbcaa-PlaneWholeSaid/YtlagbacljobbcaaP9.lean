/- Rows of bits as points and as their parts; are two floats alike? -/
import Derived.Test.YtlagbacljobbcaaP8
namespace Go.Proofs.Ytlagbacljobbcaa
set_option linter.unusedSimpArgs false
set_option linter.unusedVariables false
open Go.RowKit
attribute [local go_sem] toldUpon_value toldUpon_skip toldUpon_enter call_bits call_frombits

theorem like_any (w : World) {a b : Nat} (h : mk a = mk b) : Calls Try.prog 15 #[.float .f64 a, .float .f64 b] w fun e w' => e = .returned (.bool true) ∧ w = w' := by
  by_cases hab : a = b
  · subst hab
    clear h
    go_enter Try.func15, Try.ntmps15
    go_wp2_with fail
    go_ret
    exact ⟨rfl, rfl⟩
  · rcases like_of h with h1 | ⟨h1, h2⟩
    · exact absurd (by simpa using h1) hab
    have t1 : ((a : Int) == (b : Int)) = false := by simp; omega
    have o1 : FloatKind.f64.format.order a a = none := h1
    have o2 : FloatKind.f64.format.order b b = none := h2
    clear h h1 h2 hab
    go_enter Try.func15, Try.ntmps15
    go_wp2_with fail
    go_ret
    exact ⟨rfl, rfl⟩
theorem info_c : (Try.prog.info? 28).map (fun i => (i.zero, i.size, i.bytes)) = some (some (.complex .f64 0 0), 1, 16) := by kernel_rfl
theorem info_f : (Try.prog.info? 30).map (fun i => (i.zero, i.size, i.bytes)) = some (some (.float .f64 0), 1, 8) := by kernel_rfl
theorem obk_eq (A : Option Addr) (n c : Nat) : (Value.slice A n c).ownBlock = obk A := by cases A <;> rfl
theorem Apt.none (A : Option Addr) : Apt Option.none A := fun _ h => by cases h
def PTS (zs : List (Nat × Nat)) (w : World) (e : Ending) (w' : World) : Prop := ∃ A1 c1 A2 c2 A3 c3, e = .returned (.tuple #[.slice A1 zs.length c1, .slice A2 zs.length c2, .slice A3 zs.length c3]) ∧
  RdV w' A1 zs.length c1 (cvs zs) ∧ RdV w' A2 zs.length c2 (fvs (zs.map Prod.fst)) ∧ RdV w' A3 zs.length c3 (fvs (zs.map Prod.snd)) ∧ Below w.heap.size w w'
theorem fvs_take (xs : List Nat) (k : Nat) (h : k < xs.length) : fvs (xs.take k) ++ [.float .f64 xs[k]] = fvs (xs.take (k + 1)) := by
  unfold fvs; rw [List.take_succ_eq_append_getElem h, List.map_append]; rfl
theorem cvs_take (xs : List (Nat × Nat)) (k : Nat) (h : k < xs.length) : cvs (xs.take k) ++ [.complex .f64 xs[k].1 xs[k].2] = cvs (xs.take (k + 1)) := by
  unfold cvs; rw [List.take_succ_eq_append_getElem h, List.map_append]; rfl
set_option maxRecDepth 100000 in
set_option maxHeartbeats 1000000 in
theorem points_any (w : World) {A B : Option Addr} {n c m d : Nat} {xs ys : List Nat} (hx : Rd .u64 w A n c xs) (hy : Rd .u64 w B m d ys) (hn : n ≤ 2000) :
    Calls Try.prog 10 #[.slice A n c, .slice B m d] w (PTS (xs.zip ys) w) := by
  have hmx := hx.max
  have hmy := hy.max
  have hlx := hx.len
  have hly := hy.len
  obtain ⟨zs, hzs⟩ : ∃ z, xs.zip ys = z := ⟨_, rfl⟩
  have hlz : zs.length = min n m := by rw [← hzs, List.length_zip, hlx, hly]
  have HZ : ∀ t (h : t < zs.length), zs[t] = (gd xs t, gd ys t) := by
    intro t h
    subst hzs
    rw [List.getElem_zip, gd_lt (by omega), gd_lt (by omega)]
  rw [hzs]
  clear hzs
  obtain ⟨i1', hi1, hz1, hz1', hz1''⟩ := info_parts info_c
  obtain ⟨i2', hi2, hz2, hz2', hz2''⟩ := info_parts info_f
  go_enter Try.func10, Try.ntmps10
  go_wp2_with fail
  go_loopw [7, 8, 9, 10] (fun u v x i wr => ∃ (t : Nat) (A1 : Option Addr) (c1 : Nat) (A2 : Option Addr) (c2 : Nat) (A3 : Option Addr) (c3 : Nat), t ≤ zs.length ∧ i = .int .i64 (t : Int) ∧ u = .slice A1 t c1 ∧ v = .slice A2 t c2 ∧ x = .slice A3 t c3 ∧
    OwnV 28 wr w.heap.size A1 t c1 (cvs (zs.take t)) ∧ OwnV 30 wr w.heap.size A2 t c2 (fvs ((zs.map Prod.fst).take t)) ∧ OwnV 30 wr w.heap.size A3 t c3 (fvs ((zs.map Prod.snd).take t)) ∧ Apt A1 A2 ∧ Apt A1 A3 ∧ Apt A2 A3 ∧ Below w.heap.size w wr) (fun _ _ _ i _ => zs.length - (intOf i).toNat)
  case atStart => exact ⟨0, none, 0, none, 0, none, 0, Nat.zero_le _, rfl, rfl, rfl, rfl, OwnV.nil _ _ _, OwnV.nil _ _ _, OwnV.nil _ _ _, Apt.none _, Apt.none _, Apt.none _, Below.refl _ _⟩
  case round =>
    obtain ⟨t, A1, k1, A2, k2, A3, k3, ht, rfl, rfl, rfl, rfl, o1, o2, o3, p12, p13, p23, hbel⟩ := hrel
    have hsr := hbel.size
    by_cases hlt : t < zs.length
    · obtain ⟨ad, rfl, hab, hac⟩ := (hx.below hbel).form (by omega)
      obtain ⟨ae, rfl, hbb, hbc⟩ := (hy.below hbel).form (by omega)
      have c1 := hac t (by omega)
      have c2 := hbc t (by omega)
      have hz := HZ t hlt
      generalize gd xs t = p at c1 hz
      generalize gd ys t = q at c2 hz
      have a1 : (t : Int) < (n : Int) := by omega
      have a2 : (t : Int) < (m : Int) := by omega
      have a0 : (0 : Int) ≤ (t : Int) := by omega
      have C1 : ∀ w', Below wr.heap.size wr w' → w'.cell? (ad.add t) = some (.int .u64 (p : Int)) := fun w' h => (h.cell (p := ad.add t) (adlt hab t)).trans c1
      have C2 : ∀ w', Below wr.heap.size wr w' → w'.cell? (ae.add t) = some (.int .u64 (q : Int)) := fun w' h => (h.cell (p := ae.add t) (adlt hbb t)).trans c2
      have N1 := Lib.hid (show cvs (zs.take t) ++ [.complex .f64 p q] = cvs (zs.take (t + 1)) by rw [← cvs_take _ _ hlt, hz])
      have N2 := Lib.hid (show fvs ((zs.map Prod.fst).take t) ++ [.float .f64 p] = fvs ((zs.map Prod.fst).take (t + 1)) by rw [← fvs_take _ _ (by simpa using hlt)]; simp [hz])
      have N3 := Lib.hid (show fvs ((zs.map Prod.snd).take t) ++ [.float .f64 q] = fvs ((zs.map Prod.snd).take (t + 1)) by rw [← fvs_take _ _ (by simpa using hlt)]; simp [hz])
      have O1 := Lib.hid o1
      have O2 := Lib.hid o2
      have O3 := Lib.hid o3
      have HBEL := Lib.hid hbel
      have i1 : IntKind.i64.wrap ((t : Int) + 1) = (t : Int) + 1 := IntWalk.i64_in _ (by omega)
      clear hz hac hbc c1 c2 o1 o2 o3 hbel
      go_upto_region 6 with (fail)
      (refine region_told _ (by kernel_rfl) (by kernel_rfl) (by simp only [putAll, Act.put, List.setIfInBounds_toArray, List.set_cons_zero, List.set_cons_succ, Nat.reduceAdd]; rfl) ?_)
      repeat (refine told_step (fun v _ => v = _) (Stays.eq _) (by intro y w' hw' hd; simp only [depsOf, updG, Region.binds, Nat.reduceAdd, Nat.reduceEqDiff, if_false, if_true, and_true, true_and, forall_const, Array.toList, GTrue] at hd; (try go_split_ands); unfold toldAt; go_simp; exact ⟨Below.refl _ _, rfl⟩) ?_)
      (refine told_nil ?_; intro y w2 hw2 hd)
      have e10 : y 10 = .float .f64 p := hd 10 (by decide)
      have e11 : y 11 = .float .f64 q := hd 11 (by decide)
      rw [e10, e11]
      clear hd e10 e11 C1 C2
      have o1 := O1.out.below hw2
      have o2 := O2.out.below hw2
      have o3 := O3.out.below hw2
      have hb2 := HBEL.out.trans (hw2.mono hsr)
      clear O1 O2 O3 HBEL hw2
      have hs2 := hb2.size
      -- the points
      go_upto_region 7 with (fail)
      refine wp_region_lit ?_
      iterate 5 (refine wpList_plain rfl (fun K hK => ?_); go_simp; refine hK _ _ ?_; clear hK K)
      have hn1 := (Below.refl w2.heap.size w2).alloc (Nat.le_refl _) (.cells #[.complex .f64 p q] 28)
      have hr1 := RdV.one (Bk.new w2 28 #[.complex .f64 p q])
      replace o1 := o1.below hn1
      replace o2 := o2.below hn1
      replace o3 := o3.below hn1
      have hb3 := hb2.trans (hn1.mono (by omega))
      generalize w2.alloc (.cells #[.complex .f64 p q] 28) = w3 at hr1 hn1 o1 o2 o3 hb3 ⊢
      have hs3 := hb3.size
      go_wp2_with (at_builtin; refine wpList_append_rdv _ rfl (.tmp 35) (.tmp 39) _ rfl w.heap.size 28 i1' (.complex .f64 0 0) 16 Try.underlying24 hi1 hz1 hz1' hz1'' rfl A1 t k1 (cvs (zs.take t)) rfl o1 _ _ _ _ rfl (by omega) hr1 (by simp [Value.oneCell']) (by unfold maxLen; omega) (by omega) (by omega) (by omega) ?_)
      intro B1 l1 w4 o1' hb4 hsz4 hk4 hob4
      rw [N1.out] at o1'
      rw [obk_eq, obk_eq] at hob4
      have q12 := p12.left o2 hob4
      have q13 := p13.left o3 hob4
      replace o2 := o2.keep p12 hk4
      replace o3 := o3.keep p13 hk4
      replace hb4 := hb3.trans hb4
      have hs4 := hb4.size
      clear hk4 hob4 hb3 hr1 hn1 o1
      -- the first parts
      go_upto_region 8 with (fail)
      refine wp_region_lit ?_
      iterate 3 (refine wpList_plain rfl (fun K hK => ?_); go_simp; refine hK _ _ ?_; clear hK K)
      have hn1 := (Below.refl w4.heap.size w4).alloc (Nat.le_refl _) (.cells #[.float .f64 p] 30)
      have hr1 := RdV.one (Bk.new w4 30 #[.float .f64 p])
      replace o1' := o1'.below hn1
      replace o2 := o2.below hn1
      replace o3 := o3.below hn1
      have hb5 := hb4.trans (hn1.mono (by omega))
      generalize w4.alloc (.cells #[.float .f64 p] 30) = w5 at hr1 hn1 o1' o2 o3 hb5 ⊢
      have hs5 := hb5.size
      go_wp2_with (at_builtin; refine wpList_append_rdv _ rfl (.tmp 41) (.tmp 43) _ rfl w.heap.size 30 i2' (.float .f64 0) 8 Try.underlying25 hi2 hz2 hz2' hz2'' rfl A2 t k2 (fvs ((zs.map Prod.fst).take t)) rfl o2 _ _ _ _ rfl (by omega) hr1 (by simp [Value.oneCell']) (by unfold maxLen; omega) (by omega) (by omega) (by omega) ?_)
      intro B2 l2 w6 o2' hb6 hsz6 hk6 hob6
      rw [N2.out] at o2'
      rw [obk_eq, obk_eq] at hob6
      have q23 := p23.left o3 hob6
      have q21 := q12.symm.left o1' hob6
      replace o1' := o1'.keep q12.symm hk6
      replace o3 := o3.keep p23 hk6
      replace hb6 := hb5.trans hb6
      have hs6 := hb6.size
      clear hk6 hob6 hb5 hr1 hn1 o2 q12 hb4
      -- the second parts
      go_upto_region 9 with (fail)
      refine wp_region_lit ?_
      iterate 3 (refine wpList_plain rfl (fun K hK => ?_); go_simp; refine hK _ _ ?_; clear hK K)
      have hn1 := (Below.refl w6.heap.size w6).alloc (Nat.le_refl _) (.cells #[.float .f64 q] 30)
      have hr1 := RdV.one (Bk.new w6 30 #[.float .f64 q])
      replace o1' := o1'.below hn1
      replace o2' := o2'.below hn1
      replace o3 := o3.below hn1
      have hb7 := hb6.trans (hn1.mono (by omega))
      generalize w6.alloc (.cells #[.float .f64 q] 30) = w7 at hr1 hn1 o1' o2' o3 hb7 ⊢
      have hs7 := hb7.size
      go_wp2_with (at_builtin; refine wpList_append_rdv _ rfl (.tmp 45) (.tmp 47) _ rfl w.heap.size 30 i2' (.float .f64 0) 8 Try.underlying25 hi2 hz2 hz2' hz2'' rfl A3 t k3 (fvs ((zs.map Prod.snd).take t)) rfl o3 _ _ _ _ rfl (by omega) hr1 (by simp [Value.oneCell']) (by unfold maxLen; omega) (by omega) (by omega) (by omega) ?_)
      intro B3 l3 w8 o3' hb8 hsz8 hk8 hob8
      rw [N3.out] at o3'
      rw [obk_eq, obk_eq] at hob8
      have q31 := q13.symm.left o1' hob8
      have q32 := q23.symm.left o2' hob8
      replace o1' := o1'.keep q13.symm hk8
      replace o2' := o2'.keep q23.symm hk8
      have HF := Lib.hid (And.intro o1' (And.intro o2' (And.intro o3' (And.intro q21.symm (And.intro q31.symm (And.intro q32.symm (hb7.trans hb8)))))))
      clear hk8 hob8 hb7 hb8 hr1 hn1 o3 o1' o2' o3' q21 q31 q32 q13 q23 hb6 hb2 p12 p13 p23 HZ hlz
      go_wp2_with fail
      go_roundw
      case rel => exact ⟨t + 1, B1, l1, B2, l2, B3, l3, by omega, by go_num, rfl, rfl, rfl, HF.out⟩
      case measure => simp [intOf]; omega
    · obtain rfl : t = zs.length := by omega
      rw [List.take_of_length_le (by omega)] at o1
      rw [List.take_of_length_le (by simp)] at o2 o3
      have R := Lib.hid (And.intro o1.rd (And.intro o2.rd o3.rd))
      clear o1 o2 o3
      rcases (show n = zs.length ∨ m = zs.length by omega) with h | h
      · have b1 : ¬ (zs.length : Int) < (n : Int) := by omega
        clear HZ hlz h
        go_wp2_with fail
        exact bodyPost_ret (v := .tuple #[.slice A1 zs.length k1, .slice A2 zs.length k2, .slice A3 zs.length k3]) (by simp [results, Try.results10, go_sem]) rfl ⟨A1, k1, A2, k2, A3, k3, rfl, R.out.1, R.out.2.1, R.out.2.2, hbel⟩
      · have b1 : ¬ (zs.length : Int) < (m : Int) := by omega
        by_cases h2 : (zs.length : Int) < (n : Int)
        · clear HZ hlz h
          go_wp2_with fail
          exact bodyPost_ret (v := .tuple #[.slice A1 zs.length k1, .slice A2 zs.length k2, .slice A3 zs.length k3]) (by simp [results, Try.results10, go_sem]) rfl ⟨A1, k1, A2, k2, A3, k3, rfl, R.out.1, R.out.2.1, R.out.2.2, hbel⟩
        · clear HZ hlz h
          go_wp2_with fail
          exact bodyPost_ret (v := .tuple #[.slice A1 zs.length k1, .slice A2 zs.length k2, .slice A3 zs.length k3]) (by simp [results, Try.results10, go_sem]) rfl ⟨A1, k1, A2, k2, A3, k3, rfl, R.out.1, R.out.2.1, R.out.2.2, hbel⟩
end Go.Proofs.Ytlagbacljobbcaa
