/- The newest value of a sort: the walk. -/
import Derived.Test.YtkmabfdnekphnaaJb
import Derived.Test.YtkmabfdnekphnaaJ8
import Derived.Deep.CutRange
namespace Go.Proofs.Ytkmabfdnekphnaa
set_option linter.unusedSimpArgs false
set_option linter.unusedVariables false
set_option maxRecDepth 100000
open Go.RowKit Go.Deep
attribute [local go_sem] toldUpon_value toldUpon_skip toldUpon_enter

/-- what the shelf holds of the one sort: nothing, or what place q says -/
def NW (vs : List Vl) (s : Int) (base : Nat) (w : World) (g b t : Nat) (best : Value) : Prop :=
  (t = 0 ∧ best = .int .i64 (-1) ∧ SH w g 1 b 0 (.map [])) ∨ ∃ (q nn : Nat) (D : DataW Value) (v' : Vl), q < t ∧ best = .int .i64 (q : Int) ∧ nn ≤ t ∧ same (vg vs q) v' ∧ VO w base v' ∧ Go.Maps.IsMap D ∧ Maps.has D (.int .i64 s) = true ∧ gv D s = vv v' ∧ SH w g 1 b nn D ∧ v'.n ≤ 2048 ∧ v'.m ≤ 128
def LV (vs : List Vl) (s : Int) (w0 w : World) (g b t : Nat) (best : Value) : Prop := NW vs s (w0.heap.size + 1 + 1) w g b t best ∧ Below w0.heap.size w0 w ∧ w0.heap.size + 1 + 1 ≤ w.heap.size
set_option maxHeartbeats 4000000 in
theorem walk_ValuesNewest (A : Option Addr) (n c : Nat) (vs : List Vl) (s : Int) (w : World) (h : RdVs w A n c vs) (hs : (Lit.int .i64 s).wf = true) : Calls Try.prog 4 #[.slice A n c, .int .i64 s] w fun e w' => e = .returned (.bool true) ∧ Below w.heap.size w w' := by
  have hAl := fun w => valive_any w
  have hN := fun w => snew_any w 1 (by omega) (by omega)
  simp only [show ((1 : Nat) : Int) = 1 from rfl] at hN
  have hmx := h.2.2.1
  have H1 := Lib.hid h
  clear h
  by_cases hneg : s < 0
  · go_enter Try.func4, Try.ntmps4
    go_wp2_with (first
      | (go_at_call 9; refine (hN _).mono ?_; rintro e w1 ⟨rfl, hs1, hb1⟩)
      | (go_at_call 8; refine (hAl _).mono ?_; rintro e w2 ⟨rfl, hb2⟩))
    go_ret
    exact ⟨rfl, hb1.trans (hb2.mono hb1.size)⟩
  · have hd : decide (s < 0) = false := decide_eq_false hneg
    have HNEG := Lib.hid hneg
    clear hneg
    go_enter Try.func4, Try.ntmps4
    go_upto_region 4 with (go_at_call 9; refine (hN _).mono ?_; rintro e w1 ⟨rfl, hs1, hb1⟩)
    obtain ⟨g, hg⟩ : ∃ g, w.heap.size + 1 = g := ⟨_, rfl⟩
    obtain ⟨b, hb⟩ : ∃ b, w.heap.size = b := ⟨_, rfl⟩
    have hgl := hs1.1.lt
    have HL := Lib.hid (show LV vs s w w1 (w.heap.size + 1) w.heap.size 0 (.int .i64 (-1)) from ⟨.inl ⟨rfl, rfl, hs1⟩, hb1, hgl⟩)
    rw [hg]
    rw [hg, hb] at HL
    have HGB := Lib.hid (And.intro hg hb)
    clear hg hb hs1 hb1 hN hgl
    go_wp2_with fail
    go_loopw [7, 8, 9] (fun best i _ wr => ∃ (t : Nat), t ≤ n ∧ t ≤ 40 ∧ i = .int .i64 (t : Int) ∧ LV vs s w wr g b t best) (fun _ i _ _ => 100 - (intOf i).toNat)
    case atStart => exact ⟨0, Nat.zero_le _, Nat.zero_le _, rfl, HL.out⟩
    case round =>
      obtain ⟨t, ht, ht5, rfl, hnw, hbel, hsz⟩ := hrel
      clear HL
      by_cases hlt : t < n ∧ t < 40
      · obtain ⟨l1, l2⟩ := hlt
        have a1 : (t : Int) < (n : Int) := by omega
        have a2 : (t : Int) < 40 := by omega
        have a0 : (0 : Int) ≤ (t : Int) := by omega
        have i1 : IntKind.i64.wrap ((t : Int) + 1) = (t : Int) + 1 := IntWalk.i64_in _ (by omega)
        obtain ⟨ad, hA, hab, hcells⟩ := H1.out.form (by omega)
        subst hA
        have hV0 := hcells
        obtain ⟨v, hv⟩ : ∃ v, vg vs t = v := ⟨_, rfl⟩
        have hV : ∀ w', Below w.heap.size w w' → V4 w' ad t v := fun w' h => hv ▸ hV0 w' h t l1
        have hVR : VR w v := hv ▸ H1.out.2.2.2.1 t l1
        have HV := Lib.hid hv
        have HBEL := Lib.hid hbel
        have HVR := Lib.hid hVR
        have HC := Lib.hid hcells
        have hLg := fun w => long_any w v
        have HLB := Lib.hid (show longB v = ((decide (300 < v.n) && decide (v.n ≤ 2048)) || decide (3000 < v.n) || decide (300 < v.m)) from rfl)
        clear hv hV0 hcells hVR hbel
        have HNW := Lib.hid hnw
        clear hnw
        cases hlb : longB v
        · rw [hlb] at hLg HLB
          clear hlb
          by_cases b1 : 2048 < v.n
          · have b2 : (2048 : Int) < (v.n : Int) := by omega
            clear HLB HNW b1
            obtain ⟨ts, fs, vA, vn, vc, ds, vB, vm, vd, ss⟩ := v
            unfold vv at hLg
            obtain ⟨c0, c1, c2, c3⟩ := hV wr HBEL.out
            replace b2 : (2048 : Int) < (vn : Int) := b2
            go_wp2_with (first
              | (go_at_call 10; refine (hLg _).mono ?_; rintro e w2 ⟨rfl, hb2⟩; obtain ⟨e0, e1, e2, e3⟩ := hV w2 (HBEL.out.trans (hb2.mono HBEL.out.size)))
              | (go_at_call 8; refine (hAl _).mono ?_; rintro e w3 ⟨rfl, hb3⟩))
            go_ret
            have k2 := HBEL.out.trans (hb2.mono HBEL.out.size)
            exact ⟨rfl, k2.trans (hb3.mono k2.size)⟩
          · by_cases b3 : 128 < v.m
            · have b2 : ¬ (2048 : Int) < (v.n : Int) := by omega
              have b4 : (128 : Int) < (v.m : Int) := by omega
              clear HLB HNW b1 b3
              obtain ⟨ts, fs, vA, vn, vc, ds, vB, vm, vd, ss⟩ := v
              unfold vv at hLg
              obtain ⟨c0, c1, c2, c3⟩ := hV wr HBEL.out
              replace b2 : ¬ (2048 : Int) < (vn : Int) := b2
              replace b4 : (128 : Int) < (vm : Int) := b4
              go_wp2_with (first
                | (go_at_call 10; refine (hLg _).mono ?_; rintro e w2 ⟨rfl, hb2⟩; obtain ⟨e0, e1, e2, e3⟩ := hV w2 (HBEL.out.trans (hb2.mono HBEL.out.size)))
                | (go_at_call 8; refine (hAl _).mono ?_; rintro e w3 ⟨rfl, hb3⟩))
              go_ret
              have k2 := HBEL.out.trans (hb2.mono HBEL.out.size)
              exact ⟨rfl, k2.trans (hb3.mono k2.size)⟩
            · have b2 : ¬ (2048 : Int) < (v.n : Int) := by omega
              have b4 : ¬ (128 : Int) < (v.m : Int) := by omega
              have HLN := Lib.hid (And.intro b1 b3)
              clear HLB b1 b3
              have hvv : vv v = .agg #[.int .u32 (v.ts : Int), .int .u32 (v.fs : Int), .slice v.A v.n v.c, .slice v.B v.m v.d] := rfl
              rw [hvv] at hLg
              have HVV := Lib.hid hvv
              clear hvv
              obtain ⟨c0, c1, c2, c3⟩ := hV wr HBEL.out
              go_upto_region 10 with (go_at_call 10; refine (hLg _).mono ?_; rintro e w2 ⟨rfl, hb2⟩; obtain ⟨e0, e1, e2, e3⟩ := hV w2 (HBEL.out.trans (hb2.mono HBEL.out.size)))
              have HB2 := Lib.hid (HBEL.out.trans (hb2.mono HBEL.out.size))
              have HR2 := Lib.hid hb2
              have HS2 := Lib.hid hb2.size
              clear c0 c1 c2 c3 b2 b4 hLg hb2
              rcases HNW.out with ⟨ht0, hbest, hsh⟩ | ⟨q, nn, D, v', hq, hbest, hnn, hsm, hvo, him, hhas, hgv, hsh, hn2, hm2⟩
              · clear ht0
                subst hbest
                have hP := put_new w2 (hsh.below HR2.out) (by omega) hs v (HVR.out.below HB2.out) (has_empty _) (by have := HNEG.out; omega) (by have := HLN.out; omega) (by have := HLN.out; omega) (by decide)
                rw [HVV.out] at hP
                clear hsh
                go_upto_region 11 with (go_at_call 11; refine hP.mono ?_; rintro e w3 ⟨v1', rfl, hsm3, hvo3, hsh3, hg3⟩)
                have hk3 : Below w.heap.size w w3 := (HB2.out).grown hg3 (HB2.out.size) (fun k hk => by cases hk; have := HGB.out.2; omega)
                have HK3 := Lib.hid hk3
                have HF := Lib.hid (And.intro hsm3 (And.intro hvo3 hsh3))
                clear hP hg3 hk3 hsm3 hvo3 hsh3 e0 e1 e2 e3
                (refine region_told _ (by kernel_rfl) (by kernel_rfl) (by simp only [putAll, Act.put, List.setIfInBounds_toArray, List.set_cons_zero, List.set_cons_succ, Nat.reduceAdd]; rfl) ?_)
                iterate 3 (refine told_step (fun v _ => v = _) (Stays.eq _) (by intro y w' hw' hd; simp only [depsOf, updG, Region.binds, Nat.reduceAdd, Nat.reduceEqDiff, if_false, if_true, and_true, true_and, forall_const, Array.toList, GTrue] at hd; (try go_split_ands); unfold toldAt; go_simp; exact ⟨Below.refl _ _, rfl⟩) ?_)
                iterate 9 (refine told_step (fun v _ => v = undef) (Stays.eq _) (by intro y w' hw' hd; simp only [depsOf, updG, Region.binds, Nat.reduceAdd, Nat.reduceEqDiff, if_false, if_true, and_true, true_and, forall_const, Array.toList, GTrue] at hd; (try go_split_ands); unfold toldAt; go_simp) ?_)
                (refine told_step (fun v _ => v = _) (Stays.eq _) (by intro y w' hw' hd; simp only [depsOf, updG, Region.binds, Nat.reduceAdd, Nat.reduceEqDiff, if_false, if_true, and_true, true_and, forall_const, Array.toList, GTrue] at hd; (try go_split_ands); unfold toldAt; go_simp; exact ⟨Below.refl _ _, rfl⟩) ?_)
                (refine told_nil ?_; intro y w4 hw4 hd4)
                have e12 : y 12 = .bool true := hd4 12 (by decide)
                rw [e12]
                clear hd4 e12
                have hk4 := HK3.out.trans (hw4.mono HK3.out.size)
                have HK4 := Lib.hid (And.intro hk4 (And.intro hw4 hw4.size))
                clear hw4 hk4
                go_wp2_with fail
                go_roundw
                case rel => exact ⟨t + 1, by omega, by omega, by go_num, .inr ⟨t, 1, _, v1', Nat.lt_succ_self _, rfl, by omega, HV.out ▸ HF.out.1, (HF.out.2.1.below HK4.out.2.1).lower (by have := HS2.out; omega), Go.Maps.isMap_empty.put _ _, Go.Maps.has_put_same Go.Maps.isMap_empty (isKey s) _, gv_put Go.Maps.isMap_empty s _, HF.out.2.2.below HK4.out.2.1, by have := HF.out.1.2.2.2.2.1; have := HLN.out; omega, by have := HF.out.1.2.2.2.2.2; have := HLN.out; omega⟩, HK4.out.1, by have := HS2.out; have := HK4.out.2.2; have := HF.out.2.2.1.lt; have := HGB.out; omega⟩
                case measure => simp [intOf]; omega
              · subst hbest
                obtain ⟨vq, hvq⟩ : ∃ x, vg vs q = x := ⟨_, rfl⟩
                rw [hvq] at hsm
                have HVQ := Lib.hid hvq
                have HSM := Lib.hid hsm
                have hNw := fun w => newer_any w v vq
                have HEQ := Lib.hid (newB_same (same.rfl' v) hsm)
                have hvvq : vv vq = .agg #[.int .u32 (vq.ts : Int), .int .u32 (vq.fs : Int), .slice vq.A vq.n vq.c, .slice vq.B vq.m vq.d] := rfl
                rw [HVV.out, hvvq] at hNw
                have HSH := Lib.hid (hsh.below HR2.out)
                have HVO := Lib.hid hvo
                have HD := Lib.hid (And.intro him (And.intro hhas hgv))
                have q0 : (0 : Int) ≤ (q : Int) := by omega
                have q1 : (q : Int) < (n : Int) := by omega
                have q2 : ¬ (q : Int) < 0 := by omega
                have HQT := Lib.hid (And.intro hq hnn)
                have HN2 := Lib.hid (And.intro hn2 hm2)
                clear hvq hvvq hsm hsh hvo him hhas hgv hq hnn hn2 hm2
                cases hnb : newB v vq
                · rw [hnb] at hNw HEQ
                  have hP := put_old w2 HSH.out hs v v' HD.out.2.1 HD.out.2.2 (by have := HNEG.out; omega) (by have := HLN.out; omega) (by have := HLN.out; omega) HEQ.out.symm
                  rw [HVV.out] at hP
                  clear hnb
                  go_upto_region 11 with (go_at_call 11; refine hP.mono ?_; rintro e w3 ⟨rfl, hb3⟩)
                  have HK3 := Lib.hid (HB2.out.trans (hb3.mono HB2.out.size))
                  have HR3 := Lib.hid (HR2.out.trans (hb3.mono HR2.out.size))
                  have HB3 := Lib.hid hb3
                  clear hP hb3 e0 e1 e2 e3
                  have E0 : ∀ w', Below w3.heap.size w3 w' → w'.cell? (ad.add (t * 4)) = some (.int .u32 (v.ts : Int)) := fun w' h => (hV w' (HK3.out.trans (h.mono HK3.out.size))).1
                  have E1 : ∀ w', Below w3.heap.size w3 w' → w'.cell? ⟨(ad.add (t * 4)).block, (ad.add (t * 4)).off + 1, none⟩ = some (.int .u32 (v.fs : Int)) := fun w' h => (hV w' (HK3.out.trans (h.mono HK3.out.size))).2.1
                  have E2 : ∀ w', Below w3.heap.size w3 w' → w'.cell? ⟨(ad.add (t * 4)).block, (ad.add (t * 4)).off + 2, none⟩ = some (.slice v.A v.n v.c) := fun w' h => (hV w' (HK3.out.trans (h.mono HK3.out.size))).2.2.1
                  have E3 : ∀ w', Below w3.heap.size w3 w' → w'.cell? ⟨(ad.add (t * 4)).block, (ad.add (t * 4)).off + 3, none⟩ = some (.slice v.B v.m v.d) := fun w' h => (hV w' (HK3.out.trans (h.mono HK3.out.size))).2.2.2
                  have FQ : ∀ w', Below w3.heap.size w3 w' → V4 w' ad q vq := fun w' h => HVQ.out ▸ HC.out w' (HK3.out.trans (h.mono HK3.out.size)) q (by omega)
                  have F0 : ∀ w', Below w3.heap.size w3 w' → w'.cell? (ad.add (q * 4)) = some (.int .u32 (vq.ts : Int)) := fun w' h => (FQ w' h).1
                  have F1 : ∀ w', Below w3.heap.size w3 w' → w'.cell? ⟨(ad.add (q * 4)).block, (ad.add (q * 4)).off + 1, none⟩ = some (.int .u32 (vq.fs : Int)) := fun w' h => (FQ w' h).2.1
                  have F2 : ∀ w', Below w3.heap.size w3 w' → w'.cell? ⟨(ad.add (q * 4)).block, (ad.add (q * 4)).off + 2, none⟩ = some (.slice vq.A vq.n vq.c) := fun w' h => (FQ w' h).2.2.1
                  have F3 : ∀ w', Below w3.heap.size w3 w' → w'.cell? ⟨(ad.add (q * 4)).block, (ad.add (q * 4)).off + 3, none⟩ = some (.slice vq.B vq.m vq.d) := fun w' h => (FQ w' h).2.2.2
                  clear FQ
                  (refine region_told _ (by kernel_rfl) (by kernel_rfl) (by simp only [putAll, Act.put, List.setIfInBounds_toArray, List.set_cons_zero, List.set_cons_succ, Nat.reduceAdd]; rfl) ?_)
                  iterate 3 (refine told_step (fun v _ => v = _) (Stays.eq _) (by intro y w' hw' hd; simp only [depsOf, updG, Region.binds, Nat.reduceAdd, Nat.reduceEqDiff, if_false, if_true, and_true, true_and, forall_const, Array.toList, GTrue] at hd; (try go_split_ands); unfold toldAt; go_simp; exact ⟨Below.refl _ _, rfl⟩) ?_)
                  iterate 8 (refine told_step (fun v _ => v = _) (Stays.eq _) (by intro y w' hw' hd; simp only [depsOf, updG, Region.binds, Nat.reduceAdd, Nat.reduceEqDiff, if_false, if_true, and_true, true_and, forall_const, Array.toList, GTrue] at hd; (try go_split_ands); unfold toldAt; go_simp; exact ⟨Below.refl _ _, rfl⟩) ?_)
                  (refine told_step (fun v _ => v = _) (Stays.eq _) (by intro y w' hw' hd; simp only [depsOf, updG, Region.binds, Nat.reduceAdd, Nat.reduceEqDiff, if_false, if_true, and_true, true_and, forall_const, Array.toList, GTrue] at hd; (try go_split_ands); unfold toldAt; go_simp; refine ⟨Below.refl _ _, ?_⟩; exact hNw w') ?_)
                  (refine told_step (fun v _ => v = _) (Stays.eq _) (by intro y w' hw' hd; simp only [depsOf, updG, Region.binds, Nat.reduceAdd, Nat.reduceEqDiff, if_false, if_true, and_true, true_and, forall_const, Array.toList, GTrue] at hd; (try go_split_ands); unfold toldAt; go_simp; exact ⟨Below.refl _ _, rfl⟩) ?_)
                  (refine told_nil ?_; intro y w4 hw4 hd4)
                  have e12 : y 12 = .bool false := hd4 12 (by decide)
                  rw [e12]
                  clear hd4 e12 E0 E1 E2 E3 F0 F1 F2 F3 hNw
                  have hk4 := HK3.out.trans (hw4.mono HK3.out.size)
                  have hr4 := HR3.out.trans (hw4.mono HR3.out.size)
                  have HK4 := Lib.hid (And.intro hk4 (And.intro hr4 (HB3.out.trans (hw4.mono HB3.out.size))))
                  clear hw4 hk4 hr4
                  go_wp2_with fail
                  go_roundw
                  case rel => exact ⟨t + 1, by omega, by omega, by go_num, .inr ⟨q, nn, D, v', by have := HQT.out; omega, rfl, by have := HQT.out; omega, HVQ.out ▸ HSM.out, HVO.out.below HK4.out.2.1, HD.out.1, HD.out.2.1, HD.out.2.2, HSH.out.below HK4.out.2.2, HN2.out.1, HN2.out.2⟩, HK4.out.1, by have := HK4.out.2.1.size; omega⟩
                  case measure => simp [intOf]; omega
                · rw [hnb] at hNw HEQ
                  have hP := put_newer w2 HSH.out (by have := HQT.out; omega) hs v v' (HVR.out.below HB2.out) HD.out.2.1 HD.out.2.2 (by have := HNEG.out; omega) (by have := HLN.out; omega) (by have := HLN.out; omega) HEQ.out.symm
                  rw [HVV.out] at hP
                  clear hnb
                  go_upto_region 11 with (go_at_call 11; refine hP.mono ?_; rintro e w3 ⟨v1', rfl, hsm3, hvo3, hsh3, hg3⟩)
                  have hk3 : Below w.heap.size w w3 := (HB2.out).grown hg3 (HB2.out.size) (fun k hk => by cases hk; have := HGB.out.2; omega)
                  have HK3 := Lib.hid hk3
                  have HF := Lib.hid (And.intro hsm3 (And.intro hvo3 hsh3))
                  clear hP hg3 hk3 hsm3 hvo3 hsh3 e0 e1 e2 e3
                  have E0 : ∀ w', Below w3.heap.size w3 w' → w'.cell? (ad.add (t * 4)) = some (.int .u32 (v.ts : Int)) := fun w' h => (hV w' (HK3.out.trans (h.mono HK3.out.size))).1
                  have E1 : ∀ w', Below w3.heap.size w3 w' → w'.cell? ⟨(ad.add (t * 4)).block, (ad.add (t * 4)).off + 1, none⟩ = some (.int .u32 (v.fs : Int)) := fun w' h => (hV w' (HK3.out.trans (h.mono HK3.out.size))).2.1
                  have E2 : ∀ w', Below w3.heap.size w3 w' → w'.cell? ⟨(ad.add (t * 4)).block, (ad.add (t * 4)).off + 2, none⟩ = some (.slice v.A v.n v.c) := fun w' h => (hV w' (HK3.out.trans (h.mono HK3.out.size))).2.2.1
                  have E3 : ∀ w', Below w3.heap.size w3 w' → w'.cell? ⟨(ad.add (t * 4)).block, (ad.add (t * 4)).off + 3, none⟩ = some (.slice v.B v.m v.d) := fun w' h => (hV w' (HK3.out.trans (h.mono HK3.out.size))).2.2.2
                  have FQ : ∀ w', Below w3.heap.size w3 w' → V4 w' ad q vq := fun w' h => HVQ.out ▸ HC.out w' (HK3.out.trans (h.mono HK3.out.size)) q (by omega)
                  have F0 : ∀ w', Below w3.heap.size w3 w' → w'.cell? (ad.add (q * 4)) = some (.int .u32 (vq.ts : Int)) := fun w' h => (FQ w' h).1
                  have F1 : ∀ w', Below w3.heap.size w3 w' → w'.cell? ⟨(ad.add (q * 4)).block, (ad.add (q * 4)).off + 1, none⟩ = some (.int .u32 (vq.fs : Int)) := fun w' h => (FQ w' h).2.1
                  have F2 : ∀ w', Below w3.heap.size w3 w' → w'.cell? ⟨(ad.add (q * 4)).block, (ad.add (q * 4)).off + 2, none⟩ = some (.slice vq.A vq.n vq.c) := fun w' h => (FQ w' h).2.2.1
                  have F3 : ∀ w', Below w3.heap.size w3 w' → w'.cell? ⟨(ad.add (q * 4)).block, (ad.add (q * 4)).off + 3, none⟩ = some (.slice vq.B vq.m vq.d) := fun w' h => (FQ w' h).2.2.2
                  clear FQ
                  (refine region_told _ (by kernel_rfl) (by kernel_rfl) (by simp only [putAll, Act.put, List.setIfInBounds_toArray, List.set_cons_zero, List.set_cons_succ, Nat.reduceAdd]; rfl) ?_)
                  iterate 3 (refine told_step (fun v _ => v = _) (Stays.eq _) (by intro y w' hw' hd; simp only [depsOf, updG, Region.binds, Nat.reduceAdd, Nat.reduceEqDiff, if_false, if_true, and_true, true_and, forall_const, Array.toList, GTrue] at hd; (try go_split_ands); unfold toldAt; go_simp; exact ⟨Below.refl _ _, rfl⟩) ?_)
                  iterate 8 (refine told_step (fun v _ => v = _) (Stays.eq _) (by intro y w' hw' hd; simp only [depsOf, updG, Region.binds, Nat.reduceAdd, Nat.reduceEqDiff, if_false, if_true, and_true, true_and, forall_const, Array.toList, GTrue] at hd; (try go_split_ands); unfold toldAt; go_simp; exact ⟨Below.refl _ _, rfl⟩) ?_)
                  (refine told_step (fun v _ => v = _) (Stays.eq _) (by intro y w' hw' hd; simp only [depsOf, updG, Region.binds, Nat.reduceAdd, Nat.reduceEqDiff, if_false, if_true, and_true, true_and, forall_const, Array.toList, GTrue] at hd; (try go_split_ands); unfold toldAt; go_simp; refine ⟨Below.refl _ _, ?_⟩; exact hNw w') ?_)
                  (refine told_step (fun v _ => v = _) (Stays.eq _) (by intro y w' hw' hd; simp only [depsOf, updG, Region.binds, Nat.reduceAdd, Nat.reduceEqDiff, if_false, if_true, and_true, true_and, forall_const, Array.toList, GTrue] at hd; (try go_split_ands); unfold toldAt; go_simp; exact ⟨Below.refl _ _, rfl⟩) ?_)
                  (refine told_nil ?_; intro y w4 hw4 hd4)
                  have e12 : y 12 = .bool true := hd4 12 (by decide)
                  rw [e12]
                  clear hd4 e12 E0 E1 E2 E3 F0 F1 F2 F3 hNw
                  have hk4 := HK3.out.trans (hw4.mono HK3.out.size)
                  have HK4 := Lib.hid (And.intro hk4 (And.intro hw4 hw4.size))
                  clear hw4 hk4
                  go_wp2_with fail
                  go_roundw
                  case rel => exact ⟨t + 1, by omega, by omega, by go_num, .inr ⟨t, nn + 1, _, v1', Nat.lt_succ_self _, rfl, by have := HQT.out; omega, HV.out ▸ HF.out.1, (HF.out.2.1.below HK4.out.2.1).lower (by have := HS2.out; omega), HD.out.1.put _ _, Go.Maps.has_put_same HD.out.1 (isKey s) _, gv_put HD.out.1 s _, HF.out.2.2.below HK4.out.2.1, by have := HF.out.1.2.2.2.2.1; have := HLN.out; omega, by have := HF.out.1.2.2.2.2.2; have := HLN.out; omega⟩, HK4.out.1, by have := HS2.out; have := HK4.out.2.2; have := HF.out.2.2.1.lt; have := HGB.out; omega⟩
                  case measure => simp [intOf]; omega
        · rw [hlb] at hLg
          clear hlb HLB HNW
          obtain ⟨ts, fs, vA, vn, vc, ds, vB, vm, vd, ss⟩ := v
          unfold vv at hLg
          obtain ⟨c0, c1, c2, c3⟩ := hV wr HBEL.out
          go_wp2_with (first
            | (go_at_call 10; refine (hLg _).mono ?_; rintro e w2 ⟨rfl, hb2⟩; obtain ⟨e0, e1, e2, e3⟩ := hV w2 (HBEL.out.trans (hb2.mono HBEL.out.size)))
            | (go_at_call 8; refine (hAl _).mono ?_; rintro e w3 ⟨rfl, hb3⟩))
          go_ret
          have k2 := HBEL.out.trans (hb2.mono HBEL.out.size)
          exact ⟨rfl, k2.trans (hb3.mono k2.size)⟩
      · have HB := Lib.hid hbel
        rcases hnw with ⟨ht0, hbest, hsh⟩ | ⟨q, nn, D, v', hq, hbest, hnn, hsm, hvo, him, hhas, hgv, hsh, hn2, hm2⟩
        · have hG := get_none wr hsh hs (has_empty _)
          rw [vv_z0] at hG
          subst hbest
          clear hsh hbel
          rcases (show (t < n ∧ t = 40) ∨ t = n by omega) with ⟨l1, l2⟩ | l1
          · omega
          · have a1 : ¬ (t : Int) < (n : Int) := by omega
            clear l1 hlt ht0
            go_wp2_with (first
              | (go_at_call 12; refine hG.mono ?_; rintro e w2 ⟨rfl, hb2⟩)
              | (go_at_call 8; refine (hAl _).mono ?_; rintro e w3 ⟨rfl, hb3⟩))
            go_ret
            have k2 := HB.out.trans (hb2.mono HB.out.size)
            have k3 := k2.alloc k2.size (.cells #[.int .u32 0, .int .u32 0, .slice none 0 0, .slice none 0 0] 25)
            exact ⟨rfl, k3.trans (hb3.mono k3.size)⟩
        · subst hbest
          have hVQ := H1.out.2.2.2.1 q (by omega)
          have hG := get_any wr hsh hs v' (hvo.vr hsm hVQ) (by omega) (by omega) hhas hgv
          obtain ⟨ad, hA, hab, hcells⟩ := H1.out.form (by omega)
          subst hA
          have q0 : (0 : Int) ≤ (q : Int) := by omega
          have q1 : (q : Int) < (n : Int) := by omega
          have q2 : ¬ (q : Int) < 0 := by omega
          have hV := fun w' h => hcells w' h q (by omega)
          obtain ⟨vq, hvq⟩ : ∃ x, vg vs q = x := ⟨_, rfl⟩
          rw [hvq] at hVQ hsm
          simp only [hvq] at hV
          have hvvq : vv vq = .agg #[.int .u32 (vq.ts : Int), .int .u32 (vq.fs : Int), .slice vq.A vq.n vq.c, .slice vq.B vq.m vq.d] := rfl
          have HVVQ := Lib.hid hvvq
          have HQ := Lib.hid (And.intro hVQ hsm)
          have HCP := Lib.hid (hvo.vr hsm hVQ)
          unfold GET at hG
          clear hsh hbel hcells hvq hvvq hVQ hsm hvo him hhas hgv hnn hn2 hm2 hab
          rcases (show (t < n ∧ t = 40) ∨ t = n by omega) with ⟨l1, l2⟩ | l1
          · have a1 : (t : Int) < (n : Int) := by omega
            have a2 : ¬ (t : Int) < 40 := by omega
            clear l2 hlt
            go_upto_region 20 with (go_at_call 12; refine hG.mono ?_; rintro e w2 ⟨⟨ts, fs, vA, vn, vc, ds, vB, vm, vd, ss⟩, rfl, hsm2, hvo2, hb2⟩; simp only [vv])
            have k2 := HB.out.trans (hb2.mono HB.out.size)
            obtain ⟨w5, hw5⟩ : ∃ z, w2.alloc (.cells #[.int .u32 (ts : Int), .int .u32 (fs : Int), .slice vA vn vc, .slice vB vm vd] 25) = z := ⟨_, rfl⟩
            have hb5 : Below w2.heap.size w2 w5 := by rw [← hw5]; exact (Below.refl _ _).alloc (Nat.le_refl _) _
            have kk : Bk w5 w2.heap.size 25 #[.int .u32 (ts : Int), .int .u32 (fs : Int), .slice vA vn vc, .slice vB vm vd] := by rw [← hw5]; exact Bk.new w2 _ _
            rw [hw5]
            have k5 := k2.trans (hb5.mono k2.size)
            have hvr : VR w5 ⟨ts, fs, vA, vn, vc, ds, vB, vm, vd, ss⟩ := (hvo2.vr hsm2 HCP.out).below hb5
            have hsq : same (⟨ts, fs, vA, vn, vc, ds, vB, vm, vd, ss⟩ : Vl) vq := (HQ.out.2.trans hsm2).symm
            have hSm := fun w' (h : Below w5.heap.size w5 w') => same_true w' ⟨ts, fs, vA, vn, vc, ds, vB, vm, vd, ss⟩ vq (hvr.below h) (HQ.out.1.below (k5.trans (h.mono k5.size))) hsq
            rw [HVVQ.out] at hSm
            simp only [vv] at hSm
            have D0 : ∀ w', Below w5.heap.size w5 w' → w'.cell? ⟨w2.heap.size, 0, none⟩ = some (.int .u32 (ts : Int)) := fun w' h => (kk.below h kk.lt).cell 0
            have D1 : ∀ w', Below w5.heap.size w5 w' → w'.cell? ⟨w2.heap.size, 1, none⟩ = some (.int .u32 (fs : Int)) := fun w' h => (kk.below h kk.lt).cell 1
            have D2 : ∀ w', Below w5.heap.size w5 w' → w'.cell? ⟨w2.heap.size, 2, none⟩ = some (.slice vA vn vc) := fun w' h => (kk.below h kk.lt).cell 2
            have D3 : ∀ w', Below w5.heap.size w5 w' → w'.cell? ⟨w2.heap.size, 3, none⟩ = some (.slice vB vm vd) := fun w' h => (kk.below h kk.lt).cell 3
            have F0 : ∀ w', Below w5.heap.size w5 w' → w'.cell? (ad.add (q * 4)) = some (.int .u32 (vq.ts : Int)) := fun w' h => (hV w' (k5.trans (h.mono k5.size))).1
            have F1 : ∀ w', Below w5.heap.size w5 w' → w'.cell? ⟨(ad.add (q * 4)).block, (ad.add (q * 4)).off + 1, none⟩ = some (.int .u32 (vq.fs : Int)) := fun w' h => (hV w' (k5.trans (h.mono k5.size))).2.1
            have F2 : ∀ w', Below w5.heap.size w5 w' → w'.cell? ⟨(ad.add (q * 4)).block, (ad.add (q * 4)).off + 2, none⟩ = some (.slice vq.A vq.n vq.c) := fun w' h => (hV w' (k5.trans (h.mono k5.size))).2.2.1
            have F3 : ∀ w', Below w5.heap.size w5 w' → w'.cell? ⟨(ad.add (q * 4)).block, (ad.add (q * 4)).off + 3, none⟩ = some (.slice vq.B vq.m vq.d) := fun w' h => (hV w' (k5.trans (h.mono k5.size))).2.2.2
            have HK5 := Lib.hid k5
            clear hw5 hb2 hb5 k2 k5 hvr hsq kk hV hG hsm2 hvo2
            (refine region_told _ (by kernel_rfl) (by kernel_rfl) (by simp only [putAll, Act.put, List.setIfInBounds_toArray, List.set_cons_zero, List.set_cons_succ, Nat.reduceAdd]; rfl) ?_)
            (refine told_step (fun v _ => v = _) (Stays.eq _) (by intro y w' hw' hd; simp only [depsOf, updG, Region.binds, Nat.reduceAdd, Nat.reduceEqDiff, if_false, if_true, and_true, true_and, forall_const, Array.toList, GTrue] at hd; (try go_split_ands); unfold toldAt; go_simp; refine ⟨Below.refl _ _, ?_⟩; exact hAl w') ?_)
            iterate 5 (refine told_step (fun v _ => v = _) (Stays.eq _) (by intro y w' hw' hd; simp only [depsOf, updG, Region.binds, Nat.reduceAdd, Nat.reduceEqDiff, if_false, if_true, and_true, true_and, forall_const, Array.toList, GTrue] at hd; (try go_split_ands); unfold toldAt; go_simp; exact ⟨Below.refl _ _, rfl⟩) ?_)
            iterate 5 (refine told_step (fun v _ => v = _) (Stays.eq _) (by intro y w' hw' hd; simp only [depsOf, updG, Region.binds, Nat.reduceAdd, Nat.reduceEqDiff, if_false, if_true, and_true, true_and, forall_const, Array.toList, GTrue] at hd; (try go_split_ands); unfold toldAt; go_simp; exact ⟨Below.refl _ _, rfl⟩) ?_)
            (refine told_step (fun v _ => v = _) (Stays.eq _) (by intro y w' hw' hd; simp only [depsOf, updG, Region.binds, Nat.reduceAdd, Nat.reduceEqDiff, if_false, if_true, and_true, true_and, forall_const, Array.toList, GTrue] at hd; (try go_split_ands); unfold toldAt; go_simp; refine ⟨Below.refl _ _, ?_⟩; exact hSm w' hw') ?_)
            iterate 2 (refine told_step (fun v _ => v = _) (Stays.eq _) (by intro y w' hw' hd; simp only [depsOf, updG, Region.binds, Nat.reduceAdd, Nat.reduceEqDiff, if_false, if_true, and_true, true_and, forall_const, Array.toList, GTrue] at hd; (try go_split_ands); unfold toldAt; go_simp; exact ⟨Below.refl _ _, rfl⟩) ?_)
            (refine told_nil ?_; intro y w6 hw6 hd6)
            have e13 : y 13 = .bool true := hd6 13 (by decide)
            rw [e13]
            have HK6 := Lib.hid (HK5.out.trans (hw6.mono HK5.out.size))
            clear hd6 e13 hw6 D0 D1 D2 D3 F0 F1 F2 F3 hSm
            go_wp2_with fail
            go_ret
            exact ⟨rfl, HK6.out⟩
          · have a1 : ¬ (t : Int) < (n : Int) := by omega
            clear l1 hlt
            go_upto_region 20 with (go_at_call 12; refine hG.mono ?_; rintro e w2 ⟨⟨ts, fs, vA, vn, vc, ds, vB, vm, vd, ss⟩, rfl, hsm2, hvo2, hb2⟩; simp only [vv])
            have k2 := HB.out.trans (hb2.mono HB.out.size)
            obtain ⟨w5, hw5⟩ : ∃ z, w2.alloc (.cells #[.int .u32 (ts : Int), .int .u32 (fs : Int), .slice vA vn vc, .slice vB vm vd] 25) = z := ⟨_, rfl⟩
            have hb5 : Below w2.heap.size w2 w5 := by rw [← hw5]; exact (Below.refl _ _).alloc (Nat.le_refl _) _
            have kk : Bk w5 w2.heap.size 25 #[.int .u32 (ts : Int), .int .u32 (fs : Int), .slice vA vn vc, .slice vB vm vd] := by rw [← hw5]; exact Bk.new w2 _ _
            rw [hw5]
            have k5 := k2.trans (hb5.mono k2.size)
            have hvr : VR w5 ⟨ts, fs, vA, vn, vc, ds, vB, vm, vd, ss⟩ := (hvo2.vr hsm2 HCP.out).below hb5
            have hsq : same (⟨ts, fs, vA, vn, vc, ds, vB, vm, vd, ss⟩ : Vl) vq := (HQ.out.2.trans hsm2).symm
            have hSm := fun w' (h : Below w5.heap.size w5 w') => same_true w' ⟨ts, fs, vA, vn, vc, ds, vB, vm, vd, ss⟩ vq (hvr.below h) (HQ.out.1.below (k5.trans (h.mono k5.size))) hsq
            rw [HVVQ.out] at hSm
            simp only [vv] at hSm
            have D0 : ∀ w', Below w5.heap.size w5 w' → w'.cell? ⟨w2.heap.size, 0, none⟩ = some (.int .u32 (ts : Int)) := fun w' h => (kk.below h kk.lt).cell 0
            have D1 : ∀ w', Below w5.heap.size w5 w' → w'.cell? ⟨w2.heap.size, 1, none⟩ = some (.int .u32 (fs : Int)) := fun w' h => (kk.below h kk.lt).cell 1
            have D2 : ∀ w', Below w5.heap.size w5 w' → w'.cell? ⟨w2.heap.size, 2, none⟩ = some (.slice vA vn vc) := fun w' h => (kk.below h kk.lt).cell 2
            have D3 : ∀ w', Below w5.heap.size w5 w' → w'.cell? ⟨w2.heap.size, 3, none⟩ = some (.slice vB vm vd) := fun w' h => (kk.below h kk.lt).cell 3
            have F0 : ∀ w', Below w5.heap.size w5 w' → w'.cell? (ad.add (q * 4)) = some (.int .u32 (vq.ts : Int)) := fun w' h => (hV w' (k5.trans (h.mono k5.size))).1
            have F1 : ∀ w', Below w5.heap.size w5 w' → w'.cell? ⟨(ad.add (q * 4)).block, (ad.add (q * 4)).off + 1, none⟩ = some (.int .u32 (vq.fs : Int)) := fun w' h => (hV w' (k5.trans (h.mono k5.size))).2.1
            have F2 : ∀ w', Below w5.heap.size w5 w' → w'.cell? ⟨(ad.add (q * 4)).block, (ad.add (q * 4)).off + 2, none⟩ = some (.slice vq.A vq.n vq.c) := fun w' h => (hV w' (k5.trans (h.mono k5.size))).2.2.1
            have F3 : ∀ w', Below w5.heap.size w5 w' → w'.cell? ⟨(ad.add (q * 4)).block, (ad.add (q * 4)).off + 3, none⟩ = some (.slice vq.B vq.m vq.d) := fun w' h => (hV w' (k5.trans (h.mono k5.size))).2.2.2
            have HK5 := Lib.hid k5
            clear hw5 hb2 hb5 k2 k5 hvr hsq kk hV hG hsm2 hvo2
            (refine region_told _ (by kernel_rfl) (by kernel_rfl) (by simp only [putAll, Act.put, List.setIfInBounds_toArray, List.set_cons_zero, List.set_cons_succ, Nat.reduceAdd]; rfl) ?_)
            (refine told_step (fun v _ => v = _) (Stays.eq _) (by intro y w' hw' hd; simp only [depsOf, updG, Region.binds, Nat.reduceAdd, Nat.reduceEqDiff, if_false, if_true, and_true, true_and, forall_const, Array.toList, GTrue] at hd; (try go_split_ands); unfold toldAt; go_simp; refine ⟨Below.refl _ _, ?_⟩; exact hAl w') ?_)
            iterate 5 (refine told_step (fun v _ => v = _) (Stays.eq _) (by intro y w' hw' hd; simp only [depsOf, updG, Region.binds, Nat.reduceAdd, Nat.reduceEqDiff, if_false, if_true, and_true, true_and, forall_const, Array.toList, GTrue] at hd; (try go_split_ands); unfold toldAt; go_simp; exact ⟨Below.refl _ _, rfl⟩) ?_)
            iterate 5 (refine told_step (fun v _ => v = _) (Stays.eq _) (by intro y w' hw' hd; simp only [depsOf, updG, Region.binds, Nat.reduceAdd, Nat.reduceEqDiff, if_false, if_true, and_true, true_and, forall_const, Array.toList, GTrue] at hd; (try go_split_ands); unfold toldAt; go_simp; exact ⟨Below.refl _ _, rfl⟩) ?_)
            (refine told_step (fun v _ => v = _) (Stays.eq _) (by intro y w' hw' hd; simp only [depsOf, updG, Region.binds, Nat.reduceAdd, Nat.reduceEqDiff, if_false, if_true, and_true, true_and, forall_const, Array.toList, GTrue] at hd; (try go_split_ands); unfold toldAt; go_simp; refine ⟨Below.refl _ _, ?_⟩; exact hSm w' hw') ?_)
            iterate 2 (refine told_step (fun v _ => v = _) (Stays.eq _) (by intro y w' hw' hd; simp only [depsOf, updG, Region.binds, Nat.reduceAdd, Nat.reduceEqDiff, if_false, if_true, and_true, true_and, forall_const, Array.toList, GTrue] at hd; (try go_split_ands); unfold toldAt; go_simp; exact ⟨Below.refl _ _, rfl⟩) ?_)
            (refine told_nil ?_; intro y w6 hw6 hd6)
            have e13 : y 13 = .bool true := hd6 13 (by decide)
            rw [e13]
            have HK6 := Lib.hid (HK5.out.trans (hw6.mono HK5.out.size))
            clear hd6 e13 hw6 D0 D1 D2 D3 F0 F1 F2 F3 hSm
            go_wp2_with fail
            go_ret
            exact ⟨rfl, HK6.out⟩
end Go.Proofs.Ytkmabfdnekphnaa
