/- Texts of this claim, joined: what its laws use. -/
import Derived.Test.YteelppebdcgbpaaQC
import Derived.Laws.CopyOwn
import Derived.Deep.RegionHeld3
import Derived.ArgAppend
import Derived.StillTailTactics
import Derived.Test.YteelppebdcgbpaaProg
import Derived.Below
import Derived.Deep.Draws
import Derived.Deep.AppendLies
import Derived.Maps.AppendAt
import Derived.OwnWalk
import Derived.Laws.BytesArg
import Derived.Laws.MakeOwn
import Derived.Laws.OwnMore
import Derived.Deep.OwnRows
import Derived.Tactics
import Derived.Lib.ConvBytes
import Derived.Laws.Slices
import Derived.WalkKit
import Derived.KernelRfl
import Derived.RowKit3
import Derived.Deep.LoopGhost
import Derived.Deep.QuietTactic
import Derived.BigQuiet
import Derived.WideLaws
import Derived.Deep.DeepCutAuto
import Derived.Deep.CutBlock
import Derived.Laws.Rows
import Derived.Lib.AppendStr
import Derived.Laws.IdiomCopy
import Derived.OrdersHeld
import Derived.Laws.BitsLemmas
import Derived.RowKit
namespace Go.Proofs.Yteelppebdcgbpaa.Cr
open Go.RowKit Go.Proofs.YteelppebdcgbpaaW.PrintWords Go.Proofs.YteelppebdcgbpaaW.PrintLast Go.Proofs.YteelppebdcgbpaaW.PrintMore
attribute [local go_sem] max2_int min2_int max_two min_two max_three min_three max_four min_four   -- for this text's walks alone
set_option linter.unusedVariables false
set_option linter.unusedSimpArgs false
mutual
def clepsydraref03_Tells.l0 : Nat → Int → List Int → List Int → List Int → List Int → Int → Option (Bool)
  | 0, _, _, _, _, _, _ => none
  | k + 1, x1, x5, x6, x7, x8, x9 => (clepsydraref03_bit.f x8 0).bind fun t311 => (if t311 = 0 then ((clepsydraref03_parted.f x8 (([2] : List Int))).bind fun bt315 => (clepsydraref03_Tells.l0 k x1 x5 x6 x7 bt315.1 (wrap64 (x9 + 1)))) else ((clepsydraref03_Digits.f k (([x1] : List Int))).bind fun t324 => ((clepsydraref03_parted.f t324 x5).bind fun bt327 => (if (bt327.2.length : Int) = 0 then (some false) else ((clepsydraref03_power.f k bt327.2 x8 x5).bind fun t333 => ((clepsydraref03_cmp.f t333 x6).bind fun t336 => (if t336 = 0 then (some false) else (clepsydraref03_Tells.l1 k x5 x7 x9 t333 0))))))))
def clepsydraref03_Tells.l1 : Nat → List Int → List Int → Int → List Int → Int → Option (Bool)
  | 0, _, _, _, _, _ => none
  | k + 1, x5, x7, x9, x12, x13 => if x13 < x9 then ((clepsydraref03_cmp.f x12 x7).bind fun t337 => (if t337 = 0 then (some false) else ((clepsydraref03_times.f x12 x12 x5).bind fun t338 => (clepsydraref03_Tells.l1 k x5 x7 x9 t338 (wrap64 (x13 + 1)))))) else (some true)
end
def clepsydraref03_Tells.f (k : Nat) (l0 : List Int) (a1 : Int) : Option (Bool) := (clepsydraref03_Digits.f k l0).bind fun t293 => ((some (([1] : List Int) : List Int)).bind fun y296 => ((clepsydraref03_cmp.f t293 (([2] : List Int))).bind fun t302 => (if t302 ≤ 0 then ((clepsydraref03_cmp.f t293 (([2] : List Int))).bind fun t306 => (some (decide (t306 < 0)))) else ((clepsydraref03_bit.f t293 0).bind fun t307 => (if t307 = 0 then (some true) else ((clepsydraref03_minus.f k t293 y296).bind fun t308 => (clepsydraref03_Tells.l0 k a1 t293 y296 t308 t308 0)))))))
set_option maxHeartbeats 8000000 in
set_option maxRecDepth 100000 in
theorem clepsydraref03_Tells.calls (k : Nat) (A0 : Option Addr) (c0 : Nat) (l0 : List Int) (a1 : Int) (r : Bool) (w : World) (hr0 : Kd.C (Kd.int .u64) w A0 l0.length l0) (hc0 : l0.length ≤ c0) (h : clepsydraref03_Tells.f k l0 a1 = some r) :
    Calls Try.prog 30 #[.slice A0 l0.length c0, .int .u64 a1] w fun e w' => e = .returned (.bool r) ∧ Below w.heap.size w w' := by
  have HR0 := Aside0.mk hr0
  have HC0 := Aside0.mk hc0
  clear hr0 hc0
  have HB := Aside0.mk (Below.refl w.heap.size w)
  have H : ((clepsydraref03_Digits.f k l0).bind fun t293 => ((some (([1] : List Int) : List Int)).bind fun y296 => ((clepsydraref03_cmp.f t293 (([2] : List Int))).bind fun t302 => (if t302 ≤ 0 then ((clepsydraref03_cmp.f t293 (([2] : List Int))).bind fun t306 => (some (decide (t306 < 0)))) else ((clepsydraref03_bit.f t293 0).bind fun t307 => (if t307 = 0 then (some true) else ((clepsydraref03_minus.f k t293 y296).bind fun t308 => (clepsydraref03_Tells.l0 k a1 t293 y296 t308 t308 0)))))))) = some r := h
  clear h
  replace H := Option.bind_eq_some_iff.mp H
  obtain ⟨t293, A30, H⟩ := H
  replace H : ((some (([1] : List Int) : List Int)).bind fun y296 => ((clepsydraref03_cmp.f t293 (([2] : List Int))).bind fun t302 => (if t302 ≤ 0 then ((clepsydraref03_cmp.f t293 (([2] : List Int))).bind fun t306 => (some (decide (t306 < 0)))) else ((clepsydraref03_bit.f t293 0).bind fun t307 => (if t307 = 0 then (some true) else ((clepsydraref03_minus.f k t293 y296).bind fun t308 => (clepsydraref03_Tells.l0 k a1 t293 y296 t308 t308 0))))))) = some r := H
  have A3 := Aside0.mk A30
  clear A30
  obtain ⟨y296, hy296⟩ : ∃ y_ : List Int, y_ = (([1] : List Int)) := ⟨_, rfl⟩
  replace H : ((clepsydraref03_cmp.f t293 (([2] : List Int))).bind fun t302 => (if t302 ≤ 0 then ((clepsydraref03_cmp.f t293 (([2] : List Int))).bind fun t306 => (some (decide (t306 < 0)))) else ((clepsydraref03_bit.f t293 0).bind fun t307 => (if t307 = 0 then (some true) else ((clepsydraref03_minus.f k t293 y296).bind fun t308 => (clepsydraref03_Tells.l0 k a1 t293 y296 t308 t308 0)))))) = some r := by first | (rw [hy296]; with_reducible exact H) | (have H2_ := (Option.bind_some _ _).symm.trans H; rw [hy296]; with_reducible exact H2_) | (have H2_ := (Option.bind_some _ _).symm.trans H; with_reducible exact H2_) | with_reducible exact H | (rw [hy296]; exact H) | exact H
  have Ny296 := Aside0.mk hy296
  clear hy296
  obtain ⟨y299, hy299⟩ : ∃ y_ : List Int, y_ = (([2] : List Int)) := ⟨_, rfl⟩
  replace H : ((clepsydraref03_cmp.f t293 y299).bind fun t302 => (if t302 ≤ 0 then ((clepsydraref03_cmp.f t293 (([2] : List Int))).bind fun t306 => (some (decide (t306 < 0)))) else ((clepsydraref03_bit.f t293 0).bind fun t307 => (if t307 = 0 then (some true) else ((clepsydraref03_minus.f k t293 y296).bind fun t308 => (clepsydraref03_Tells.l0 k a1 t293 y296 t308 t308 0)))))) = some r := by first | (rw [hy299]; with_reducible exact H) | (have H2_ := (Option.bind_some _ _).symm.trans H; rw [hy299]; with_reducible exact H2_) | (have H2_ := (Option.bind_some _ _).symm.trans H; with_reducible exact H2_) | with_reducible exact H | (rw [hy299]; exact H) | exact H
  have Ny299 := Aside0.mk hy299
  clear hy299
  replace H := Option.bind_eq_some_iff.mp H
  obtain ⟨t302, A40, H⟩ := H
  replace H : (if t302 ≤ 0 then ((clepsydraref03_cmp.f t293 (([2] : List Int))).bind fun t306 => (some (decide (t306 < 0)))) else ((clepsydraref03_bit.f t293 0).bind fun t307 => (if t307 = 0 then (some true) else ((clepsydraref03_minus.f k t293 y296).bind fun t308 => (clepsydraref03_Tells.l0 k a1 t293 y296 t308 t308 0))))) = some r := H
  have A4 := Aside0.mk A40
  clear A40
  by_cases c5 : t302 ≤ 0
  · rw [if_pos c5] at H
    have c5b0 : decide (t302 ≤ 0) = true := decide_eq_true c5
    clear c5
    obtain ⟨y303, hy303⟩ : ∃ y_ : List Int, y_ = (([2] : List Int)) := ⟨_, rfl⟩
    replace H : ((clepsydraref03_cmp.f t293 y303).bind fun t306 => (some (decide (t306 < 0)))) = some r := by first | (rw [hy303]; with_reducible exact H) | (have H2_ := (Option.bind_some _ _).symm.trans H; rw [hy303]; with_reducible exact H2_) | (have H2_ := (Option.bind_some _ _).symm.trans H; with_reducible exact H2_) | with_reducible exact H | (rw [hy303]; exact H) | exact H
    have Ny303 := Aside0.mk hy303
    clear hy303
    replace H := Option.bind_eq_some_iff.mp H
    obtain ⟨t306, A60, H⟩ := H
    replace H : (some (decide (t306 < 0))) = some r := H
    have A6 := Aside0.mk A60
    clear A60
    obtain rfl := Option.some.inj H
    simp only [Option.some.injEq, Prod.mk.injEq] at H
    obtain ⟨rfl⟩ := H
    go_enter Try.func30, Try.ntmps30
    go_wp2_with (first | ((with_reducible refine gate_callee (f := 36) rfl ?_); refine goesL_ (some 15) rfl rfl Try.func36 (by kernel_rfl) rfl #[.slice A0 l0.length c0] rfl (by (try simp only [List.map_toArray, List.map_cons, List.map_nil]); first | done | rfl | (simp only [List.length_drop, List.length_take]; rfl)) ?_; (with_reducible refine (clepsydraref03_Digits.calls k _ _ l0 t293 _ ?side1 ?side2 A3.out).mono ?_); (case side1 => repeat (first | exact HR0.out | (with_reducible refine Kd.C_alloc ?_ _) | (with_reducible refine Kd.C_drewN ?_ _) | (with_reducible refine Kd.C_drew ?_))); (case side2 => exact HC0.out); rintro e w7 ⟨v294, rfl, ho0, hb⟩; refine ⟨_, rfl, ?_⟩; have n0_ := Aside0.mk (Kd.R_lower ho0 (below_size (by repeat (first | (with_reducible first | exact HB.out | apply below_alloc | apply pw_below_drewN | apply below_drew1) | exact HB.out)))); have n1_ := Aside0.mk (below_step (by repeat (first | (with_reducible first | exact HB.out | apply below_alloc | apply pw_below_drewN | apply below_drew1) | exact HB.out)) hb); clear HB; have HO295 := n0_; have HB := n1_; clear n0_ n1_; (try clear hb); (try clear hb2); (try clear hk); (try clear hi); (try clear ho0)) | ((with_reducible refine gate_dst (N := 16) rfl ?_); refine Kd.R_lit (Kd.int .i64) _ 3 ?hg (N := 16) ?hd (xs := ([1] : List Int)) (inner := [.int .i64 1]) (ok := fun _ => True) (okp := fun _ => True) ?hr ?hp (fun _ hk => hk) trivial (Below.refl _ _) (Nat.le_refl _) (by simp) ?_; (case hd => rfl); (case hg => rfl); (case hr => first | (go_simp; done) | (go_simp; rfl)); (case hp => exact (Reps.one (show Kd.M (Kd.int .i64) _ _ _ 1 [.int .i64 1] from rfl) (Reps.none _ _))); intro v297 w8 ho9 hb hg_ hnew_; clear hg_ hnew_; (first | rw [← Ny296.out] at ho9 | (simp only [Int.reduceToNat] at ho9; rw [← Ny296.out] at ho9)); have n0_ := Aside0.mk (Kd.R_elder' (by (with_reducible repeat (first | apply Kd.R_alloc | apply Kd.R_drewN | apply Kd.R_drew)); exact HO295.out) (Kd.R_base ho9) hb); have n1_ := Aside0.mk (Kd.R_lower (Kd.R_new' ho9 (Kd.R_lt (by (with_reducible repeat (first | apply Kd.R_alloc | apply Kd.R_drewN | apply Kd.R_drew)); exact HO295.out))) (below_size (by repeat (first | (with_reducible first | exact HB.out | apply below_alloc | apply pw_below_drewN | apply below_drew1) | exact HB.out)))); have n2_ := Aside0.mk (below_step (by repeat (first | (with_reducible first | exact HB.out | apply below_alloc | apply pw_below_drewN | apply below_drew1) | exact HB.out)) hb); clear HO295; clear HB; have HO295 := n0_; have HO298 := n1_; have HB := n2_; clear n0_ n1_ n2_; clear hb ho9) | ((with_reducible refine gate_dst (N := 18) rfl ?_); refine Kd.R_lit (Kd.int .i64) _ 3 ?hg (N := 18) ?hd (xs := ([2] : List Int)) (inner := [.int .i64 2]) (ok := fun _ => True) (okp := fun _ => True) ?hr ?hp (fun _ hk => hk) trivial (Below.refl _ _) (Nat.le_refl _) (by simp) ?_; (case hd => rfl); (case hg => rfl); (case hr => first | (go_simp; done) | (go_simp; rfl)); (case hp => exact (Reps.one (show Kd.M (Kd.int .i64) _ _ _ 2 [.int .i64 2] from rfl) (Reps.none _ _))); intro v300 w10 ho11 hb hg_ hnew_; clear hg_ hnew_; (first | rw [← Ny299.out] at ho11 | (simp only [Int.reduceToNat] at ho11; rw [← Ny299.out] at ho11)); have n0_ := Aside0.mk (Kd.R_elder' (by (with_reducible repeat (first | apply Kd.R_alloc | apply Kd.R_drewN | apply Kd.R_drew)); exact HO295.out) (Kd.R_base ho11) hb); have n1_ := Aside0.mk (Kd.R_elder' (by (with_reducible repeat (first | apply Kd.R_alloc | apply Kd.R_drewN | apply Kd.R_drew)); exact HO298.out) (Kd.R_base ho11) hb); have n2_ := Aside0.mk (Kd.R_lower (Kd.R_new' (Kd.R_new' ho11 (Kd.R_lt (by (with_reducible repeat (first | apply Kd.R_alloc | apply Kd.R_drewN | apply Kd.R_drew)); exact HO295.out))) (Kd.R_lt (by (with_reducible repeat (first | apply Kd.R_alloc | apply Kd.R_drewN | apply Kd.R_drew)); exact HO298.out))) (below_size (by repeat (first | (with_reducible first | exact HB.out | apply below_alloc | apply pw_below_drewN | apply below_drew1) | exact HB.out)))); have n3_ := Aside0.mk (below_step (by repeat (first | (with_reducible first | exact HB.out | apply below_alloc | apply pw_below_drewN | apply below_drew1) | exact HB.out)) hb); clear HO295; clear HO298; clear HB; have HO295 := n0_; have HO298 := n1_; have HO301 := n2_; have HB := n3_; clear n0_ n1_ n2_ n3_; clear hb ho11; obtain ⟨Ao12, co12, eo12⟩ := Kd.R_slice HO295.out; subst eo12; obtain ⟨Ao13, co13, eo13⟩ := Kd.R_slice HO301.out; subst eo13) | ((with_reducible refine gate_callee (f := 48) rfl ?_); refine goesL_ (some 19) rfl rfl Try.func48 (by kernel_rfl) rfl #[.slice Ao12 t293.length co12, .slice Ao13 y299.length co13] rfl (by (try simp only [List.map_toArray, List.map_cons, List.map_nil]); first | done | rfl | (simp only [List.length_drop, List.length_take]; rfl)) ?_; (with_reducible refine (clepsydraref03_cmp.calls _ _ t293 _ _ y299 t302 _ ?side1 ?side2 ?side3 ?side4 A4.out).mono ?_); (case side1 => repeat (first | exact (Kd.R_reads' HO295.out).2.2 | (with_reducible refine Kd.C_alloc ?_ _) | (with_reducible refine Kd.C_drewN ?_ _) | (with_reducible refine Kd.C_drew ?_))); (case side2 => exact (Kd.R_reads' HO295.out).2.1); (case side3 => repeat (first | exact (Kd.R_reads' HO301.out).2.2 | (with_reducible refine Kd.C_alloc ?_ _) | (with_reducible refine Kd.C_drewN ?_ _) | (with_reducible refine Kd.C_drew ?_))); (case side4 => exact (Kd.R_reads' HO301.out).2.1); rintro e w' ⟨rfl, ⟨nd, rfl⟩⟩; refine ⟨_, rfl, ?_⟩) | ((with_reducible refine gate_dst (N := 22) rfl ?_); refine Kd.R_lit (Kd.int .i64) _ 3 ?hg (N := 22) ?hd (xs := ([2] : List Int)) (inner := [.int .i64 2]) (ok := fun _ => True) (okp := fun _ => True) ?hr ?hp (fun _ hk => hk) trivial (Below.refl _ _) (Nat.le_refl _) (by simp) ?_; (case hd => rfl); (case hg => rfl); (case hr => first | (go_simp; done) | (go_simp; rfl)); (case hp => exact (Reps.one (show Kd.M (Kd.int .i64) _ _ _ 2 [.int .i64 2] from rfl) (Reps.none _ _))); intro v304 w14 ho15 hb hg_ hnew_; clear hg_ hnew_; (first | rw [← Ny303.out] at ho15 | (simp only [Int.reduceToNat] at ho15; rw [← Ny303.out] at ho15)); have n0_ := Aside0.mk (Kd.R_elder' (by (with_reducible repeat (first | apply Kd.R_alloc | apply Kd.R_drewN | apply Kd.R_drew)); exact HO295.out) (Kd.R_base ho15) hb); have n1_ := Aside0.mk (Kd.R_elder' (by (with_reducible repeat (first | apply Kd.R_alloc | apply Kd.R_drewN | apply Kd.R_drew)); exact HO298.out) (Kd.R_base ho15) hb); have n2_ := Aside0.mk (Kd.R_elder' (by (with_reducible repeat (first | apply Kd.R_alloc | apply Kd.R_drewN | apply Kd.R_drew)); exact HO301.out) (Kd.R_base ho15) hb); have n3_ := Aside0.mk (Kd.R_lower (Kd.R_new' (Kd.R_new' (Kd.R_new' ho15 (Kd.R_lt (by (with_reducible repeat (first | apply Kd.R_alloc | apply Kd.R_drewN | apply Kd.R_drew)); exact HO295.out))) (Kd.R_lt (by (with_reducible repeat (first | apply Kd.R_alloc | apply Kd.R_drewN | apply Kd.R_drew)); exact HO298.out))) (Kd.R_lt (by (with_reducible repeat (first | apply Kd.R_alloc | apply Kd.R_drewN | apply Kd.R_drew)); exact HO301.out))) (below_size (by repeat (first | (with_reducible first | exact HB.out | apply below_alloc | apply pw_below_drewN | apply below_drew1) | exact HB.out)))); have n4_ := Aside0.mk (below_step (by repeat (first | (with_reducible first | exact HB.out | apply below_alloc | apply pw_below_drewN | apply below_drew1) | exact HB.out)) hb); clear HO295; clear HO298; clear HO301; clear HB; have HO295 := n0_; have HO298 := n1_; have HO301 := n2_; have HO305 := n3_; have HB := n4_; clear n0_ n1_ n2_ n3_ n4_; clear hb ho15; obtain ⟨Ao16, co16, eo16⟩ := Kd.R_slice HO305.out; subst eo16) | ((with_reducible refine gate_callee (f := 48) rfl ?_); refine goesL_ (some 23) rfl rfl Try.func48 (by kernel_rfl) rfl #[.slice Ao12 t293.length co12, .slice Ao16 y303.length co16] rfl (by (try simp only [List.map_toArray, List.map_cons, List.map_nil]); first | done | rfl | (simp only [List.length_drop, List.length_take]; rfl)) ?_; (with_reducible refine (clepsydraref03_cmp.calls _ _ t293 _ _ y303 t306 _ ?side1 ?side2 ?side3 ?side4 A6.out).mono ?_); (case side1 => repeat (first | exact (Kd.R_reads' HO295.out).2.2 | (with_reducible refine Kd.C_alloc ?_ _) | (with_reducible refine Kd.C_drewN ?_ _) | (with_reducible refine Kd.C_drew ?_))); (case side2 => exact (Kd.R_reads' HO295.out).2.1); (case side3 => repeat (first | exact (Kd.R_reads' HO305.out).2.2 | (with_reducible refine Kd.C_alloc ?_ _) | (with_reducible refine Kd.C_drewN ?_ _) | (with_reducible refine Kd.C_drew ?_))); (case side4 => exact (Kd.R_reads' HO305.out).2.1); rintro e w' ⟨rfl, ⟨nd, rfl⟩⟩; refine ⟨_, rfl, ?_⟩))
    go_ret
    exact ⟨by first | rfl | (simp [errW_none, errW_some] <;> rfl) | (simp [*, errW_none, errW_some] <;> rfl), by repeat (first | (with_reducible first | exact HB.out | apply below_alloc | apply pw_below_drewN | apply below_drew1) | exact HB.out)⟩
  · rw [if_neg c5] at H
    have c5b0 : decide (t302 ≤ 0) = false := decide_eq_false c5
    clear c5
    replace H := Option.bind_eq_some_iff.mp H
    obtain ⟨t307, A170, H⟩ := H
    replace H : (if t307 = 0 then (some true) else ((clepsydraref03_minus.f k t293 y296).bind fun t308 => (clepsydraref03_Tells.l0 k a1 t293 y296 t308 t308 0))) = some r := H
    have A17 := Aside0.mk A170
    clear A170
    by_cases c18 : t307 = 0
    · rw [if_pos c18] at H
      have c18b0 : (t307 == 0) = true := beq_iff_eq.mpr c18
      have c18b1 : (t307 != 0) = false := bne_eq_false_iff_eq.mpr c18
      clear c18
      obtain rfl := Option.some.inj H
      simp only [Option.some.injEq, Prod.mk.injEq] at H
      obtain ⟨rfl⟩ := H
      go_enter Try.func30, Try.ntmps30
      go_wp2_with (first | ((with_reducible refine gate_callee (f := 36) rfl ?_); refine goesL_ (some 15) rfl rfl Try.func36 (by kernel_rfl) rfl #[.slice A0 l0.length c0] rfl (by (try simp only [List.map_toArray, List.map_cons, List.map_nil]); first | done | rfl | (simp only [List.length_drop, List.length_take]; rfl)) ?_; (with_reducible refine (clepsydraref03_Digits.calls k _ _ l0 t293 _ ?side1 ?side2 A3.out).mono ?_); (case side1 => repeat (first | exact HR0.out | (with_reducible refine Kd.C_alloc ?_ _) | (with_reducible refine Kd.C_drewN ?_ _) | (with_reducible refine Kd.C_drew ?_))); (case side2 => exact HC0.out); rintro e w19 ⟨v294, rfl, ho0, hb⟩; refine ⟨_, rfl, ?_⟩; have n0_ := Aside0.mk (Kd.R_lower ho0 (below_size (by repeat (first | (with_reducible first | exact HB.out | apply below_alloc | apply pw_below_drewN | apply below_drew1) | exact HB.out)))); have n1_ := Aside0.mk (below_step (by repeat (first | (with_reducible first | exact HB.out | apply below_alloc | apply pw_below_drewN | apply below_drew1) | exact HB.out)) hb); clear HB; have HO295 := n0_; have HB := n1_; clear n0_ n1_; (try clear hb); (try clear hb2); (try clear hk); (try clear hi); (try clear ho0)) | ((with_reducible refine gate_dst (N := 16) rfl ?_); refine Kd.R_lit (Kd.int .i64) _ 3 ?hg (N := 16) ?hd (xs := ([1] : List Int)) (inner := [.int .i64 1]) (ok := fun _ => True) (okp := fun _ => True) ?hr ?hp (fun _ hk => hk) trivial (Below.refl _ _) (Nat.le_refl _) (by simp) ?_; (case hd => rfl); (case hg => rfl); (case hr => first | (go_simp; done) | (go_simp; rfl)); (case hp => exact (Reps.one (show Kd.M (Kd.int .i64) _ _ _ 1 [.int .i64 1] from rfl) (Reps.none _ _))); intro v297 w20 ho21 hb hg_ hnew_; clear hg_ hnew_; (first | rw [← Ny296.out] at ho21 | (simp only [Int.reduceToNat] at ho21; rw [← Ny296.out] at ho21)); have n0_ := Aside0.mk (Kd.R_elder' (by (with_reducible repeat (first | apply Kd.R_alloc | apply Kd.R_drewN | apply Kd.R_drew)); exact HO295.out) (Kd.R_base ho21) hb); have n1_ := Aside0.mk (Kd.R_lower (Kd.R_new' ho21 (Kd.R_lt (by (with_reducible repeat (first | apply Kd.R_alloc | apply Kd.R_drewN | apply Kd.R_drew)); exact HO295.out))) (below_size (by repeat (first | (with_reducible first | exact HB.out | apply below_alloc | apply pw_below_drewN | apply below_drew1) | exact HB.out)))); have n2_ := Aside0.mk (below_step (by repeat (first | (with_reducible first | exact HB.out | apply below_alloc | apply pw_below_drewN | apply below_drew1) | exact HB.out)) hb); clear HO295; clear HB; have HO295 := n0_; have HO298 := n1_; have HB := n2_; clear n0_ n1_ n2_; clear hb ho21) | ((with_reducible refine gate_dst (N := 18) rfl ?_); refine Kd.R_lit (Kd.int .i64) _ 3 ?hg (N := 18) ?hd (xs := ([2] : List Int)) (inner := [.int .i64 2]) (ok := fun _ => True) (okp := fun _ => True) ?hr ?hp (fun _ hk => hk) trivial (Below.refl _ _) (Nat.le_refl _) (by simp) ?_; (case hd => rfl); (case hg => rfl); (case hr => first | (go_simp; done) | (go_simp; rfl)); (case hp => exact (Reps.one (show Kd.M (Kd.int .i64) _ _ _ 2 [.int .i64 2] from rfl) (Reps.none _ _))); intro v300 w22 ho23 hb hg_ hnew_; clear hg_ hnew_; (first | rw [← Ny299.out] at ho23 | (simp only [Int.reduceToNat] at ho23; rw [← Ny299.out] at ho23)); have n0_ := Aside0.mk (Kd.R_elder' (by (with_reducible repeat (first | apply Kd.R_alloc | apply Kd.R_drewN | apply Kd.R_drew)); exact HO295.out) (Kd.R_base ho23) hb); have n1_ := Aside0.mk (Kd.R_elder' (by (with_reducible repeat (first | apply Kd.R_alloc | apply Kd.R_drewN | apply Kd.R_drew)); exact HO298.out) (Kd.R_base ho23) hb); have n2_ := Aside0.mk (Kd.R_lower (Kd.R_new' (Kd.R_new' ho23 (Kd.R_lt (by (with_reducible repeat (first | apply Kd.R_alloc | apply Kd.R_drewN | apply Kd.R_drew)); exact HO295.out))) (Kd.R_lt (by (with_reducible repeat (first | apply Kd.R_alloc | apply Kd.R_drewN | apply Kd.R_drew)); exact HO298.out))) (below_size (by repeat (first | (with_reducible first | exact HB.out | apply below_alloc | apply pw_below_drewN | apply below_drew1) | exact HB.out)))); have n3_ := Aside0.mk (below_step (by repeat (first | (with_reducible first | exact HB.out | apply below_alloc | apply pw_below_drewN | apply below_drew1) | exact HB.out)) hb); clear HO295; clear HO298; clear HB; have HO295 := n0_; have HO298 := n1_; have HO301 := n2_; have HB := n3_; clear n0_ n1_ n2_ n3_; clear hb ho23; obtain ⟨Ao24, co24, eo24⟩ := Kd.R_slice HO295.out; subst eo24; obtain ⟨Ao25, co25, eo25⟩ := Kd.R_slice HO301.out; subst eo25) | ((with_reducible refine gate_callee (f := 48) rfl ?_); refine goesL_ (some 19) rfl rfl Try.func48 (by kernel_rfl) rfl #[.slice Ao24 t293.length co24, .slice Ao25 y299.length co25] rfl (by (try simp only [List.map_toArray, List.map_cons, List.map_nil]); first | done | rfl | (simp only [List.length_drop, List.length_take]; rfl)) ?_; (with_reducible refine (clepsydraref03_cmp.calls _ _ t293 _ _ y299 t302 _ ?side1 ?side2 ?side3 ?side4 A4.out).mono ?_); (case side1 => repeat (first | exact (Kd.R_reads' HO295.out).2.2 | (with_reducible refine Kd.C_alloc ?_ _) | (with_reducible refine Kd.C_drewN ?_ _) | (with_reducible refine Kd.C_drew ?_))); (case side2 => exact (Kd.R_reads' HO295.out).2.1); (case side3 => repeat (first | exact (Kd.R_reads' HO301.out).2.2 | (with_reducible refine Kd.C_alloc ?_ _) | (with_reducible refine Kd.C_drewN ?_ _) | (with_reducible refine Kd.C_drew ?_))); (case side4 => exact (Kd.R_reads' HO301.out).2.1); rintro e w' ⟨rfl, ⟨nd, rfl⟩⟩; refine ⟨_, rfl, ?_⟩) | ((with_reducible refine gate_callee (f := 56) rfl ?_); refine goesL_ (some 26) rfl rfl Try.func56 (by kernel_rfl) rfl #[.slice Ao24 t293.length co24, .int .i64 0] rfl (by (try simp only [List.map_toArray, List.map_cons, List.map_nil]); first | done | rfl | (simp only [List.length_drop, List.length_take]; rfl)) ?_; (with_reducible refine (clepsydraref03_bit.calls _ _ t293 0 t307 _ ?side1 ?side2 A17.out).mono ?_); (case side1 => repeat (first | exact (Kd.R_reads' HO295.out).2.2 | (with_reducible refine Kd.C_alloc ?_ _) | (with_reducible refine Kd.C_drewN ?_ _) | (with_reducible refine Kd.C_drew ?_))); (case side2 => exact (Kd.R_reads' HO295.out).2.1); rintro e w' ⟨rfl, ⟨nd, rfl⟩⟩; refine ⟨_, rfl, ?_⟩))
      go_ret
      exact ⟨by first | rfl | (simp [errW_none, errW_some] <;> rfl) | (simp [*, errW_none, errW_some] <;> rfl), by repeat (first | (with_reducible first | exact HB.out | apply below_alloc | apply pw_below_drewN | apply below_drew1) | exact HB.out)⟩
    · rw [if_neg c18] at H
      have c18b0 : (t307 == 0) = false := beq_eq_false_iff_ne.mpr c18
      have c18b1 : (t307 != 0) = true := bne_iff_ne.mpr c18
      replace H := Option.bind_eq_some_iff.mp H
      obtain ⟨t308, A260, H⟩ := H
      replace H : (clepsydraref03_Tells.l0 k a1 t293 y296 t308 t308 0) = some r := H
      have A26 := Aside0.mk A260
      clear A260
      have H' := Aside0.mk H
      clear H
      go_enter Try.func30, Try.ntmps30
      go_wp2_with (first | ((with_reducible refine gate_callee (f := 36) rfl ?_); refine goesL_ (some 15) rfl rfl Try.func36 (by kernel_rfl) rfl #[.slice A0 l0.length c0] rfl (by (try simp only [List.map_toArray, List.map_cons, List.map_nil]); first | done | rfl | (simp only [List.length_drop, List.length_take]; rfl)) ?_; (with_reducible refine (clepsydraref03_Digits.calls k _ _ l0 t293 _ ?side1 ?side2 A3.out).mono ?_); (case side1 => repeat (first | exact HR0.out | (with_reducible refine Kd.C_alloc ?_ _) | (with_reducible refine Kd.C_drewN ?_ _) | (with_reducible refine Kd.C_drew ?_))); (case side2 => exact HC0.out); rintro e w27 ⟨v294, rfl, ho0, hb⟩; refine ⟨_, rfl, ?_⟩; have n0_ := Aside0.mk (Kd.R_lower ho0 (below_size (by repeat (first | (with_reducible first | exact HB.out | apply below_alloc | apply pw_below_drewN | apply below_drew1) | exact HB.out)))); have n1_ := Aside0.mk (below_step (by repeat (first | (with_reducible first | exact HB.out | apply below_alloc | apply pw_below_drewN | apply below_drew1) | exact HB.out)) hb); clear HB; have HO295 := n0_; have HB := n1_; clear n0_ n1_; (try clear hb); (try clear hb2); (try clear hk); (try clear hi); (try clear ho0)) | ((with_reducible refine gate_dst (N := 16) rfl ?_); refine Kd.R_lit (Kd.int .i64) _ 3 ?hg (N := 16) ?hd (xs := ([1] : List Int)) (inner := [.int .i64 1]) (ok := fun _ => True) (okp := fun _ => True) ?hr ?hp (fun _ hk => hk) trivial (Below.refl _ _) (Nat.le_refl _) (by simp) ?_; (case hd => rfl); (case hg => rfl); (case hr => first | (go_simp; done) | (go_simp; rfl)); (case hp => exact (Reps.one (show Kd.M (Kd.int .i64) _ _ _ 1 [.int .i64 1] from rfl) (Reps.none _ _))); intro v297 w28 ho29 hb hg_ hnew_; clear hg_ hnew_; (first | rw [← Ny296.out] at ho29 | (simp only [Int.reduceToNat] at ho29; rw [← Ny296.out] at ho29)); have n0_ := Aside0.mk (Kd.R_elder' (by (with_reducible repeat (first | apply Kd.R_alloc | apply Kd.R_drewN | apply Kd.R_drew)); exact HO295.out) (Kd.R_base ho29) hb); have n1_ := Aside0.mk (Kd.R_lower (Kd.R_new' ho29 (Kd.R_lt (by (with_reducible repeat (first | apply Kd.R_alloc | apply Kd.R_drewN | apply Kd.R_drew)); exact HO295.out))) (below_size (by repeat (first | (with_reducible first | exact HB.out | apply below_alloc | apply pw_below_drewN | apply below_drew1) | exact HB.out)))); have n2_ := Aside0.mk (below_step (by repeat (first | (with_reducible first | exact HB.out | apply below_alloc | apply pw_below_drewN | apply below_drew1) | exact HB.out)) hb); clear HO295; clear HB; have HO295 := n0_; have HO298 := n1_; have HB := n2_; clear n0_ n1_ n2_; clear hb ho29) | ((with_reducible refine gate_dst (N := 18) rfl ?_); refine Kd.R_lit (Kd.int .i64) _ 3 ?hg (N := 18) ?hd (xs := ([2] : List Int)) (inner := [.int .i64 2]) (ok := fun _ => True) (okp := fun _ => True) ?hr ?hp (fun _ hk => hk) trivial (Below.refl _ _) (Nat.le_refl _) (by simp) ?_; (case hd => rfl); (case hg => rfl); (case hr => first | (go_simp; done) | (go_simp; rfl)); (case hp => exact (Reps.one (show Kd.M (Kd.int .i64) _ _ _ 2 [.int .i64 2] from rfl) (Reps.none _ _))); intro v300 w30 ho31 hb hg_ hnew_; clear hg_ hnew_; (first | rw [← Ny299.out] at ho31 | (simp only [Int.reduceToNat] at ho31; rw [← Ny299.out] at ho31)); have n0_ := Aside0.mk (Kd.R_elder' (by (with_reducible repeat (first | apply Kd.R_alloc | apply Kd.R_drewN | apply Kd.R_drew)); exact HO295.out) (Kd.R_base ho31) hb); have n1_ := Aside0.mk (Kd.R_elder' (by (with_reducible repeat (first | apply Kd.R_alloc | apply Kd.R_drewN | apply Kd.R_drew)); exact HO298.out) (Kd.R_base ho31) hb); have n2_ := Aside0.mk (Kd.R_lower (Kd.R_new' (Kd.R_new' ho31 (Kd.R_lt (by (with_reducible repeat (first | apply Kd.R_alloc | apply Kd.R_drewN | apply Kd.R_drew)); exact HO295.out))) (Kd.R_lt (by (with_reducible repeat (first | apply Kd.R_alloc | apply Kd.R_drewN | apply Kd.R_drew)); exact HO298.out))) (below_size (by repeat (first | (with_reducible first | exact HB.out | apply below_alloc | apply pw_below_drewN | apply below_drew1) | exact HB.out)))); have n3_ := Aside0.mk (below_step (by repeat (first | (with_reducible first | exact HB.out | apply below_alloc | apply pw_below_drewN | apply below_drew1) | exact HB.out)) hb); clear HO295; clear HO298; clear HB; have HO295 := n0_; have HO298 := n1_; have HO301 := n2_; have HB := n3_; clear n0_ n1_ n2_ n3_; clear hb ho31; obtain ⟨Ao32, co32, eo32⟩ := Kd.R_slice HO295.out; subst eo32; obtain ⟨Ao33, co33, eo33⟩ := Kd.R_slice HO301.out; subst eo33) | ((with_reducible refine gate_callee (f := 48) rfl ?_); refine goesL_ (some 19) rfl rfl Try.func48 (by kernel_rfl) rfl #[.slice Ao32 t293.length co32, .slice Ao33 y299.length co33] rfl (by (try simp only [List.map_toArray, List.map_cons, List.map_nil]); first | done | rfl | (simp only [List.length_drop, List.length_take]; rfl)) ?_; (with_reducible refine (clepsydraref03_cmp.calls _ _ t293 _ _ y299 t302 _ ?side1 ?side2 ?side3 ?side4 A4.out).mono ?_); (case side1 => repeat (first | exact (Kd.R_reads' HO295.out).2.2 | (with_reducible refine Kd.C_alloc ?_ _) | (with_reducible refine Kd.C_drewN ?_ _) | (with_reducible refine Kd.C_drew ?_))); (case side2 => exact (Kd.R_reads' HO295.out).2.1); (case side3 => repeat (first | exact (Kd.R_reads' HO301.out).2.2 | (with_reducible refine Kd.C_alloc ?_ _) | (with_reducible refine Kd.C_drewN ?_ _) | (with_reducible refine Kd.C_drew ?_))); (case side4 => exact (Kd.R_reads' HO301.out).2.1); rintro e w' ⟨rfl, ⟨nd, rfl⟩⟩; refine ⟨_, rfl, ?_⟩) | ((with_reducible refine gate_callee (f := 56) rfl ?_); refine goesL_ (some 26) rfl rfl Try.func56 (by kernel_rfl) rfl #[.slice Ao32 t293.length co32, .int .i64 0] rfl (by (try simp only [List.map_toArray, List.map_cons, List.map_nil]); first | done | rfl | (simp only [List.length_drop, List.length_take]; rfl)) ?_; (with_reducible refine (clepsydraref03_bit.calls _ _ t293 0 t307 _ ?side1 ?side2 A17.out).mono ?_); (case side1 => repeat (first | exact (Kd.R_reads' HO295.out).2.2 | (with_reducible refine Kd.C_alloc ?_ _) | (with_reducible refine Kd.C_drewN ?_ _) | (with_reducible refine Kd.C_drew ?_))); (case side2 => exact (Kd.R_reads' HO295.out).2.1); rintro e w' ⟨rfl, ⟨nd, rfl⟩⟩; refine ⟨_, rfl, ?_⟩; obtain ⟨Ao34, co34, eo34⟩ := Kd.R_slice HO298.out; subst eo34) | ((with_reducible refine gate_callee (f := 46) rfl ?_); refine goesL_ (some 30) rfl rfl Try.func46 (by kernel_rfl) rfl #[.slice Ao32 t293.length co32, .slice Ao34 y296.length co34] rfl (by (try simp only [List.map_toArray, List.map_cons, List.map_nil]); first | done | rfl | (simp only [List.length_drop, List.length_take]; rfl)) ?_; (with_reducible refine (clepsydraref03_minus.calls k _ _ t293 _ _ y296 t308 _ ?side1 ?side2 ?side3 ?side4 A26.out).mono ?_); (case side1 => repeat (first | exact (Kd.R_reads' HO295.out).2.2 | (with_reducible refine Kd.C_alloc ?_ _) | (with_reducible refine Kd.C_drewN ?_ _) | (with_reducible refine Kd.C_drew ?_))); (case side2 => exact (Kd.R_reads' HO295.out).2.1); (case side3 => repeat (first | exact (Kd.R_reads' HO298.out).2.2 | (with_reducible refine Kd.C_alloc ?_ _) | (with_reducible refine Kd.C_drewN ?_ _) | (with_reducible refine Kd.C_drew ?_))); (case side4 => exact (Kd.R_reads' HO298.out).2.1); rintro e w35 ⟨v309, rfl, ho0, hb⟩; refine ⟨_, rfl, ?_⟩; have n0_ := Aside0.mk (Kd.R_elder' (by (with_reducible repeat (first | apply Kd.R_alloc | apply Kd.R_drewN | apply Kd.R_drew)); exact HO295.out) (Kd.R_base ho0) hb); have n1_ := Aside0.mk (Kd.R_elder' (by (with_reducible repeat (first | apply Kd.R_alloc | apply Kd.R_drewN | apply Kd.R_drew)); exact HO298.out) (Kd.R_base ho0) hb); have n2_ := Aside0.mk (Kd.R_elder' (by (with_reducible repeat (first | apply Kd.R_alloc | apply Kd.R_drewN | apply Kd.R_drew)); exact HO301.out) (Kd.R_base ho0) hb); have n3_ := Aside0.mk (Kd.R_lower (Kd.R_new' (Kd.R_new' (Kd.R_new' ho0 (Kd.R_lt (by (with_reducible repeat (first | apply Kd.R_alloc | apply Kd.R_drewN | apply Kd.R_drew)); exact HO295.out))) (Kd.R_lt (by (with_reducible repeat (first | apply Kd.R_alloc | apply Kd.R_drewN | apply Kd.R_drew)); exact HO298.out))) (Kd.R_lt (by (with_reducible repeat (first | apply Kd.R_alloc | apply Kd.R_drewN | apply Kd.R_drew)); exact HO301.out))) (below_size (by repeat (first | (with_reducible first | exact HB.out | apply below_alloc | apply pw_below_drewN | apply below_drew1) | exact HB.out)))); have n4_ := Aside0.mk (below_step (by repeat (first | (with_reducible first | exact HB.out | apply below_alloc | apply pw_below_drewN | apply below_drew1) | exact HB.out)) hb); clear HO295; clear HO298; clear HO301; clear HB; have HO295 := n0_; have HO298 := n1_; have HO301 := n2_; have HO310 := n3_; have HB := n4_; clear n0_ n1_ n2_ n3_ n4_; (try clear hb); (try clear hb2); (try clear hk); (try clear hi); (try clear ho0)))
      go_loopg [8, 9] k (fun kq v8 v9 w' => ∃ (x8_1 : List Int) (x9_1 : Int), v9 = .int .i64 x9_1 ∧ Aside0 (clepsydraref03_Tells.l0 kq a1 t293 y296 t308 x8_1 x9_1 = some r) ∧ Aside0 (kq ≤ k) ∧ Aside0 (Kd.R (Kd.int .i64) 3 w' w.heap.size (fun k_ => some k_ ≠ ((.slice Ao34 y296.length co34) : Value).ownBlock ∧ some k_ ≠ (v309 : Value).ownBlock ∧ some k_ ≠ (v8 : Value).ownBlock) (.slice Ao32 t293.length co32) t293) ∧ Aside0 (Kd.R (Kd.int .i64) 3 w' w.heap.size (fun k_ => some k_ ≠ ((.slice Ao32 t293.length co32) : Value).ownBlock ∧ some k_ ≠ (v309 : Value).ownBlock ∧ some k_ ≠ (v8 : Value).ownBlock) (.slice Ao34 y296.length co34) y296) ∧ Aside0 (Kd.R (Kd.int .i64) 3 w' w.heap.size (fun k_ => some k_ ≠ ((.slice Ao32 t293.length co32) : Value).ownBlock ∧ some k_ ≠ ((.slice Ao34 y296.length co34) : Value).ownBlock) v309 t308) ∧ Aside0 (Kd.R (Kd.int .i64) 3 w' w.heap.size (fun k_ => some k_ ≠ ((.slice Ao32 t293.length co32) : Value).ownBlock ∧ some k_ ≠ ((.slice Ao34 y296.length co34) : Value).ownBlock) v8 x8_1) ∧ Aside0 (Below w.heap.size w w'))
      case atStart => exact ⟨(t308), (0), (by first | rfl | (simp; done) | (simp [*]; done)), H', ⟨Nat.le_refl _⟩, ⟨by (with_reducible repeat (first | apply Kd.R_alloc | apply Kd.R_drewN | apply Kd.R_drew)); exact Kd.R_mono HO295.out (fun _ hk => by first | exact ⟨hk.1.1.2, ⟨hk.2, hk.2⟩⟩ | grind)⟩, ⟨by (with_reducible repeat (first | apply Kd.R_alloc | apply Kd.R_drewN | apply Kd.R_drew)); exact Kd.R_mono HO298.out (fun _ hk => by first | exact ⟨hk.1.1.2, ⟨hk.2, hk.2⟩⟩ | grind)⟩, ⟨by (with_reducible repeat (first | apply Kd.R_alloc | apply Kd.R_drewN | apply Kd.R_drew)); exact Kd.R_mono HO310.out (fun _ hk => by first | exact ⟨hk.1.1.2, hk.1.2⟩ | grind)⟩, ⟨by (with_reducible repeat (first | apply Kd.R_alloc | apply Kd.R_drewN | apply Kd.R_drew)); exact Kd.R_mono HO310.out (fun _ hk => by first | exact ⟨hk.1.1.2, hk.1.2⟩ | grind)⟩, ⟨by repeat (first | (with_reducible first | exact HB.out | apply below_alloc | apply pw_below_drewN | apply below_drew1) | exact HB.out)⟩⟩
      case round =>
        clear H'
        try clear c1
        try clear p2
        try clear c3
        try clear c4
        try clear c5
        try clear c5b0
        try clear c18
        try clear c18b0
        try clear c18b1
        try clear c30
        obtain ⟨x8_1, x9_1, rfl, HA, HK1, HO_5, HO_6, HO_7, HO_8, HB⟩ := hrel
        cases gk with
        | zero => exact absurd HA.out (by simp [clepsydraref03_Tells.l0])
        | succ k1 =>
          have H := HA.out
          clear HA
          simp only [clepsydraref03_Tells.l0] at H
          replace H := Option.bind_eq_some_iff.mp H
          obtain ⟨t311, A360, H⟩ := H
          replace H : (if t311 = 0 then ((clepsydraref03_parted.f x8_1 (([2] : List Int))).bind fun bt315 => (clepsydraref03_Tells.l0 k1 a1 t293 y296 t308 bt315.1 (wrap64 (x9_1 + 1)))) else ((clepsydraref03_Digits.f k1 (([a1] : List Int))).bind fun t324 => ((clepsydraref03_parted.f t324 t293).bind fun bt327 => (if (bt327.2.length : Int) = 0 then (some false) else ((clepsydraref03_power.f k1 bt327.2 x8_1 t293).bind fun t333 => ((clepsydraref03_cmp.f t333 y296).bind fun t336 => (if t336 = 0 then (some false) else (clepsydraref03_Tells.l1 k1 t293 t308 x9_1 t333 0)))))))) = some r := H
          have A36 := Aside0.mk A360
          clear A360
          by_cases c37 : t311 = 0
          · rw [if_pos c37] at H
            have c37b0 : (t311 == 0) = true := beq_iff_eq.mpr c37
            have c37b1 : (t311 != 0) = false := bne_eq_false_iff_eq.mpr c37
            clear c37
            obtain ⟨y312, hy312⟩ : ∃ y_ : List Int, y_ = (([2] : List Int)) := ⟨_, rfl⟩
            replace H : ((clepsydraref03_parted.f x8_1 y312).bind fun bt315 => (clepsydraref03_Tells.l0 k1 a1 t293 y296 t308 bt315.1 (wrap64 (x9_1 + 1)))) = some r := by first | (rw [hy312]; with_reducible exact H) | (have H2_ := (Option.bind_some _ _).symm.trans H; rw [hy312]; with_reducible exact H2_) | (have H2_ := (Option.bind_some _ _).symm.trans H; with_reducible exact H2_) | with_reducible exact H | (rw [hy312]; exact H) | exact H
            have Ny312 := Aside0.mk hy312
            clear hy312
            replace H := Option.bind_eq_some_iff.mp H
            obtain ⟨⟨t315, t316⟩, A380, H⟩ := H
            replace H : (clepsydraref03_Tells.l0 k1 a1 t293 y296 t308 t315 (wrap64 (x9_1 + 1))) = some r := H
            have A38 := Aside0.mk A380
            clear A380
            have H' := Aside0.mk H
            clear H
            obtain ⟨Ao39, co39, eo39⟩ := Kd.R_slice HO_8.out
            subst eo39
            go_wp2_with (first | ((with_reducible refine gate_callee (f := 56) rfl ?_); refine goesL_ (some 33) rfl rfl Try.func56 (by kernel_rfl) rfl #[.slice Ao39 x8_1.length co39, .int .i64 0] rfl (by (try simp only [List.map_toArray, List.map_cons, List.map_nil]); first | done | rfl | (simp only [List.length_drop, List.length_take]; rfl)) ?_; (with_reducible refine (clepsydraref03_bit.calls _ _ x8_1 0 t311 _ ?side1 ?side2 A36.out).mono ?_); (case side1 => repeat (first | exact (Kd.R_reads' HO_8.out).2.2 | (with_reducible refine Kd.C_alloc ?_ _) | (with_reducible refine Kd.C_drewN ?_ _) | (with_reducible refine Kd.C_drew ?_))); (case side2 => exact (Kd.R_reads' HO_8.out).2.1); rintro e w' ⟨rfl, ⟨nd, rfl⟩⟩; refine ⟨_, rfl, ?_⟩) | ((with_reducible refine gate_dst (N := 37) rfl ?_); refine Kd.R_lit (Kd.int .i64) _ 3 ?hg (N := 37) ?hd (xs := ([2] : List Int)) (inner := [.int .i64 2]) (ok := fun _ => True) (okp := fun _ => True) ?hr ?hp (fun _ hk => hk) trivial (Below.refl _ _) (Nat.le_refl _) (by simp) ?_; (case hd => rfl); (case hg => rfl); (case hr => first | (go_simp; done) | (go_simp; rfl)); (case hp => exact (Reps.one (show Kd.M (Kd.int .i64) _ _ _ 2 [.int .i64 2] from rfl) (Reps.none _ _))); intro v313 w40 ho41 hb hg_ hnew_; clear hg_ hnew_; (first | rw [← Ny312.out] at ho41 | (simp only [Int.reduceToNat] at ho41; rw [← Ny312.out] at ho41)); have n0_ := Aside0.mk (Kd.R_elder' (by (with_reducible repeat (first | apply Kd.R_alloc | apply Kd.R_drewN | apply Kd.R_drew)); exact HO_5.out) (Kd.R_base ho41) hb); have n1_ := Aside0.mk (Kd.R_elder' (by (with_reducible repeat (first | apply Kd.R_alloc | apply Kd.R_drewN | apply Kd.R_drew)); exact HO_6.out) (Kd.R_base ho41) hb); have n2_ := Aside0.mk (Kd.R_elder' (by (with_reducible repeat (first | apply Kd.R_alloc | apply Kd.R_drewN | apply Kd.R_drew)); exact HO_7.out) (Kd.R_base ho41) hb); have n3_ := Aside0.mk (Kd.R_elder' (by (with_reducible repeat (first | apply Kd.R_alloc | apply Kd.R_drewN | apply Kd.R_drew)); exact HO_8.out) (Kd.R_base ho41) hb); have n4_ := Aside0.mk (Kd.R_lower (Kd.R_new' (Kd.R_new' (Kd.R_new' (Kd.R_new' ho41 (Kd.R_lt (by (with_reducible repeat (first | apply Kd.R_alloc | apply Kd.R_drewN | apply Kd.R_drew)); exact HO_5.out))) (Kd.R_lt (by (with_reducible repeat (first | apply Kd.R_alloc | apply Kd.R_drewN | apply Kd.R_drew)); exact HO_6.out))) (Kd.R_lt (by (with_reducible repeat (first | apply Kd.R_alloc | apply Kd.R_drewN | apply Kd.R_drew)); exact HO_7.out))) (Kd.R_lt (by (with_reducible repeat (first | apply Kd.R_alloc | apply Kd.R_drewN | apply Kd.R_drew)); exact HO_8.out))) (below_size (by repeat (first | (with_reducible first | exact HB.out | apply below_alloc | apply pw_below_drewN | apply below_drew1) | exact HB.out)))); have n5_ := Aside0.mk (below_step (by repeat (first | (with_reducible first | exact HB.out | apply below_alloc | apply pw_below_drewN | apply below_drew1) | exact HB.out)) hb); clear HO_5; clear HO_6; clear HO_7; clear HO_8; clear HB; have HO_5 := n0_; have HO_6 := n1_; have HO_7 := n2_; have HO_8 := n3_; have HO314 := n4_; have HB := n5_; clear n0_ n1_ n2_ n3_ n4_ n5_; clear hb ho41; obtain ⟨Ao42, co42, eo42⟩ := Kd.R_slice HO314.out; subst eo42) | ((with_reducible refine gate_callee (f := 37) rfl ?_); refine goesL_ (some 38) rfl rfl Try.func37 (by kernel_rfl) rfl #[.slice Ao39 x8_1.length co39, .slice Ao42 y312.length co42] rfl (by (try simp only [List.map_toArray, List.map_cons, List.map_nil]); first | done | rfl | (simp only [List.length_drop, List.length_take]; rfl)) ?_; (with_reducible refine (clepsydraref03_parted.calls _ _ x8_1 _ _ y312 t315 t316 _ ?side1 ?side2 ?side3 ?side4 A38.out).mono ?_); (case side1 => repeat (first | exact (Kd.R_reads' HO_8.out).2.2 | (with_reducible refine Kd.C_alloc ?_ _) | (with_reducible refine Kd.C_drewN ?_ _) | (with_reducible refine Kd.C_drew ?_))); (case side2 => exact (Kd.R_reads' HO_8.out).2.1); (case side3 => repeat (first | exact (Kd.R_reads' HO314.out).2.2 | (with_reducible refine Kd.C_alloc ?_ _) | (with_reducible refine Kd.C_drewN ?_ _) | (with_reducible refine Kd.C_drew ?_))); (case side4 => exact (Kd.R_reads' HO314.out).2.1); rintro e w43 ⟨v317, v319, rfl, ho0, ho1, hb⟩; refine ⟨_, rfl, ?_⟩; have n0_ := Aside0.mk (Kd.R_mono (Kd.R_told (Kd.R_told (Kd.R_old (by (with_reducible repeat (first | apply Kd.R_alloc | apply Kd.R_drewN | apply Kd.R_drew)); exact HO_5.out) hb) (Kd.R_base ho0)) (Kd.R_base ho1)) (fun _ h_ => h_.1)); have n1_ := Aside0.mk (Kd.R_mono (Kd.R_told (Kd.R_told (Kd.R_old (by (with_reducible repeat (first | apply Kd.R_alloc | apply Kd.R_drewN | apply Kd.R_drew)); exact HO_6.out) hb) (Kd.R_base ho0)) (Kd.R_base ho1)) (fun _ h_ => h_.1)); have n2_ := Aside0.mk (Kd.R_mono (Kd.R_told (Kd.R_told (Kd.R_old (by (with_reducible repeat (first | apply Kd.R_alloc | apply Kd.R_drewN | apply Kd.R_drew)); exact HO_7.out) hb) (Kd.R_base ho0)) (Kd.R_base ho1)) (fun _ h_ => h_.1)); have n3_ := Aside0.mk (Kd.R_mono (Kd.R_told (Kd.R_told (Kd.R_old (by (with_reducible repeat (first | apply Kd.R_alloc | apply Kd.R_drewN | apply Kd.R_drew)); exact HO_8.out) hb) (Kd.R_base ho0)) (Kd.R_base ho1)) (fun _ h_ => h_.1)); have n4_ := Aside0.mk (Kd.R_mono (Kd.R_told (Kd.R_told (Kd.R_old (by (with_reducible repeat (first | apply Kd.R_alloc | apply Kd.R_drewN | apply Kd.R_drew)); exact HO314.out) hb) (Kd.R_base ho0)) (Kd.R_base ho1)) (fun _ h_ => h_.1)); have n5_ := Aside0.mk (Kd.R_lower (Kd.R_new' (Kd.R_new' (Kd.R_new' (Kd.R_new' (Kd.R_new' ho0 (Kd.R_lt (by (with_reducible repeat (first | apply Kd.R_alloc | apply Kd.R_drewN | apply Kd.R_drew)); exact HO_5.out))) (Kd.R_lt (by (with_reducible repeat (first | apply Kd.R_alloc | apply Kd.R_drewN | apply Kd.R_drew)); exact HO_6.out))) (Kd.R_lt (by (with_reducible repeat (first | apply Kd.R_alloc | apply Kd.R_drewN | apply Kd.R_drew)); exact HO_7.out))) (Kd.R_lt (by (with_reducible repeat (first | apply Kd.R_alloc | apply Kd.R_drewN | apply Kd.R_drew)); exact HO_8.out))) (Kd.R_lt (by (with_reducible repeat (first | apply Kd.R_alloc | apply Kd.R_drewN | apply Kd.R_drew)); exact HO314.out))) (below_size (by repeat (first | (with_reducible first | exact HB.out | apply below_alloc | apply pw_below_drewN | apply below_drew1) | exact HB.out)))); have n6_ := Aside0.mk (Kd.R_lower (Kd.R_new' (Kd.R_new' (Kd.R_new' (Kd.R_new' (Kd.R_new' ho1 (Kd.R_lt (by (with_reducible repeat (first | apply Kd.R_alloc | apply Kd.R_drewN | apply Kd.R_drew)); exact HO_5.out))) (Kd.R_lt (by (with_reducible repeat (first | apply Kd.R_alloc | apply Kd.R_drewN | apply Kd.R_drew)); exact HO_6.out))) (Kd.R_lt (by (with_reducible repeat (first | apply Kd.R_alloc | apply Kd.R_drewN | apply Kd.R_drew)); exact HO_7.out))) (Kd.R_lt (by (with_reducible repeat (first | apply Kd.R_alloc | apply Kd.R_drewN | apply Kd.R_drew)); exact HO_8.out))) (Kd.R_lt (by (with_reducible repeat (first | apply Kd.R_alloc | apply Kd.R_drewN | apply Kd.R_drew)); exact HO314.out))) (below_size (by repeat (first | (with_reducible first | exact HB.out | apply below_alloc | apply pw_below_drewN | apply below_drew1) | exact HB.out)))); have n7_ := Aside0.mk (below_step (by repeat (first | (with_reducible first | exact HB.out | apply below_alloc | apply pw_below_drewN | apply below_drew1) | exact HB.out)) hb); clear HO_5; clear HO_6; clear HO_7; clear HO_8; clear HO314; clear HB; have HO_5 := n0_; have HO_6 := n1_; have HO_7 := n2_; have HO_8 := n3_; have HO314 := n4_; have HO318 := n5_; have HO320 := n6_; have HB := n7_; clear n0_ n1_ n2_ n3_ n4_ n5_ n6_ n7_; (try clear hb); (try clear hb2); (try clear hk); (try clear hi); (try clear ho0); (try clear ho1)))
            go_roundg k1
            case measure => have := HK1.out; omega
            case rel => exact ⟨(t315), (wrap64 (x9_1 + 1)), (by first | rfl | (simp; done) | (simp [*]; done)), H', ⟨by have := HK1.out; omega⟩, ⟨by (with_reducible repeat (first | apply Kd.R_alloc | apply Kd.R_drewN | apply Kd.R_drew)); exact Kd.R_mono HO_5.out (fun _ hk => by first | exact ⟨hk.1.1.1.1, ⟨hk.1.1.1.2.1, hk.1.2⟩⟩ | grind)⟩, ⟨by (with_reducible repeat (first | apply Kd.R_alloc | apply Kd.R_drewN | apply Kd.R_drew)); exact Kd.R_mono HO_6.out (fun _ hk => by first | exact ⟨hk.1.1.1.1, ⟨hk.1.1.1.2.1, hk.1.2⟩⟩ | grind)⟩, ⟨by (with_reducible repeat (first | apply Kd.R_alloc | apply Kd.R_drewN | apply Kd.R_drew)); exact Kd.R_mono HO_7.out (fun _ hk => by first | exact ⟨hk.1.1.1.1, ⟨hk.1.1.1.2, hk.1.2⟩⟩ | grind)⟩, ⟨by (with_reducible repeat (first | apply Kd.R_alloc | apply Kd.R_drewN | apply Kd.R_drew)); exact Kd.R_mono HO318.out (fun _ hk => by first | exact ⟨hk.1.1.1.1.2, ⟨hk.1.1.1.2, hk.1.1.2⟩⟩ | grind)⟩, ⟨by repeat (first | (with_reducible first | exact HB.out | apply below_alloc | apply pw_below_drewN | apply below_drew1) | exact HB.out)⟩⟩
          · rw [if_neg c37] at H
            have c37b0 : (t311 == 0) = false := beq_eq_false_iff_ne.mpr c37
            have c37b1 : (t311 != 0) = true := bne_iff_ne.mpr c37
            obtain ⟨y321, hy321⟩ : ∃ y_ : List Int, y_ = (([a1] : List Int)) := ⟨_, rfl⟩
            replace H : ((clepsydraref03_Digits.f k1 y321).bind fun t324 => ((clepsydraref03_parted.f t324 t293).bind fun bt327 => (if (bt327.2.length : Int) = 0 then (some false) else ((clepsydraref03_power.f k1 bt327.2 x8_1 t293).bind fun t333 => ((clepsydraref03_cmp.f t333 y296).bind fun t336 => (if t336 = 0 then (some false) else (clepsydraref03_Tells.l1 k1 t293 t308 x9_1 t333 0))))))) = some r := by first | (rw [hy321]; with_reducible exact H) | (have H2_ := (Option.bind_some _ _).symm.trans H; rw [hy321]; with_reducible exact H2_) | (have H2_ := (Option.bind_some _ _).symm.trans H; with_reducible exact H2_) | with_reducible exact H | (rw [hy321]; exact H) | exact H
            have Ny321 := Aside0.mk hy321
            clear hy321
            replace H := Option.bind_eq_some_iff.mp H
            obtain ⟨t324, A440, H⟩ := H
            replace H : ((clepsydraref03_parted.f t324 t293).bind fun bt327 => (if (bt327.2.length : Int) = 0 then (some false) else ((clepsydraref03_power.f k1 bt327.2 x8_1 t293).bind fun t333 => ((clepsydraref03_cmp.f t333 y296).bind fun t336 => (if t336 = 0 then (some false) else (clepsydraref03_Tells.l1 k1 t293 t308 x9_1 t333 0)))))) = some r := H
            have A44 := Aside0.mk A440
            clear A440
            replace H := Option.bind_eq_some_iff.mp H
            obtain ⟨⟨t327, t328⟩, A450, H⟩ := H
            replace H : (if (t328.length : Int) = 0 then (some false) else ((clepsydraref03_power.f k1 t328 x8_1 t293).bind fun t333 => ((clepsydraref03_cmp.f t333 y296).bind fun t336 => (if t336 = 0 then (some false) else (clepsydraref03_Tells.l1 k1 t293 t308 x9_1 t333 0))))) = some r := H
            have A45 := Aside0.mk A450
            clear A450
            by_cases c46 : (t328.length : Int) = 0
            · rw [if_pos c46] at H
              have c46b0 : ((t328.length : Int) == 0) = true := beq_iff_eq.mpr c46
              have c46b1 : ((t328.length : Int) != 0) = false := bne_eq_false_iff_eq.mpr c46
              clear c46
              obtain rfl := Option.some.inj H
              simp only [Option.some.injEq, Prod.mk.injEq] at H
              obtain ⟨rfl⟩ := H
              obtain ⟨Ao47, co47, eo47⟩ := Kd.R_slice HO_8.out
              subst eo47
              go_wp2_with (first | ((with_reducible refine gate_callee (f := 56) rfl ?_); refine goesL_ (some 33) rfl rfl Try.func56 (by kernel_rfl) rfl #[.slice Ao47 x8_1.length co47, .int .i64 0] rfl (by (try simp only [List.map_toArray, List.map_cons, List.map_nil]); first | done | rfl | (simp only [List.length_drop, List.length_take]; rfl)) ?_; (with_reducible refine (clepsydraref03_bit.calls _ _ x8_1 0 t311 _ ?side1 ?side2 A36.out).mono ?_); (case side1 => repeat (first | exact (Kd.R_reads' HO_8.out).2.2 | (with_reducible refine Kd.C_alloc ?_ _) | (with_reducible refine Kd.C_drewN ?_ _) | (with_reducible refine Kd.C_drew ?_))); (case side2 => exact (Kd.R_reads' HO_8.out).2.1); rintro e w' ⟨rfl, ⟨nd, rfl⟩⟩; refine ⟨_, rfl, ?_⟩) | ((with_reducible refine gate_dst (N := 45) rfl ?_); refine Kd.R_lit (Kd.int .u64) _ 35 ?hg (N := 45) ?hd (xs := ([a1] : List Int)) (inner := [.int .u64 a1]) (ok := fun _ => True) (okp := fun _ => True) ?hr ?hp (fun _ hk => hk) trivial (Below.refl _ _) (Nat.le_refl _) (by simp) ?_; (case hd => rfl); (case hg => rfl); (case hr => first | (go_simp; done) | (go_simp; rfl)); (case hp => exact (Reps.one (show Kd.M (Kd.int .u64) _ _ _ a1 [.int .u64 a1] from rfl) (Reps.none _ _))); intro v322 w48 ho49 hb hg_ hnew_; clear hg_ hnew_; (first | rw [← Ny321.out] at ho49 | (simp only [Int.reduceToNat] at ho49; rw [← Ny321.out] at ho49)); have n0_ := Aside0.mk (Kd.R_below (by (with_reducible repeat (first | apply Kd.R_alloc | apply Kd.R_drewN | apply Kd.R_drew)); exact HO_5.out) hb); have n1_ := Aside0.mk (Kd.R_below (by (with_reducible repeat (first | apply Kd.R_alloc | apply Kd.R_drewN | apply Kd.R_drew)); exact HO_6.out) hb); have n2_ := Aside0.mk (Kd.R_below (by (with_reducible repeat (first | apply Kd.R_alloc | apply Kd.R_drewN | apply Kd.R_drew)); exact HO_7.out) hb); have n3_ := Aside0.mk (Kd.R_below (by (with_reducible repeat (first | apply Kd.R_alloc | apply Kd.R_drewN | apply Kd.R_drew)); exact HO_8.out) hb); have n4_ := Aside0.mk (Kd.R_lower ho49 (below_size (by repeat (first | (with_reducible first | exact HB.out | apply below_alloc | apply pw_below_drewN | apply below_drew1) | exact HB.out)))); have n5_ := Aside0.mk (below_step (by repeat (first | (with_reducible first | exact HB.out | apply below_alloc | apply pw_below_drewN | apply below_drew1) | exact HB.out)) hb); clear HO_5; clear HO_6; clear HO_7; clear HO_8; clear HB; have HO_5 := n0_; have HO_6 := n1_; have HO_7 := n2_; have HO_8 := n3_; have HO323 := n4_; have HB := n5_; clear n0_ n1_ n2_ n3_ n4_ n5_; clear hb ho49; obtain ⟨Ao50, co50, eo50⟩ := Kd.R_slice HO323.out; subst eo50) | ((with_reducible refine gate_callee (f := 36) rfl ?_); refine goesL_ (some 46) rfl rfl Try.func36 (by kernel_rfl) rfl #[.slice Ao50 y321.length co50] rfl (by (try simp only [List.map_toArray, List.map_cons, List.map_nil]); first | done | rfl | (simp only [List.length_drop, List.length_take]; rfl)) ?_; (with_reducible refine (clepsydraref03_Digits.calls k1 _ _ y321 t324 _ ?side1 ?side2 A44.out).mono ?_); (case side1 => repeat (first | exact (Kd.R_reads' HO323.out).2.2 | (with_reducible refine Kd.C_alloc ?_ _) | (with_reducible refine Kd.C_drewN ?_ _) | (with_reducible refine Kd.C_drew ?_))); (case side2 => exact (Kd.R_reads' HO323.out).2.1); rintro e w51 ⟨v325, rfl, ho0, hb⟩; refine ⟨_, rfl, ?_⟩; have n0_ := Aside0.mk (Kd.R_elder' (by (with_reducible repeat (first | apply Kd.R_alloc | apply Kd.R_drewN | apply Kd.R_drew)); exact HO_5.out) (Kd.R_base ho0) hb); have n1_ := Aside0.mk (Kd.R_elder' (by (with_reducible repeat (first | apply Kd.R_alloc | apply Kd.R_drewN | apply Kd.R_drew)); exact HO_6.out) (Kd.R_base ho0) hb); have n2_ := Aside0.mk (Kd.R_elder' (by (with_reducible repeat (first | apply Kd.R_alloc | apply Kd.R_drewN | apply Kd.R_drew)); exact HO_7.out) (Kd.R_base ho0) hb); have n3_ := Aside0.mk (Kd.R_elder' (by (with_reducible repeat (first | apply Kd.R_alloc | apply Kd.R_drewN | apply Kd.R_drew)); exact HO_8.out) (Kd.R_base ho0) hb); have n4_ := Aside0.mk (Kd.R_below (by (with_reducible repeat (first | apply Kd.R_alloc | apply Kd.R_drewN | apply Kd.R_drew)); exact HO323.out) hb); have n5_ := Aside0.mk (Kd.R_lower (Kd.R_new' (Kd.R_new' (Kd.R_new' (Kd.R_new' ho0 (Kd.R_lt (by (with_reducible repeat (first | apply Kd.R_alloc | apply Kd.R_drewN | apply Kd.R_drew)); exact HO_5.out))) (Kd.R_lt (by (with_reducible repeat (first | apply Kd.R_alloc | apply Kd.R_drewN | apply Kd.R_drew)); exact HO_6.out))) (Kd.R_lt (by (with_reducible repeat (first | apply Kd.R_alloc | apply Kd.R_drewN | apply Kd.R_drew)); exact HO_7.out))) (Kd.R_lt (by (with_reducible repeat (first | apply Kd.R_alloc | apply Kd.R_drewN | apply Kd.R_drew)); exact HO_8.out))) (below_size (by repeat (first | (with_reducible first | exact HB.out | apply below_alloc | apply pw_below_drewN | apply below_drew1) | exact HB.out)))); have n6_ := Aside0.mk (below_step (by repeat (first | (with_reducible first | exact HB.out | apply below_alloc | apply pw_below_drewN | apply below_drew1) | exact HB.out)) hb); clear HO_5; clear HO_6; clear HO_7; clear HO_8; clear HO323; clear HB; have HO_5 := n0_; have HO_6 := n1_; have HO_7 := n2_; have HO_8 := n3_; have HO323 := n4_; have HO326 := n5_; have HB := n6_; clear n0_ n1_ n2_ n3_ n4_ n5_ n6_; (try clear hb); (try clear hb2); (try clear hk); (try clear hi); (try clear ho0); obtain ⟨Ao52, co52, eo52⟩ := Kd.R_slice HO326.out; subst eo52) | ((with_reducible refine gate_callee (f := 37) rfl ?_); refine goesL_ (some 48) rfl rfl Try.func37 (by kernel_rfl) rfl #[.slice Ao52 t324.length co52, .slice Ao32 t293.length co32] rfl (by (try simp only [List.map_toArray, List.map_cons, List.map_nil]); first | done | rfl | (simp only [List.length_drop, List.length_take]; rfl)) ?_; (with_reducible refine (clepsydraref03_parted.calls _ _ t324 _ _ t293 t327 t328 _ ?side1 ?side2 ?side3 ?side4 A45.out).mono ?_); (case side1 => repeat (first | exact (Kd.R_reads' HO326.out).2.2 | (with_reducible refine Kd.C_alloc ?_ _) | (with_reducible refine Kd.C_drewN ?_ _) | (with_reducible refine Kd.C_drew ?_))); (case side2 => exact (Kd.R_reads' HO326.out).2.1); (case side3 => repeat (first | exact (Kd.R_reads' HO_5.out).2.2 | (with_reducible refine Kd.C_alloc ?_ _) | (with_reducible refine Kd.C_drewN ?_ _) | (with_reducible refine Kd.C_drew ?_))); (case side4 => exact (Kd.R_reads' HO_5.out).2.1); rintro e w53 ⟨v329, v331, rfl, ho0, ho1, hb⟩; refine ⟨_, rfl, ?_⟩; have n0_ := Aside0.mk (Kd.R_mono (Kd.R_told (Kd.R_told (Kd.R_old (by (with_reducible repeat (first | apply Kd.R_alloc | apply Kd.R_drewN | apply Kd.R_drew)); exact HO_5.out) hb) (Kd.R_base ho0)) (Kd.R_base ho1)) (fun _ h_ => h_.1)); have n1_ := Aside0.mk (Kd.R_mono (Kd.R_told (Kd.R_told (Kd.R_old (by (with_reducible repeat (first | apply Kd.R_alloc | apply Kd.R_drewN | apply Kd.R_drew)); exact HO_6.out) hb) (Kd.R_base ho0)) (Kd.R_base ho1)) (fun _ h_ => h_.1)); have n2_ := Aside0.mk (Kd.R_mono (Kd.R_told (Kd.R_told (Kd.R_old (by (with_reducible repeat (first | apply Kd.R_alloc | apply Kd.R_drewN | apply Kd.R_drew)); exact HO_7.out) hb) (Kd.R_base ho0)) (Kd.R_base ho1)) (fun _ h_ => h_.1)); have n3_ := Aside0.mk (Kd.R_mono (Kd.R_told (Kd.R_told (Kd.R_old (by (with_reducible repeat (first | apply Kd.R_alloc | apply Kd.R_drewN | apply Kd.R_drew)); exact HO_8.out) hb) (Kd.R_base ho0)) (Kd.R_base ho1)) (fun _ h_ => h_.1)); have n4_ := Aside0.mk (Kd.R_below (by (with_reducible repeat (first | apply Kd.R_alloc | apply Kd.R_drewN | apply Kd.R_drew)); exact HO323.out) hb); have n5_ := Aside0.mk (Kd.R_mono (Kd.R_told (Kd.R_told (Kd.R_old (by (with_reducible repeat (first | apply Kd.R_alloc | apply Kd.R_drewN | apply Kd.R_drew)); exact HO326.out) hb) (Kd.R_base ho0)) (Kd.R_base ho1)) (fun _ h_ => h_.1)); have n6_ := Aside0.mk (Kd.R_lower (Kd.R_new' (Kd.R_new' (Kd.R_new' (Kd.R_new' (Kd.R_new' ho0 (Kd.R_lt (by (with_reducible repeat (first | apply Kd.R_alloc | apply Kd.R_drewN | apply Kd.R_drew)); exact HO_5.out))) (Kd.R_lt (by (with_reducible repeat (first | apply Kd.R_alloc | apply Kd.R_drewN | apply Kd.R_drew)); exact HO_6.out))) (Kd.R_lt (by (with_reducible repeat (first | apply Kd.R_alloc | apply Kd.R_drewN | apply Kd.R_drew)); exact HO_7.out))) (Kd.R_lt (by (with_reducible repeat (first | apply Kd.R_alloc | apply Kd.R_drewN | apply Kd.R_drew)); exact HO_8.out))) (Kd.R_lt (by (with_reducible repeat (first | apply Kd.R_alloc | apply Kd.R_drewN | apply Kd.R_drew)); exact HO326.out))) (below_size (by repeat (first | (with_reducible first | exact HB.out | apply below_alloc | apply pw_below_drewN | apply below_drew1) | exact HB.out)))); have n7_ := Aside0.mk (Kd.R_lower (Kd.R_new' (Kd.R_new' (Kd.R_new' (Kd.R_new' (Kd.R_new' ho1 (Kd.R_lt (by (with_reducible repeat (first | apply Kd.R_alloc | apply Kd.R_drewN | apply Kd.R_drew)); exact HO_5.out))) (Kd.R_lt (by (with_reducible repeat (first | apply Kd.R_alloc | apply Kd.R_drewN | apply Kd.R_drew)); exact HO_6.out))) (Kd.R_lt (by (with_reducible repeat (first | apply Kd.R_alloc | apply Kd.R_drewN | apply Kd.R_drew)); exact HO_7.out))) (Kd.R_lt (by (with_reducible repeat (first | apply Kd.R_alloc | apply Kd.R_drewN | apply Kd.R_drew)); exact HO_8.out))) (Kd.R_lt (by (with_reducible repeat (first | apply Kd.R_alloc | apply Kd.R_drewN | apply Kd.R_drew)); exact HO326.out))) (below_size (by repeat (first | (with_reducible first | exact HB.out | apply below_alloc | apply pw_below_drewN | apply below_drew1) | exact HB.out)))); have n8_ := Aside0.mk (below_step (by repeat (first | (with_reducible first | exact HB.out | apply below_alloc | apply pw_below_drewN | apply below_drew1) | exact HB.out)) hb); clear HO_5; clear HO_6; clear HO_7; clear HO_8; clear HO323; clear HO326; clear HB; have HO_5 := n0_; have HO_6 := n1_; have HO_7 := n2_; have HO_8 := n3_; have HO323 := n4_; have HO326 := n5_; have HO330 := n6_; have HO332 := n7_; have HB := n8_; clear n0_ n1_ n2_ n3_ n4_ n5_ n6_ n7_ n8_; (try clear hb); (try clear hb2); (try clear hk); (try clear hi); (try clear ho0); (try clear ho1); obtain ⟨Ao54, co54, eo54⟩ := Kd.R_slice HO332.out; subst eo54))
              go_ret
              exact ⟨by first | rfl | (simp [errW_none, errW_some] <;> rfl) | (simp [*, errW_none, errW_some] <;> rfl), by repeat (first | (with_reducible first | exact HB.out | apply below_alloc | apply pw_below_drewN | apply below_drew1) | exact HB.out)⟩
            · rw [if_neg c46] at H
              have c46b0 : ((t328.length : Int) == 0) = false := beq_eq_false_iff_ne.mpr c46
              have c46b1 : ((t328.length : Int) != 0) = true := bne_iff_ne.mpr c46
              have c46b2 : ¬ (t328 = []) := fun h_ => c46 (by rw [h_]; rfl)
              replace H := Option.bind_eq_some_iff.mp H
              obtain ⟨t333, A550, H⟩ := H
              replace H : ((clepsydraref03_cmp.f t333 y296).bind fun t336 => (if t336 = 0 then (some false) else (clepsydraref03_Tells.l1 k1 t293 t308 x9_1 t333 0))) = some r := H
              have A55 := Aside0.mk A550
              clear A550
              replace H := Option.bind_eq_some_iff.mp H
              obtain ⟨t336, A560, H⟩ := H
              replace H : (if t336 = 0 then (some false) else (clepsydraref03_Tells.l1 k1 t293 t308 x9_1 t333 0)) = some r := H
              have A56 := Aside0.mk A560
              clear A560
              by_cases c57 : t336 = 0
              · rw [if_pos c57] at H
                have c57b0 : (t336 == 0) = true := beq_iff_eq.mpr c57
                have c57b1 : (t336 != 0) = false := bne_eq_false_iff_eq.mpr c57
                clear c57
                obtain rfl := Option.some.inj H
                simp only [Option.some.injEq, Prod.mk.injEq] at H
                obtain ⟨rfl⟩ := H
                obtain ⟨Ao58, co58, eo58⟩ := Kd.R_slice HO_8.out
                subst eo58
                go_wp2_with (first | ((with_reducible refine gate_callee (f := 56) rfl ?_); refine goesL_ (some 33) rfl rfl Try.func56 (by kernel_rfl) rfl #[.slice Ao58 x8_1.length co58, .int .i64 0] rfl (by (try simp only [List.map_toArray, List.map_cons, List.map_nil]); first | done | rfl | (simp only [List.length_drop, List.length_take]; rfl)) ?_; (with_reducible refine (clepsydraref03_bit.calls _ _ x8_1 0 t311 _ ?side1 ?side2 A36.out).mono ?_); (case side1 => repeat (first | exact (Kd.R_reads' HO_8.out).2.2 | (with_reducible refine Kd.C_alloc ?_ _) | (with_reducible refine Kd.C_drewN ?_ _) | (with_reducible refine Kd.C_drew ?_))); (case side2 => exact (Kd.R_reads' HO_8.out).2.1); rintro e w' ⟨rfl, ⟨nd, rfl⟩⟩; refine ⟨_, rfl, ?_⟩) | ((with_reducible refine gate_dst (N := 45) rfl ?_); refine Kd.R_lit (Kd.int .u64) _ 35 ?hg (N := 45) ?hd (xs := ([a1] : List Int)) (inner := [.int .u64 a1]) (ok := fun _ => True) (okp := fun _ => True) ?hr ?hp (fun _ hk => hk) trivial (Below.refl _ _) (Nat.le_refl _) (by simp) ?_; (case hd => rfl); (case hg => rfl); (case hr => first | (go_simp; done) | (go_simp; rfl)); (case hp => exact (Reps.one (show Kd.M (Kd.int .u64) _ _ _ a1 [.int .u64 a1] from rfl) (Reps.none _ _))); intro v322 w59 ho60 hb hg_ hnew_; clear hg_ hnew_; (first | rw [← Ny321.out] at ho60 | (simp only [Int.reduceToNat] at ho60; rw [← Ny321.out] at ho60)); have n0_ := Aside0.mk (Kd.R_below (by (with_reducible repeat (first | apply Kd.R_alloc | apply Kd.R_drewN | apply Kd.R_drew)); exact HO_5.out) hb); have n1_ := Aside0.mk (Kd.R_below (by (with_reducible repeat (first | apply Kd.R_alloc | apply Kd.R_drewN | apply Kd.R_drew)); exact HO_6.out) hb); have n2_ := Aside0.mk (Kd.R_below (by (with_reducible repeat (first | apply Kd.R_alloc | apply Kd.R_drewN | apply Kd.R_drew)); exact HO_7.out) hb); have n3_ := Aside0.mk (Kd.R_below (by (with_reducible repeat (first | apply Kd.R_alloc | apply Kd.R_drewN | apply Kd.R_drew)); exact HO_8.out) hb); have n4_ := Aside0.mk (Kd.R_lower ho60 (below_size (by repeat (first | (with_reducible first | exact HB.out | apply below_alloc | apply pw_below_drewN | apply below_drew1) | exact HB.out)))); have n5_ := Aside0.mk (below_step (by repeat (first | (with_reducible first | exact HB.out | apply below_alloc | apply pw_below_drewN | apply below_drew1) | exact HB.out)) hb); clear HO_5; clear HO_6; clear HO_7; clear HO_8; clear HB; have HO_5 := n0_; have HO_6 := n1_; have HO_7 := n2_; have HO_8 := n3_; have HO323 := n4_; have HB := n5_; clear n0_ n1_ n2_ n3_ n4_ n5_; clear hb ho60; obtain ⟨Ao61, co61, eo61⟩ := Kd.R_slice HO323.out; subst eo61) | ((with_reducible refine gate_callee (f := 36) rfl ?_); refine goesL_ (some 46) rfl rfl Try.func36 (by kernel_rfl) rfl #[.slice Ao61 y321.length co61] rfl (by (try simp only [List.map_toArray, List.map_cons, List.map_nil]); first | done | rfl | (simp only [List.length_drop, List.length_take]; rfl)) ?_; (with_reducible refine (clepsydraref03_Digits.calls k1 _ _ y321 t324 _ ?side1 ?side2 A44.out).mono ?_); (case side1 => repeat (first | exact (Kd.R_reads' HO323.out).2.2 | (with_reducible refine Kd.C_alloc ?_ _) | (with_reducible refine Kd.C_drewN ?_ _) | (with_reducible refine Kd.C_drew ?_))); (case side2 => exact (Kd.R_reads' HO323.out).2.1); rintro e w62 ⟨v325, rfl, ho0, hb⟩; refine ⟨_, rfl, ?_⟩; have n0_ := Aside0.mk (Kd.R_elder' (by (with_reducible repeat (first | apply Kd.R_alloc | apply Kd.R_drewN | apply Kd.R_drew)); exact HO_5.out) (Kd.R_base ho0) hb); have n1_ := Aside0.mk (Kd.R_elder' (by (with_reducible repeat (first | apply Kd.R_alloc | apply Kd.R_drewN | apply Kd.R_drew)); exact HO_6.out) (Kd.R_base ho0) hb); have n2_ := Aside0.mk (Kd.R_elder' (by (with_reducible repeat (first | apply Kd.R_alloc | apply Kd.R_drewN | apply Kd.R_drew)); exact HO_7.out) (Kd.R_base ho0) hb); have n3_ := Aside0.mk (Kd.R_elder' (by (with_reducible repeat (first | apply Kd.R_alloc | apply Kd.R_drewN | apply Kd.R_drew)); exact HO_8.out) (Kd.R_base ho0) hb); have n4_ := Aside0.mk (Kd.R_below (by (with_reducible repeat (first | apply Kd.R_alloc | apply Kd.R_drewN | apply Kd.R_drew)); exact HO323.out) hb); have n5_ := Aside0.mk (Kd.R_lower (Kd.R_new' (Kd.R_new' (Kd.R_new' (Kd.R_new' ho0 (Kd.R_lt (by (with_reducible repeat (first | apply Kd.R_alloc | apply Kd.R_drewN | apply Kd.R_drew)); exact HO_5.out))) (Kd.R_lt (by (with_reducible repeat (first | apply Kd.R_alloc | apply Kd.R_drewN | apply Kd.R_drew)); exact HO_6.out))) (Kd.R_lt (by (with_reducible repeat (first | apply Kd.R_alloc | apply Kd.R_drewN | apply Kd.R_drew)); exact HO_7.out))) (Kd.R_lt (by (with_reducible repeat (first | apply Kd.R_alloc | apply Kd.R_drewN | apply Kd.R_drew)); exact HO_8.out))) (below_size (by repeat (first | (with_reducible first | exact HB.out | apply below_alloc | apply pw_below_drewN | apply below_drew1) | exact HB.out)))); have n6_ := Aside0.mk (below_step (by repeat (first | (with_reducible first | exact HB.out | apply below_alloc | apply pw_below_drewN | apply below_drew1) | exact HB.out)) hb); clear HO_5; clear HO_6; clear HO_7; clear HO_8; clear HO323; clear HB; have HO_5 := n0_; have HO_6 := n1_; have HO_7 := n2_; have HO_8 := n3_; have HO323 := n4_; have HO326 := n5_; have HB := n6_; clear n0_ n1_ n2_ n3_ n4_ n5_ n6_; (try clear hb); (try clear hb2); (try clear hk); (try clear hi); (try clear ho0); obtain ⟨Ao63, co63, eo63⟩ := Kd.R_slice HO326.out; subst eo63) | ((with_reducible refine gate_callee (f := 37) rfl ?_); refine goesL_ (some 48) rfl rfl Try.func37 (by kernel_rfl) rfl #[.slice Ao63 t324.length co63, .slice Ao32 t293.length co32] rfl (by (try simp only [List.map_toArray, List.map_cons, List.map_nil]); first | done | rfl | (simp only [List.length_drop, List.length_take]; rfl)) ?_; (with_reducible refine (clepsydraref03_parted.calls _ _ t324 _ _ t293 t327 t328 _ ?side1 ?side2 ?side3 ?side4 A45.out).mono ?_); (case side1 => repeat (first | exact (Kd.R_reads' HO326.out).2.2 | (with_reducible refine Kd.C_alloc ?_ _) | (with_reducible refine Kd.C_drewN ?_ _) | (with_reducible refine Kd.C_drew ?_))); (case side2 => exact (Kd.R_reads' HO326.out).2.1); (case side3 => repeat (first | exact (Kd.R_reads' HO_5.out).2.2 | (with_reducible refine Kd.C_alloc ?_ _) | (with_reducible refine Kd.C_drewN ?_ _) | (with_reducible refine Kd.C_drew ?_))); (case side4 => exact (Kd.R_reads' HO_5.out).2.1); rintro e w64 ⟨v329, v331, rfl, ho0, ho1, hb⟩; refine ⟨_, rfl, ?_⟩; have n0_ := Aside0.mk (Kd.R_mono (Kd.R_told (Kd.R_told (Kd.R_old (by (with_reducible repeat (first | apply Kd.R_alloc | apply Kd.R_drewN | apply Kd.R_drew)); exact HO_5.out) hb) (Kd.R_base ho0)) (Kd.R_base ho1)) (fun _ h_ => h_.1)); have n1_ := Aside0.mk (Kd.R_mono (Kd.R_told (Kd.R_told (Kd.R_old (by (with_reducible repeat (first | apply Kd.R_alloc | apply Kd.R_drewN | apply Kd.R_drew)); exact HO_6.out) hb) (Kd.R_base ho0)) (Kd.R_base ho1)) (fun _ h_ => h_.1)); have n2_ := Aside0.mk (Kd.R_mono (Kd.R_told (Kd.R_told (Kd.R_old (by (with_reducible repeat (first | apply Kd.R_alloc | apply Kd.R_drewN | apply Kd.R_drew)); exact HO_7.out) hb) (Kd.R_base ho0)) (Kd.R_base ho1)) (fun _ h_ => h_.1)); have n3_ := Aside0.mk (Kd.R_mono (Kd.R_told (Kd.R_told (Kd.R_old (by (with_reducible repeat (first | apply Kd.R_alloc | apply Kd.R_drewN | apply Kd.R_drew)); exact HO_8.out) hb) (Kd.R_base ho0)) (Kd.R_base ho1)) (fun _ h_ => h_.1)); have n4_ := Aside0.mk (Kd.R_below (by (with_reducible repeat (first | apply Kd.R_alloc | apply Kd.R_drewN | apply Kd.R_drew)); exact HO323.out) hb); have n5_ := Aside0.mk (Kd.R_mono (Kd.R_told (Kd.R_told (Kd.R_old (by (with_reducible repeat (first | apply Kd.R_alloc | apply Kd.R_drewN | apply Kd.R_drew)); exact HO326.out) hb) (Kd.R_base ho0)) (Kd.R_base ho1)) (fun _ h_ => h_.1)); have n6_ := Aside0.mk (Kd.R_lower (Kd.R_new' (Kd.R_new' (Kd.R_new' (Kd.R_new' (Kd.R_new' ho0 (Kd.R_lt (by (with_reducible repeat (first | apply Kd.R_alloc | apply Kd.R_drewN | apply Kd.R_drew)); exact HO_5.out))) (Kd.R_lt (by (with_reducible repeat (first | apply Kd.R_alloc | apply Kd.R_drewN | apply Kd.R_drew)); exact HO_6.out))) (Kd.R_lt (by (with_reducible repeat (first | apply Kd.R_alloc | apply Kd.R_drewN | apply Kd.R_drew)); exact HO_7.out))) (Kd.R_lt (by (with_reducible repeat (first | apply Kd.R_alloc | apply Kd.R_drewN | apply Kd.R_drew)); exact HO_8.out))) (Kd.R_lt (by (with_reducible repeat (first | apply Kd.R_alloc | apply Kd.R_drewN | apply Kd.R_drew)); exact HO326.out))) (below_size (by repeat (first | (with_reducible first | exact HB.out | apply below_alloc | apply pw_below_drewN | apply below_drew1) | exact HB.out)))); have n7_ := Aside0.mk (Kd.R_lower (Kd.R_new' (Kd.R_new' (Kd.R_new' (Kd.R_new' (Kd.R_new' ho1 (Kd.R_lt (by (with_reducible repeat (first | apply Kd.R_alloc | apply Kd.R_drewN | apply Kd.R_drew)); exact HO_5.out))) (Kd.R_lt (by (with_reducible repeat (first | apply Kd.R_alloc | apply Kd.R_drewN | apply Kd.R_drew)); exact HO_6.out))) (Kd.R_lt (by (with_reducible repeat (first | apply Kd.R_alloc | apply Kd.R_drewN | apply Kd.R_drew)); exact HO_7.out))) (Kd.R_lt (by (with_reducible repeat (first | apply Kd.R_alloc | apply Kd.R_drewN | apply Kd.R_drew)); exact HO_8.out))) (Kd.R_lt (by (with_reducible repeat (first | apply Kd.R_alloc | apply Kd.R_drewN | apply Kd.R_drew)); exact HO326.out))) (below_size (by repeat (first | (with_reducible first | exact HB.out | apply below_alloc | apply pw_below_drewN | apply below_drew1) | exact HB.out)))); have n8_ := Aside0.mk (below_step (by repeat (first | (with_reducible first | exact HB.out | apply below_alloc | apply pw_below_drewN | apply below_drew1) | exact HB.out)) hb); clear HO_5; clear HO_6; clear HO_7; clear HO_8; clear HO323; clear HO326; clear HB; have HO_5 := n0_; have HO_6 := n1_; have HO_7 := n2_; have HO_8 := n3_; have HO323 := n4_; have HO326 := n5_; have HO330 := n6_; have HO332 := n7_; have HB := n8_; clear n0_ n1_ n2_ n3_ n4_ n5_ n6_ n7_ n8_; (try clear hb); (try clear hb2); (try clear hk); (try clear hi); (try clear ho0); (try clear ho1); obtain ⟨Ao65, co65, eo65⟩ := Kd.R_slice HO332.out; subst eo65) | ((with_reducible refine gate_callee (f := 43) rfl ?_); refine goesL_ (some 57) rfl rfl Try.func43 (by kernel_rfl) rfl #[.slice Ao65 t328.length co65, .slice Ao58 x8_1.length co58, .slice Ao32 t293.length co32] rfl (by (try simp only [List.map_toArray, List.map_cons, List.map_nil]); first | done | rfl | (simp only [List.length_drop, List.length_take]; rfl)) ?_; (with_reducible refine (clepsydraref03_power.calls k1 _ _ t328 _ _ x8_1 _ _ t293 t333 _ ?side1 ?side2 ?side3 ?side4 ?side5 ?side6 A55.out).mono ?_); (case side1 => repeat (first | exact (Kd.R_reads' HO332.out).2.2 | (with_reducible refine Kd.C_alloc ?_ _) | (with_reducible refine Kd.C_drewN ?_ _) | (with_reducible refine Kd.C_drew ?_))); (case side2 => exact (Kd.R_reads' HO332.out).2.1); (case side3 => repeat (first | exact (Kd.R_reads' HO_8.out).2.2 | (with_reducible refine Kd.C_alloc ?_ _) | (with_reducible refine Kd.C_drewN ?_ _) | (with_reducible refine Kd.C_drew ?_))); (case side4 => exact (Kd.R_reads' HO_8.out).2.1); (case side5 => repeat (first | exact (Kd.R_reads' HO_5.out).2.2 | (with_reducible refine Kd.C_alloc ?_ _) | (with_reducible refine Kd.C_drewN ?_ _) | (with_reducible refine Kd.C_drew ?_))); (case side6 => exact (Kd.R_reads' HO_5.out).2.1); rintro e w66 ⟨v334, rfl, ho0, hb⟩; refine ⟨_, rfl, ?_⟩; have n0_ := Aside0.mk (Kd.R_elder' (by (with_reducible repeat (first | apply Kd.R_alloc | apply Kd.R_drewN | apply Kd.R_drew)); exact HO_5.out) (Kd.R_base ho0) hb); have n1_ := Aside0.mk (Kd.R_elder' (by (with_reducible repeat (first | apply Kd.R_alloc | apply Kd.R_drewN | apply Kd.R_drew)); exact HO_6.out) (Kd.R_base ho0) hb); have n2_ := Aside0.mk (Kd.R_elder' (by (with_reducible repeat (first | apply Kd.R_alloc | apply Kd.R_drewN | apply Kd.R_drew)); exact HO_7.out) (Kd.R_base ho0) hb); have n3_ := Aside0.mk (Kd.R_elder' (by (with_reducible repeat (first | apply Kd.R_alloc | apply Kd.R_drewN | apply Kd.R_drew)); exact HO_8.out) (Kd.R_base ho0) hb); have n4_ := Aside0.mk (Kd.R_below (by (with_reducible repeat (first | apply Kd.R_alloc | apply Kd.R_drewN | apply Kd.R_drew)); exact HO323.out) hb); have n5_ := Aside0.mk (Kd.R_elder' (by (with_reducible repeat (first | apply Kd.R_alloc | apply Kd.R_drewN | apply Kd.R_drew)); exact HO326.out) (Kd.R_base ho0) hb); have n6_ := Aside0.mk (Kd.R_elder' (by (with_reducible repeat (first | apply Kd.R_alloc | apply Kd.R_drewN | apply Kd.R_drew)); exact HO330.out) (Kd.R_base ho0) hb); have n7_ := Aside0.mk (Kd.R_elder' (by (with_reducible repeat (first | apply Kd.R_alloc | apply Kd.R_drewN | apply Kd.R_drew)); exact HO332.out) (Kd.R_base ho0) hb); have n8_ := Aside0.mk (Kd.R_lower (Kd.R_new' (Kd.R_new' (Kd.R_new' (Kd.R_new' (Kd.R_new' (Kd.R_new' (Kd.R_new' ho0 (Kd.R_lt (by (with_reducible repeat (first | apply Kd.R_alloc | apply Kd.R_drewN | apply Kd.R_drew)); exact HO_5.out))) (Kd.R_lt (by (with_reducible repeat (first | apply Kd.R_alloc | apply Kd.R_drewN | apply Kd.R_drew)); exact HO_6.out))) (Kd.R_lt (by (with_reducible repeat (first | apply Kd.R_alloc | apply Kd.R_drewN | apply Kd.R_drew)); exact HO_7.out))) (Kd.R_lt (by (with_reducible repeat (first | apply Kd.R_alloc | apply Kd.R_drewN | apply Kd.R_drew)); exact HO_8.out))) (Kd.R_lt (by (with_reducible repeat (first | apply Kd.R_alloc | apply Kd.R_drewN | apply Kd.R_drew)); exact HO326.out))) (Kd.R_lt (by (with_reducible repeat (first | apply Kd.R_alloc | apply Kd.R_drewN | apply Kd.R_drew)); exact HO330.out))) (Kd.R_lt (by (with_reducible repeat (first | apply Kd.R_alloc | apply Kd.R_drewN | apply Kd.R_drew)); exact HO332.out))) (below_size (by repeat (first | (with_reducible first | exact HB.out | apply below_alloc | apply pw_below_drewN | apply below_drew1) | exact HB.out)))); have n9_ := Aside0.mk (below_step (by repeat (first | (with_reducible first | exact HB.out | apply below_alloc | apply pw_below_drewN | apply below_drew1) | exact HB.out)) hb); clear HO_5; clear HO_6; clear HO_7; clear HO_8; clear HO323; clear HO326; clear HO330; clear HO332; clear HB; have HO_5 := n0_; have HO_6 := n1_; have HO_7 := n2_; have HO_8 := n3_; have HO323 := n4_; have HO326 := n5_; have HO330 := n6_; have HO332 := n7_; have HO335 := n8_; have HB := n9_; clear n0_ n1_ n2_ n3_ n4_ n5_ n6_ n7_ n8_ n9_; (try clear hb); (try clear hb2); (try clear hk); (try clear hi); (try clear ho0); obtain ⟨Ao67, co67, eo67⟩ := Kd.R_slice HO335.out; subst eo67) | ((with_reducible refine gate_callee (f := 48) rfl ?_); refine goesL_ (some 60) rfl rfl Try.func48 (by kernel_rfl) rfl #[.slice Ao67 t333.length co67, .slice Ao34 y296.length co34] rfl (by (try simp only [List.map_toArray, List.map_cons, List.map_nil]); first | done | rfl | (simp only [List.length_drop, List.length_take]; rfl)) ?_; (with_reducible refine (clepsydraref03_cmp.calls _ _ t333 _ _ y296 t336 _ ?side1 ?side2 ?side3 ?side4 A56.out).mono ?_); (case side1 => repeat (first | exact (Kd.R_reads' HO335.out).2.2 | (with_reducible refine Kd.C_alloc ?_ _) | (with_reducible refine Kd.C_drewN ?_ _) | (with_reducible refine Kd.C_drew ?_))); (case side2 => exact (Kd.R_reads' HO335.out).2.1); (case side3 => repeat (first | exact (Kd.R_reads' HO_6.out).2.2 | (with_reducible refine Kd.C_alloc ?_ _) | (with_reducible refine Kd.C_drewN ?_ _) | (with_reducible refine Kd.C_drew ?_))); (case side4 => exact (Kd.R_reads' HO_6.out).2.1); rintro e w' ⟨rfl, ⟨nd, rfl⟩⟩; refine ⟨_, rfl, ?_⟩))
                go_ret
                exact ⟨by first | rfl | (simp [errW_none, errW_some] <;> rfl) | (simp [*, errW_none, errW_some] <;> rfl), by repeat (first | (with_reducible first | exact HB.out | apply below_alloc | apply pw_below_drewN | apply below_drew1) | exact HB.out)⟩
              · rw [if_neg c57] at H
                have c57b0 : (t336 == 0) = false := beq_eq_false_iff_ne.mpr c57
                have c57b1 : (t336 != 0) = true := bne_iff_ne.mpr c57
                have H' := Aside0.mk H
                clear H
                obtain ⟨Ao68, co68, eo68⟩ := Kd.R_slice HO_8.out
                subst eo68
                go_wp2_with (first | ((with_reducible refine gate_callee (f := 56) rfl ?_); refine goesL_ (some 33) rfl rfl Try.func56 (by kernel_rfl) rfl #[.slice Ao68 x8_1.length co68, .int .i64 0] rfl (by (try simp only [List.map_toArray, List.map_cons, List.map_nil]); first | done | rfl | (simp only [List.length_drop, List.length_take]; rfl)) ?_; (with_reducible refine (clepsydraref03_bit.calls _ _ x8_1 0 t311 _ ?side1 ?side2 A36.out).mono ?_); (case side1 => repeat (first | exact (Kd.R_reads' HO_8.out).2.2 | (with_reducible refine Kd.C_alloc ?_ _) | (with_reducible refine Kd.C_drewN ?_ _) | (with_reducible refine Kd.C_drew ?_))); (case side2 => exact (Kd.R_reads' HO_8.out).2.1); rintro e w' ⟨rfl, ⟨nd, rfl⟩⟩; refine ⟨_, rfl, ?_⟩) | ((with_reducible refine gate_dst (N := 45) rfl ?_); refine Kd.R_lit (Kd.int .u64) _ 35 ?hg (N := 45) ?hd (xs := ([a1] : List Int)) (inner := [.int .u64 a1]) (ok := fun _ => True) (okp := fun _ => True) ?hr ?hp (fun _ hk => hk) trivial (Below.refl _ _) (Nat.le_refl _) (by simp) ?_; (case hd => rfl); (case hg => rfl); (case hr => first | (go_simp; done) | (go_simp; rfl)); (case hp => exact (Reps.one (show Kd.M (Kd.int .u64) _ _ _ a1 [.int .u64 a1] from rfl) (Reps.none _ _))); intro v322 w69 ho70 hb hg_ hnew_; clear hg_ hnew_; (first | rw [← Ny321.out] at ho70 | (simp only [Int.reduceToNat] at ho70; rw [← Ny321.out] at ho70)); have n0_ := Aside0.mk (Kd.R_below (by (with_reducible repeat (first | apply Kd.R_alloc | apply Kd.R_drewN | apply Kd.R_drew)); exact HO_5.out) hb); have n1_ := Aside0.mk (Kd.R_below (by (with_reducible repeat (first | apply Kd.R_alloc | apply Kd.R_drewN | apply Kd.R_drew)); exact HO_6.out) hb); have n2_ := Aside0.mk (Kd.R_below (by (with_reducible repeat (first | apply Kd.R_alloc | apply Kd.R_drewN | apply Kd.R_drew)); exact HO_7.out) hb); have n3_ := Aside0.mk (Kd.R_below (by (with_reducible repeat (first | apply Kd.R_alloc | apply Kd.R_drewN | apply Kd.R_drew)); exact HO_8.out) hb); have n4_ := Aside0.mk (Kd.R_lower ho70 (below_size (by repeat (first | (with_reducible first | exact HB.out | apply below_alloc | apply pw_below_drewN | apply below_drew1) | exact HB.out)))); have n5_ := Aside0.mk (below_step (by repeat (first | (with_reducible first | exact HB.out | apply below_alloc | apply pw_below_drewN | apply below_drew1) | exact HB.out)) hb); clear HO_5; clear HO_6; clear HO_7; clear HO_8; clear HB; have HO_5 := n0_; have HO_6 := n1_; have HO_7 := n2_; have HO_8 := n3_; have HO323 := n4_; have HB := n5_; clear n0_ n1_ n2_ n3_ n4_ n5_; clear hb ho70; obtain ⟨Ao71, co71, eo71⟩ := Kd.R_slice HO323.out; subst eo71) | ((with_reducible refine gate_callee (f := 36) rfl ?_); refine goesL_ (some 46) rfl rfl Try.func36 (by kernel_rfl) rfl #[.slice Ao71 y321.length co71] rfl (by (try simp only [List.map_toArray, List.map_cons, List.map_nil]); first | done | rfl | (simp only [List.length_drop, List.length_take]; rfl)) ?_; (with_reducible refine (clepsydraref03_Digits.calls k1 _ _ y321 t324 _ ?side1 ?side2 A44.out).mono ?_); (case side1 => repeat (first | exact (Kd.R_reads' HO323.out).2.2 | (with_reducible refine Kd.C_alloc ?_ _) | (with_reducible refine Kd.C_drewN ?_ _) | (with_reducible refine Kd.C_drew ?_))); (case side2 => exact (Kd.R_reads' HO323.out).2.1); rintro e w72 ⟨v325, rfl, ho0, hb⟩; refine ⟨_, rfl, ?_⟩; have n0_ := Aside0.mk (Kd.R_elder' (by (with_reducible repeat (first | apply Kd.R_alloc | apply Kd.R_drewN | apply Kd.R_drew)); exact HO_5.out) (Kd.R_base ho0) hb); have n1_ := Aside0.mk (Kd.R_elder' (by (with_reducible repeat (first | apply Kd.R_alloc | apply Kd.R_drewN | apply Kd.R_drew)); exact HO_6.out) (Kd.R_base ho0) hb); have n2_ := Aside0.mk (Kd.R_elder' (by (with_reducible repeat (first | apply Kd.R_alloc | apply Kd.R_drewN | apply Kd.R_drew)); exact HO_7.out) (Kd.R_base ho0) hb); have n3_ := Aside0.mk (Kd.R_elder' (by (with_reducible repeat (first | apply Kd.R_alloc | apply Kd.R_drewN | apply Kd.R_drew)); exact HO_8.out) (Kd.R_base ho0) hb); have n4_ := Aside0.mk (Kd.R_below (by (with_reducible repeat (first | apply Kd.R_alloc | apply Kd.R_drewN | apply Kd.R_drew)); exact HO323.out) hb); have n5_ := Aside0.mk (Kd.R_lower (Kd.R_new' (Kd.R_new' (Kd.R_new' (Kd.R_new' ho0 (Kd.R_lt (by (with_reducible repeat (first | apply Kd.R_alloc | apply Kd.R_drewN | apply Kd.R_drew)); exact HO_5.out))) (Kd.R_lt (by (with_reducible repeat (first | apply Kd.R_alloc | apply Kd.R_drewN | apply Kd.R_drew)); exact HO_6.out))) (Kd.R_lt (by (with_reducible repeat (first | apply Kd.R_alloc | apply Kd.R_drewN | apply Kd.R_drew)); exact HO_7.out))) (Kd.R_lt (by (with_reducible repeat (first | apply Kd.R_alloc | apply Kd.R_drewN | apply Kd.R_drew)); exact HO_8.out))) (below_size (by repeat (first | (with_reducible first | exact HB.out | apply below_alloc | apply pw_below_drewN | apply below_drew1) | exact HB.out)))); have n6_ := Aside0.mk (below_step (by repeat (first | (with_reducible first | exact HB.out | apply below_alloc | apply pw_below_drewN | apply below_drew1) | exact HB.out)) hb); clear HO_5; clear HO_6; clear HO_7; clear HO_8; clear HO323; clear HB; have HO_5 := n0_; have HO_6 := n1_; have HO_7 := n2_; have HO_8 := n3_; have HO323 := n4_; have HO326 := n5_; have HB := n6_; clear n0_ n1_ n2_ n3_ n4_ n5_ n6_; (try clear hb); (try clear hb2); (try clear hk); (try clear hi); (try clear ho0); obtain ⟨Ao73, co73, eo73⟩ := Kd.R_slice HO326.out; subst eo73) | ((with_reducible refine gate_callee (f := 37) rfl ?_); refine goesL_ (some 48) rfl rfl Try.func37 (by kernel_rfl) rfl #[.slice Ao73 t324.length co73, .slice Ao32 t293.length co32] rfl (by (try simp only [List.map_toArray, List.map_cons, List.map_nil]); first | done | rfl | (simp only [List.length_drop, List.length_take]; rfl)) ?_; (with_reducible refine (clepsydraref03_parted.calls _ _ t324 _ _ t293 t327 t328 _ ?side1 ?side2 ?side3 ?side4 A45.out).mono ?_); (case side1 => repeat (first | exact (Kd.R_reads' HO326.out).2.2 | (with_reducible refine Kd.C_alloc ?_ _) | (with_reducible refine Kd.C_drewN ?_ _) | (with_reducible refine Kd.C_drew ?_))); (case side2 => exact (Kd.R_reads' HO326.out).2.1); (case side3 => repeat (first | exact (Kd.R_reads' HO_5.out).2.2 | (with_reducible refine Kd.C_alloc ?_ _) | (with_reducible refine Kd.C_drewN ?_ _) | (with_reducible refine Kd.C_drew ?_))); (case side4 => exact (Kd.R_reads' HO_5.out).2.1); rintro e w74 ⟨v329, v331, rfl, ho0, ho1, hb⟩; refine ⟨_, rfl, ?_⟩; have n0_ := Aside0.mk (Kd.R_mono (Kd.R_told (Kd.R_told (Kd.R_old (by (with_reducible repeat (first | apply Kd.R_alloc | apply Kd.R_drewN | apply Kd.R_drew)); exact HO_5.out) hb) (Kd.R_base ho0)) (Kd.R_base ho1)) (fun _ h_ => h_.1)); have n1_ := Aside0.mk (Kd.R_mono (Kd.R_told (Kd.R_told (Kd.R_old (by (with_reducible repeat (first | apply Kd.R_alloc | apply Kd.R_drewN | apply Kd.R_drew)); exact HO_6.out) hb) (Kd.R_base ho0)) (Kd.R_base ho1)) (fun _ h_ => h_.1)); have n2_ := Aside0.mk (Kd.R_mono (Kd.R_told (Kd.R_told (Kd.R_old (by (with_reducible repeat (first | apply Kd.R_alloc | apply Kd.R_drewN | apply Kd.R_drew)); exact HO_7.out) hb) (Kd.R_base ho0)) (Kd.R_base ho1)) (fun _ h_ => h_.1)); have n3_ := Aside0.mk (Kd.R_mono (Kd.R_told (Kd.R_told (Kd.R_old (by (with_reducible repeat (first | apply Kd.R_alloc | apply Kd.R_drewN | apply Kd.R_drew)); exact HO_8.out) hb) (Kd.R_base ho0)) (Kd.R_base ho1)) (fun _ h_ => h_.1)); have n4_ := Aside0.mk (Kd.R_below (by (with_reducible repeat (first | apply Kd.R_alloc | apply Kd.R_drewN | apply Kd.R_drew)); exact HO323.out) hb); have n5_ := Aside0.mk (Kd.R_mono (Kd.R_told (Kd.R_told (Kd.R_old (by (with_reducible repeat (first | apply Kd.R_alloc | apply Kd.R_drewN | apply Kd.R_drew)); exact HO326.out) hb) (Kd.R_base ho0)) (Kd.R_base ho1)) (fun _ h_ => h_.1)); have n6_ := Aside0.mk (Kd.R_lower (Kd.R_new' (Kd.R_new' (Kd.R_new' (Kd.R_new' (Kd.R_new' ho0 (Kd.R_lt (by (with_reducible repeat (first | apply Kd.R_alloc | apply Kd.R_drewN | apply Kd.R_drew)); exact HO_5.out))) (Kd.R_lt (by (with_reducible repeat (first | apply Kd.R_alloc | apply Kd.R_drewN | apply Kd.R_drew)); exact HO_6.out))) (Kd.R_lt (by (with_reducible repeat (first | apply Kd.R_alloc | apply Kd.R_drewN | apply Kd.R_drew)); exact HO_7.out))) (Kd.R_lt (by (with_reducible repeat (first | apply Kd.R_alloc | apply Kd.R_drewN | apply Kd.R_drew)); exact HO_8.out))) (Kd.R_lt (by (with_reducible repeat (first | apply Kd.R_alloc | apply Kd.R_drewN | apply Kd.R_drew)); exact HO326.out))) (below_size (by repeat (first | (with_reducible first | exact HB.out | apply below_alloc | apply pw_below_drewN | apply below_drew1) | exact HB.out)))); have n7_ := Aside0.mk (Kd.R_lower (Kd.R_new' (Kd.R_new' (Kd.R_new' (Kd.R_new' (Kd.R_new' ho1 (Kd.R_lt (by (with_reducible repeat (first | apply Kd.R_alloc | apply Kd.R_drewN | apply Kd.R_drew)); exact HO_5.out))) (Kd.R_lt (by (with_reducible repeat (first | apply Kd.R_alloc | apply Kd.R_drewN | apply Kd.R_drew)); exact HO_6.out))) (Kd.R_lt (by (with_reducible repeat (first | apply Kd.R_alloc | apply Kd.R_drewN | apply Kd.R_drew)); exact HO_7.out))) (Kd.R_lt (by (with_reducible repeat (first | apply Kd.R_alloc | apply Kd.R_drewN | apply Kd.R_drew)); exact HO_8.out))) (Kd.R_lt (by (with_reducible repeat (first | apply Kd.R_alloc | apply Kd.R_drewN | apply Kd.R_drew)); exact HO326.out))) (below_size (by repeat (first | (with_reducible first | exact HB.out | apply below_alloc | apply pw_below_drewN | apply below_drew1) | exact HB.out)))); have n8_ := Aside0.mk (below_step (by repeat (first | (with_reducible first | exact HB.out | apply below_alloc | apply pw_below_drewN | apply below_drew1) | exact HB.out)) hb); clear HO_5; clear HO_6; clear HO_7; clear HO_8; clear HO323; clear HO326; clear HB; have HO_5 := n0_; have HO_6 := n1_; have HO_7 := n2_; have HO_8 := n3_; have HO323 := n4_; have HO326 := n5_; have HO330 := n6_; have HO332 := n7_; have HB := n8_; clear n0_ n1_ n2_ n3_ n4_ n5_ n6_ n7_ n8_; (try clear hb); (try clear hb2); (try clear hk); (try clear hi); (try clear ho0); (try clear ho1); obtain ⟨Ao75, co75, eo75⟩ := Kd.R_slice HO332.out; subst eo75) | ((with_reducible refine gate_callee (f := 43) rfl ?_); refine goesL_ (some 57) rfl rfl Try.func43 (by kernel_rfl) rfl #[.slice Ao75 t328.length co75, .slice Ao68 x8_1.length co68, .slice Ao32 t293.length co32] rfl (by (try simp only [List.map_toArray, List.map_cons, List.map_nil]); first | done | rfl | (simp only [List.length_drop, List.length_take]; rfl)) ?_; (with_reducible refine (clepsydraref03_power.calls k1 _ _ t328 _ _ x8_1 _ _ t293 t333 _ ?side1 ?side2 ?side3 ?side4 ?side5 ?side6 A55.out).mono ?_); (case side1 => repeat (first | exact (Kd.R_reads' HO332.out).2.2 | (with_reducible refine Kd.C_alloc ?_ _) | (with_reducible refine Kd.C_drewN ?_ _) | (with_reducible refine Kd.C_drew ?_))); (case side2 => exact (Kd.R_reads' HO332.out).2.1); (case side3 => repeat (first | exact (Kd.R_reads' HO_8.out).2.2 | (with_reducible refine Kd.C_alloc ?_ _) | (with_reducible refine Kd.C_drewN ?_ _) | (with_reducible refine Kd.C_drew ?_))); (case side4 => exact (Kd.R_reads' HO_8.out).2.1); (case side5 => repeat (first | exact (Kd.R_reads' HO_5.out).2.2 | (with_reducible refine Kd.C_alloc ?_ _) | (with_reducible refine Kd.C_drewN ?_ _) | (with_reducible refine Kd.C_drew ?_))); (case side6 => exact (Kd.R_reads' HO_5.out).2.1); rintro e w76 ⟨v334, rfl, ho0, hb⟩; refine ⟨_, rfl, ?_⟩; have n0_ := Aside0.mk (Kd.R_elder' (by (with_reducible repeat (first | apply Kd.R_alloc | apply Kd.R_drewN | apply Kd.R_drew)); exact HO_5.out) (Kd.R_base ho0) hb); have n1_ := Aside0.mk (Kd.R_elder' (by (with_reducible repeat (first | apply Kd.R_alloc | apply Kd.R_drewN | apply Kd.R_drew)); exact HO_6.out) (Kd.R_base ho0) hb); have n2_ := Aside0.mk (Kd.R_elder' (by (with_reducible repeat (first | apply Kd.R_alloc | apply Kd.R_drewN | apply Kd.R_drew)); exact HO_7.out) (Kd.R_base ho0) hb); have n3_ := Aside0.mk (Kd.R_elder' (by (with_reducible repeat (first | apply Kd.R_alloc | apply Kd.R_drewN | apply Kd.R_drew)); exact HO_8.out) (Kd.R_base ho0) hb); have n4_ := Aside0.mk (Kd.R_below (by (with_reducible repeat (first | apply Kd.R_alloc | apply Kd.R_drewN | apply Kd.R_drew)); exact HO323.out) hb); have n5_ := Aside0.mk (Kd.R_elder' (by (with_reducible repeat (first | apply Kd.R_alloc | apply Kd.R_drewN | apply Kd.R_drew)); exact HO326.out) (Kd.R_base ho0) hb); have n6_ := Aside0.mk (Kd.R_elder' (by (with_reducible repeat (first | apply Kd.R_alloc | apply Kd.R_drewN | apply Kd.R_drew)); exact HO330.out) (Kd.R_base ho0) hb); have n7_ := Aside0.mk (Kd.R_elder' (by (with_reducible repeat (first | apply Kd.R_alloc | apply Kd.R_drewN | apply Kd.R_drew)); exact HO332.out) (Kd.R_base ho0) hb); have n8_ := Aside0.mk (Kd.R_lower (Kd.R_new' (Kd.R_new' (Kd.R_new' (Kd.R_new' (Kd.R_new' (Kd.R_new' (Kd.R_new' ho0 (Kd.R_lt (by (with_reducible repeat (first | apply Kd.R_alloc | apply Kd.R_drewN | apply Kd.R_drew)); exact HO_5.out))) (Kd.R_lt (by (with_reducible repeat (first | apply Kd.R_alloc | apply Kd.R_drewN | apply Kd.R_drew)); exact HO_6.out))) (Kd.R_lt (by (with_reducible repeat (first | apply Kd.R_alloc | apply Kd.R_drewN | apply Kd.R_drew)); exact HO_7.out))) (Kd.R_lt (by (with_reducible repeat (first | apply Kd.R_alloc | apply Kd.R_drewN | apply Kd.R_drew)); exact HO_8.out))) (Kd.R_lt (by (with_reducible repeat (first | apply Kd.R_alloc | apply Kd.R_drewN | apply Kd.R_drew)); exact HO326.out))) (Kd.R_lt (by (with_reducible repeat (first | apply Kd.R_alloc | apply Kd.R_drewN | apply Kd.R_drew)); exact HO330.out))) (Kd.R_lt (by (with_reducible repeat (first | apply Kd.R_alloc | apply Kd.R_drewN | apply Kd.R_drew)); exact HO332.out))) (below_size (by repeat (first | (with_reducible first | exact HB.out | apply below_alloc | apply pw_below_drewN | apply below_drew1) | exact HB.out)))); have n9_ := Aside0.mk (below_step (by repeat (first | (with_reducible first | exact HB.out | apply below_alloc | apply pw_below_drewN | apply below_drew1) | exact HB.out)) hb); clear HO_5; clear HO_6; clear HO_7; clear HO_8; clear HO323; clear HO326; clear HO330; clear HO332; clear HB; have HO_5 := n0_; have HO_6 := n1_; have HO_7 := n2_; have HO_8 := n3_; have HO323 := n4_; have HO326 := n5_; have HO330 := n6_; have HO332 := n7_; have HO335 := n8_; have HB := n9_; clear n0_ n1_ n2_ n3_ n4_ n5_ n6_ n7_ n8_ n9_; (try clear hb); (try clear hb2); (try clear hk); (try clear hi); (try clear ho0); obtain ⟨Ao77, co77, eo77⟩ := Kd.R_slice HO335.out; subst eo77) | ((with_reducible refine gate_callee (f := 48) rfl ?_); refine goesL_ (some 60) rfl rfl Try.func48 (by kernel_rfl) rfl #[.slice Ao77 t333.length co77, .slice Ao34 y296.length co34] rfl (by (try simp only [List.map_toArray, List.map_cons, List.map_nil]); first | done | rfl | (simp only [List.length_drop, List.length_take]; rfl)) ?_; (with_reducible refine (clepsydraref03_cmp.calls _ _ t333 _ _ y296 t336 _ ?side1 ?side2 ?side3 ?side4 A56.out).mono ?_); (case side1 => repeat (first | exact (Kd.R_reads' HO335.out).2.2 | (with_reducible refine Kd.C_alloc ?_ _) | (with_reducible refine Kd.C_drewN ?_ _) | (with_reducible refine Kd.C_drew ?_))); (case side2 => exact (Kd.R_reads' HO335.out).2.1); (case side3 => repeat (first | exact (Kd.R_reads' HO_6.out).2.2 | (with_reducible refine Kd.C_alloc ?_ _) | (with_reducible refine Kd.C_drewN ?_ _) | (with_reducible refine Kd.C_drew ?_))); (case side4 => exact (Kd.R_reads' HO_6.out).2.1); rintro e w' ⟨rfl, ⟨nd, rfl⟩⟩; refine ⟨_, rfl, ?_⟩))
                go_loopg [12, 13] k1 (fun kq v12 v13 w' => ∃ (x12_2 : List Int) (x13_2 : Int), v13 = .int .i64 x13_2 ∧ Aside0 (clepsydraref03_Tells.l1 kq t293 t308 x9_1 x12_2 x13_2 = some r) ∧ Aside0 (kq ≤ k1) ∧ Aside0 (Kd.R (Kd.int .i64) 3 w' w.heap.size (fun k_ => some k_ ≠ (v309 : Value).ownBlock ∧ some k_ ≠ (v12 : Value).ownBlock) (.slice Ao32 t293.length co32) t293) ∧ Aside0 (Kd.R (Kd.int .i64) 3 w' w.heap.size (fun k_ => some k_ ≠ ((.slice Ao32 t293.length co32) : Value).ownBlock ∧ some k_ ≠ (v12 : Value).ownBlock) v309 t308) ∧ Aside0 (Kd.R (Kd.int .i64) 3 w' w.heap.size (fun k_ => some k_ ≠ ((.slice Ao32 t293.length co32) : Value).ownBlock ∧ some k_ ≠ (v309 : Value).ownBlock) v12 x12_2) ∧ Aside0 (Below w.heap.size w w'))
                case atStart => exact ⟨(t333), (0), (by first | rfl | (simp; done) | (simp [*]; done)), H', ⟨Nat.le_refl _⟩, ⟨by (with_reducible repeat (first | apply Kd.R_alloc | apply Kd.R_drewN | apply Kd.R_drew)); exact Kd.R_mono HO_5.out (fun _ hk => by first | exact ⟨hk.1.1.1.1.2.1, hk.2⟩ | grind)⟩, ⟨by (with_reducible repeat (first | apply Kd.R_alloc | apply Kd.R_drewN | apply Kd.R_drew)); exact Kd.R_mono HO_7.out (fun _ hk => by first | exact ⟨hk.1.1.1.1.1, hk.2⟩ | grind)⟩, ⟨by (with_reducible repeat (first | apply Kd.R_alloc | apply Kd.R_drewN | apply Kd.R_drew)); exact Kd.R_mono HO335.out (fun _ hk => by first | exact ⟨hk.1.1.1.1.1.1.2, hk.1.1.1.1.2⟩ | grind)⟩, ⟨by repeat (first | (with_reducible first | exact HB.out | apply below_alloc | apply pw_below_drewN | apply below_drew1) | exact HB.out)⟩⟩
                case round =>
                  clear H'
                  try clear c1
                  try clear p2
                  try clear c3
                  try clear c4
                  try clear c5
                  try clear c5b0
                  try clear p6
                  try clear c18
                  try clear c18b0
                  try clear c18b1
                  try clear c30
                  try clear c36
                  try clear c37
                  try clear c37b0
                  try clear c37b1
                  try clear c43
                  try clear c46
                  try clear c46b0
                  try clear c46b1
                  try clear c46b2
                  try clear c48
                  try clear c56
                  try clear c57
                  try clear c57b0
                  try clear c57b1
                  try clear p64
                  try clear p2
                  obtain ⟨x12_2, x13_2, rfl, HA, HK2, HO_5, HO_7, HO_12, HB⟩ := hrel
                  cases gk with
                  | zero => exact absurd HA.out (by simp [clepsydraref03_Tells.l1])
                  | succ k2 =>
                    have H := HA.out
                    clear HA
                    simp only [clepsydraref03_Tells.l1] at H
                    by_cases c78 : x13_2 < x9_1
                    · rw [if_pos c78] at H
                      have c78b0 : decide (x13_2 < x9_1) = true := decide_eq_true c78
                      clear c78
                      replace H := Option.bind_eq_some_iff.mp H
                      obtain ⟨t337, A790, H⟩ := H
                      replace H : (if t337 = 0 then (some false) else ((clepsydraref03_times.f x12_2 x12_2 t293).bind fun t338 => (clepsydraref03_Tells.l1 k2 t293 t308 x9_1 t338 (wrap64 (x13_2 + 1))))) = some r := H
                      have A79 := Aside0.mk A790
                      clear A790
                      by_cases c80 : t337 = 0
                      · rw [if_pos c80] at H
                        have c80b0 : (t337 == 0) = true := beq_iff_eq.mpr c80
                        have c80b1 : (t337 != 0) = false := bne_eq_false_iff_eq.mpr c80
                        clear c80
                        obtain rfl := Option.some.inj H
                        simp only [Option.some.injEq, Prod.mk.injEq] at H
                        obtain ⟨rfl⟩ := H
                        obtain ⟨Ao81, co81, eo81⟩ := Kd.R_slice HO_12.out
                        subst eo81
                        obtain ⟨Ao82, co82, eo82⟩ := Kd.R_slice HO_7.out
                        subst eo82
                        go_wp2_with (first | ((with_reducible refine gate_callee (f := 48) rfl ?_); refine goesL_ (some 69) rfl rfl Try.func48 (by kernel_rfl) rfl #[.slice Ao81 x12_2.length co81, .slice Ao82 t308.length co82] rfl (by (try simp only [List.map_toArray, List.map_cons, List.map_nil]); first | done | rfl | (simp only [List.length_drop, List.length_take]; rfl)) ?_; (with_reducible refine (clepsydraref03_cmp.calls _ _ x12_2 _ _ t308 t337 _ ?side1 ?side2 ?side3 ?side4 A79.out).mono ?_); (case side1 => repeat (first | exact (Kd.R_reads' HO_12.out).2.2 | (with_reducible refine Kd.C_alloc ?_ _) | (with_reducible refine Kd.C_drewN ?_ _) | (with_reducible refine Kd.C_drew ?_))); (case side2 => exact (Kd.R_reads' HO_12.out).2.1); (case side3 => repeat (first | exact (Kd.R_reads' HO_7.out).2.2 | (with_reducible refine Kd.C_alloc ?_ _) | (with_reducible refine Kd.C_drewN ?_ _) | (with_reducible refine Kd.C_drew ?_))); (case side4 => exact (Kd.R_reads' HO_7.out).2.1); rintro e w' ⟨rfl, ⟨nd, rfl⟩⟩; refine ⟨_, rfl, ?_⟩))
                        go_ret
                        exact ⟨by first | rfl | (simp [errW_none, errW_some] <;> rfl) | (simp [*, errW_none, errW_some] <;> rfl), by repeat (first | (with_reducible first | exact HB.out | apply below_alloc | apply pw_below_drewN | apply below_drew1) | exact HB.out)⟩
                      · rw [if_neg c80] at H
                        have c80b0 : (t337 == 0) = false := beq_eq_false_iff_ne.mpr c80
                        have c80b1 : (t337 != 0) = true := bne_iff_ne.mpr c80
                        replace H := Option.bind_eq_some_iff.mp H
                        obtain ⟨t338, A830, H⟩ := H
                        replace H : (clepsydraref03_Tells.l1 k2 t293 t308 x9_1 t338 (wrap64 (x13_2 + 1))) = some r := H
                        have A83 := Aside0.mk A830
                        clear A830
                        have H' := Aside0.mk H
                        clear H
                        obtain ⟨Ao84, co84, eo84⟩ := Kd.R_slice HO_12.out
                        subst eo84
                        obtain ⟨Ao85, co85, eo85⟩ := Kd.R_slice HO_7.out
                        subst eo85
                        go_wp2_with (first | ((with_reducible refine gate_callee (f := 48) rfl ?_); refine goesL_ (some 69) rfl rfl Try.func48 (by kernel_rfl) rfl #[.slice Ao84 x12_2.length co84, .slice Ao85 t308.length co85] rfl (by (try simp only [List.map_toArray, List.map_cons, List.map_nil]); first | done | rfl | (simp only [List.length_drop, List.length_take]; rfl)) ?_; (with_reducible refine (clepsydraref03_cmp.calls _ _ x12_2 _ _ t308 t337 _ ?side1 ?side2 ?side3 ?side4 A79.out).mono ?_); (case side1 => repeat (first | exact (Kd.R_reads' HO_12.out).2.2 | (with_reducible refine Kd.C_alloc ?_ _) | (with_reducible refine Kd.C_drewN ?_ _) | (with_reducible refine Kd.C_drew ?_))); (case side2 => exact (Kd.R_reads' HO_12.out).2.1); (case side3 => repeat (first | exact (Kd.R_reads' HO_7.out).2.2 | (with_reducible refine Kd.C_alloc ?_ _) | (with_reducible refine Kd.C_drewN ?_ _) | (with_reducible refine Kd.C_drew ?_))); (case side4 => exact (Kd.R_reads' HO_7.out).2.1); rintro e w' ⟨rfl, ⟨nd, rfl⟩⟩; refine ⟨_, rfl, ?_⟩) | ((with_reducible refine gate_callee (f := 39) rfl ?_); refine goesL_ (some 74) rfl rfl Try.func39 (by kernel_rfl) rfl #[.slice Ao84 x12_2.length co84, .slice Ao84 x12_2.length co84, .slice Ao32 t293.length co32] rfl (by (try simp only [List.map_toArray, List.map_cons, List.map_nil]); first | done | rfl | (simp only [List.length_drop, List.length_take]; rfl)) ?_; (with_reducible refine (clepsydraref03_times.calls _ _ x12_2 _ _ x12_2 _ _ t293 t338 _ ?side1 ?side2 ?side3 ?side4 ?side5 ?side6 A83.out).mono ?_); (case side1 => repeat (first | exact (Kd.R_reads' HO_12.out).2.2 | (with_reducible refine Kd.C_alloc ?_ _) | (with_reducible refine Kd.C_drewN ?_ _) | (with_reducible refine Kd.C_drew ?_))); (case side2 => exact (Kd.R_reads' HO_12.out).2.1); (case side3 => repeat (first | exact (Kd.R_reads' HO_12.out).2.2 | (with_reducible refine Kd.C_alloc ?_ _) | (with_reducible refine Kd.C_drewN ?_ _) | (with_reducible refine Kd.C_drew ?_))); (case side4 => exact (Kd.R_reads' HO_12.out).2.1); (case side5 => repeat (first | exact (Kd.R_reads' HO_5.out).2.2 | (with_reducible refine Kd.C_alloc ?_ _) | (with_reducible refine Kd.C_drewN ?_ _) | (with_reducible refine Kd.C_drew ?_))); (case side6 => exact (Kd.R_reads' HO_5.out).2.1); rintro e w86 ⟨v339, rfl, ho0, hb⟩; refine ⟨_, rfl, ?_⟩; have n0_ := Aside0.mk (Kd.R_elder' (by (with_reducible repeat (first | apply Kd.R_alloc | apply Kd.R_drewN | apply Kd.R_drew)); exact HO_5.out) (Kd.R_base ho0) hb); have n1_ := Aside0.mk (Kd.R_elder' (by (with_reducible repeat (first | apply Kd.R_alloc | apply Kd.R_drewN | apply Kd.R_drew)); exact HO_7.out) (Kd.R_base ho0) hb); have n2_ := Aside0.mk (Kd.R_elder' (by (with_reducible repeat (first | apply Kd.R_alloc | apply Kd.R_drewN | apply Kd.R_drew)); exact HO_12.out) (Kd.R_base ho0) hb); have n3_ := Aside0.mk (Kd.R_lower (Kd.R_new' (Kd.R_new' (Kd.R_new' ho0 (Kd.R_lt (by (with_reducible repeat (first | apply Kd.R_alloc | apply Kd.R_drewN | apply Kd.R_drew)); exact HO_5.out))) (Kd.R_lt (by (with_reducible repeat (first | apply Kd.R_alloc | apply Kd.R_drewN | apply Kd.R_drew)); exact HO_7.out))) (Kd.R_lt (by (with_reducible repeat (first | apply Kd.R_alloc | apply Kd.R_drewN | apply Kd.R_drew)); exact HO_12.out))) (below_size (by repeat (first | (with_reducible first | exact HB.out | apply below_alloc | apply pw_below_drewN | apply below_drew1) | exact HB.out)))); have n4_ := Aside0.mk (below_step (by repeat (first | (with_reducible first | exact HB.out | apply below_alloc | apply pw_below_drewN | apply below_drew1) | exact HB.out)) hb); clear HO_5; clear HO_7; clear HO_12; clear HB; have HO_5 := n0_; have HO_7 := n1_; have HO_12 := n2_; have HO340 := n3_; have HB := n4_; clear n0_ n1_ n2_ n3_ n4_; (try clear hb); (try clear hb2); (try clear hk); (try clear hi); (try clear ho0)))
                        go_roundg k2
                        case measure => have := HK1.out; have := HK2.out; omega
                        case rel => exact ⟨(t338), (wrap64 (x13_2 + 1)), (by first | rfl | (simp; done) | (simp [*]; done)), H', ⟨by have := HK1.out; have := HK2.out; omega⟩, ⟨by (with_reducible repeat (first | apply Kd.R_alloc | apply Kd.R_drewN | apply Kd.R_drew)); exact Kd.R_mono HO_5.out (fun _ hk => by first | exact ⟨hk.1.1, hk.2⟩ | grind)⟩, ⟨by (with_reducible repeat (first | apply Kd.R_alloc | apply Kd.R_drewN | apply Kd.R_drew)); exact Kd.R_mono HO_7.out (fun _ hk => by first | exact ⟨hk.1.1, hk.2⟩ | grind)⟩, ⟨by (with_reducible repeat (first | apply Kd.R_alloc | apply Kd.R_drewN | apply Kd.R_drew)); exact Kd.R_mono HO340.out (fun _ hk => by first | exact ⟨hk.1.1.2, hk.1.2⟩ | grind)⟩, ⟨by repeat (first | (with_reducible first | exact HB.out | apply below_alloc | apply pw_below_drewN | apply below_drew1) | exact HB.out)⟩⟩
                    · rw [if_neg c78] at H
                      have c78b0 : decide (x13_2 < x9_1) = false := decide_eq_false c78
                      clear c78
                      obtain rfl := Option.some.inj H
                      simp only [Option.some.injEq, Prod.mk.injEq] at H
                      obtain ⟨rfl⟩ := H
                      go_wp2
                      go_ret
                      exact ⟨by first | rfl | (simp [errW_none, errW_some] <;> rfl) | (simp [*, errW_none, errW_some] <;> rfl), by repeat (first | (with_reducible first | exact HB.out | apply below_alloc | apply pw_below_drewN | apply below_drew1) | exact HB.out)⟩
def clepsydraref03_Prime.l0 : Nat → List Int → List Int → Int → Option (Bool)
  | 0, _, _, _ => none
  | k + 1, x0, x1, x5 => if x5 < (x1.length : Int) then (if 0 ≤ x5 then ((clepsydraref03_Tells.f k x0 (rd x1 x5)).bind fun t349 => (if t349 = true then (some false) else (clepsydraref03_Prime.l0 k x0 x1 (wrap64 (x5 + 1))))) else (none)) else (some true)
def clepsydraref03_Prime.f (k : Nat) (l0 : List Int) (l1 : List Int) : Option (Bool) := (clepsydraref03_Digits.f k l0).bind fun t341 => ((clepsydraref03_cmp.f t341 (([2] : List Int))).bind fun t347 => (if t347 < 0 then (some false) else (clepsydraref03_Prime.l0 k l0 l1 0)))
set_option maxHeartbeats 8000000 in
set_option maxRecDepth 100000 in
theorem clepsydraref03_Prime.calls (k : Nat) (A0 : Option Addr) (c0 : Nat) (l0 : List Int) (A1 : Option Addr) (c1 : Nat) (l1 : List Int) (r : Bool) (w : World) (hr0 : Kd.C (Kd.int .u64) w A0 l0.length l0) (hc0 : l0.length ≤ c0) (hr1 : Kd.C (Kd.int .u64) w A1 l1.length l1) (hc1 : l1.length ≤ c1) (h : clepsydraref03_Prime.f k l0 l1 = some r) :
    Calls Try.prog 32 #[.slice A0 l0.length c0, .slice A1 l1.length c1] w fun e w' => e = .returned (.bool r) ∧ Below w.heap.size w w' := by
  have HR0 := Aside0.mk hr0
  have HC0 := Aside0.mk hc0
  clear hr0 hc0
  have HR1 := Aside0.mk hr1
  have HC1 := Aside0.mk hc1
  clear hr1 hc1
  have HB := Aside0.mk (Below.refl w.heap.size w)
  have H : ((clepsydraref03_Digits.f k l0).bind fun t341 => ((clepsydraref03_cmp.f t341 (([2] : List Int))).bind fun t347 => (if t347 < 0 then (some false) else (clepsydraref03_Prime.l0 k l0 l1 0)))) = some r := h
  clear h
  replace H := Option.bind_eq_some_iff.mp H
  obtain ⟨t341, A30, H⟩ := H
  replace H : ((clepsydraref03_cmp.f t341 (([2] : List Int))).bind fun t347 => (if t347 < 0 then (some false) else (clepsydraref03_Prime.l0 k l0 l1 0))) = some r := H
  have A3 := Aside0.mk A30
  clear A30
  obtain ⟨y344, hy344⟩ : ∃ y_ : List Int, y_ = (([2] : List Int)) := ⟨_, rfl⟩
  replace H : ((clepsydraref03_cmp.f t341 y344).bind fun t347 => (if t347 < 0 then (some false) else (clepsydraref03_Prime.l0 k l0 l1 0))) = some r := by first | (rw [hy344]; with_reducible exact H) | (have H2_ := (Option.bind_some _ _).symm.trans H; rw [hy344]; with_reducible exact H2_) | (have H2_ := (Option.bind_some _ _).symm.trans H; with_reducible exact H2_) | with_reducible exact H | (rw [hy344]; exact H) | exact H
  have Ny344 := Aside0.mk hy344
  clear hy344
  replace H := Option.bind_eq_some_iff.mp H
  obtain ⟨t347, A40, H⟩ := H
  replace H : (if t347 < 0 then (some false) else (clepsydraref03_Prime.l0 k l0 l1 0)) = some r := H
  have A4 := Aside0.mk A40
  clear A40
  by_cases c5 : t347 < 0
  · rw [if_pos c5] at H
    have c5b0 : decide (t347 < 0) = true := decide_eq_true c5
    clear c5
    obtain rfl := Option.some.inj H
    simp only [Option.some.injEq, Prod.mk.injEq] at H
    obtain ⟨rfl⟩ := H
    go_enter Try.func32, Try.ntmps32
    go_wp2_with (first | ((with_reducible refine gate_callee (f := 36) rfl ?_); refine goesL_ (some 7) rfl rfl Try.func36 (by kernel_rfl) rfl #[.slice A0 l0.length c0] rfl (by (try simp only [List.map_toArray, List.map_cons, List.map_nil]); first | done | rfl | (simp only [List.length_drop, List.length_take]; rfl)) ?_; (with_reducible refine (clepsydraref03_Digits.calls k _ _ l0 t341 _ ?side1 ?side2 A3.out).mono ?_); (case side1 => repeat (first | exact HR0.out | (with_reducible refine Kd.C_alloc ?_ _) | (with_reducible refine Kd.C_drewN ?_ _) | (with_reducible refine Kd.C_drew ?_))); (case side2 => exact HC0.out); rintro e w6 ⟨v342, rfl, ho0, hb⟩; refine ⟨_, rfl, ?_⟩; have n0_ := Aside0.mk (Kd.R_lower ho0 (below_size (by repeat (first | (with_reducible first | exact HB.out | apply below_alloc | apply pw_below_drewN | apply below_drew1) | exact HB.out)))); have n1_ := Aside0.mk (below_step (by repeat (first | (with_reducible first | exact HB.out | apply below_alloc | apply pw_below_drewN | apply below_drew1) | exact HB.out)) hb); clear HB; have HO343 := n0_; have HB := n1_; clear n0_ n1_; (try clear hb); (try clear hb2); (try clear hk); (try clear hi); (try clear ho0)) | ((with_reducible refine gate_dst (N := 8) rfl ?_); refine Kd.R_lit (Kd.int .i64) _ 3 ?hg (N := 8) ?hd (xs := ([2] : List Int)) (inner := [.int .i64 2]) (ok := fun _ => True) (okp := fun _ => True) ?hr ?hp (fun _ hk => hk) trivial (Below.refl _ _) (Nat.le_refl _) (by simp) ?_; (case hd => rfl); (case hg => rfl); (case hr => first | (go_simp; done) | (go_simp; rfl)); (case hp => exact (Reps.one (show Kd.M (Kd.int .i64) _ _ _ 2 [.int .i64 2] from rfl) (Reps.none _ _))); intro v345 w7 ho8 hb hg_ hnew_; clear hg_ hnew_; (first | rw [← Ny344.out] at ho8 | (simp only [Int.reduceToNat] at ho8; rw [← Ny344.out] at ho8)); have n0_ := Aside0.mk (Kd.R_elder' (by (with_reducible repeat (first | apply Kd.R_alloc | apply Kd.R_drewN | apply Kd.R_drew)); exact HO343.out) (Kd.R_base ho8) hb); have n1_ := Aside0.mk (Kd.R_lower (Kd.R_new' ho8 (Kd.R_lt (by (with_reducible repeat (first | apply Kd.R_alloc | apply Kd.R_drewN | apply Kd.R_drew)); exact HO343.out))) (below_size (by repeat (first | (with_reducible first | exact HB.out | apply below_alloc | apply pw_below_drewN | apply below_drew1) | exact HB.out)))); have n2_ := Aside0.mk (below_step (by repeat (first | (with_reducible first | exact HB.out | apply below_alloc | apply pw_below_drewN | apply below_drew1) | exact HB.out)) hb); clear HO343; clear HB; have HO343 := n0_; have HO346 := n1_; have HB := n2_; clear n0_ n1_ n2_; clear hb ho8; obtain ⟨Ao9, co9, eo9⟩ := Kd.R_slice HO343.out; subst eo9; obtain ⟨Ao10, co10, eo10⟩ := Kd.R_slice HO346.out; subst eo10) | ((with_reducible refine gate_callee (f := 48) rfl ?_); refine goesL_ (some 9) rfl rfl Try.func48 (by kernel_rfl) rfl #[.slice Ao9 t341.length co9, .slice Ao10 y344.length co10] rfl (by (try simp only [List.map_toArray, List.map_cons, List.map_nil]); first | done | rfl | (simp only [List.length_drop, List.length_take]; rfl)) ?_; (with_reducible refine (clepsydraref03_cmp.calls _ _ t341 _ _ y344 t347 _ ?side1 ?side2 ?side3 ?side4 A4.out).mono ?_); (case side1 => repeat (first | exact (Kd.R_reads' HO343.out).2.2 | (with_reducible refine Kd.C_alloc ?_ _) | (with_reducible refine Kd.C_drewN ?_ _) | (with_reducible refine Kd.C_drew ?_))); (case side2 => exact (Kd.R_reads' HO343.out).2.1); (case side3 => repeat (first | exact (Kd.R_reads' HO346.out).2.2 | (with_reducible refine Kd.C_alloc ?_ _) | (with_reducible refine Kd.C_drewN ?_ _) | (with_reducible refine Kd.C_drew ?_))); (case side4 => exact (Kd.R_reads' HO346.out).2.1); rintro e w' ⟨rfl, ⟨nd, rfl⟩⟩; refine ⟨_, rfl, ?_⟩))
    go_ret
    exact ⟨by first | rfl | (simp [errW_none, errW_some] <;> rfl) | (simp [*, errW_none, errW_some] <;> rfl), by repeat (first | (with_reducible first | exact HB.out | apply below_alloc | apply pw_below_drewN | apply below_drew1) | exact HB.out)⟩
  · rw [if_neg c5] at H
    have c5b0 : decide (t347 < 0) = false := decide_eq_false c5
    clear c5
    have H' := Aside0.mk H
    clear H
    go_enter Try.func32, Try.ntmps32
    go_wp2_with (first | ((with_reducible refine gate_callee (f := 36) rfl ?_); refine goesL_ (some 7) rfl rfl Try.func36 (by kernel_rfl) rfl #[.slice A0 l0.length c0] rfl (by (try simp only [List.map_toArray, List.map_cons, List.map_nil]); first | done | rfl | (simp only [List.length_drop, List.length_take]; rfl)) ?_; (with_reducible refine (clepsydraref03_Digits.calls k _ _ l0 t341 _ ?side1 ?side2 A3.out).mono ?_); (case side1 => repeat (first | exact HR0.out | (with_reducible refine Kd.C_alloc ?_ _) | (with_reducible refine Kd.C_drewN ?_ _) | (with_reducible refine Kd.C_drew ?_))); (case side2 => exact HC0.out); rintro e w11 ⟨v342, rfl, ho0, hb⟩; refine ⟨_, rfl, ?_⟩; have n0_ := Aside0.mk (Kd.R_lower ho0 (below_size (by repeat (first | (with_reducible first | exact HB.out | apply below_alloc | apply pw_below_drewN | apply below_drew1) | exact HB.out)))); have n1_ := Aside0.mk (below_step (by repeat (first | (with_reducible first | exact HB.out | apply below_alloc | apply pw_below_drewN | apply below_drew1) | exact HB.out)) hb); clear HB; have HO343 := n0_; have HB := n1_; clear n0_ n1_; (try clear hb); (try clear hb2); (try clear hk); (try clear hi); (try clear ho0)) | ((with_reducible refine gate_dst (N := 8) rfl ?_); refine Kd.R_lit (Kd.int .i64) _ 3 ?hg (N := 8) ?hd (xs := ([2] : List Int)) (inner := [.int .i64 2]) (ok := fun _ => True) (okp := fun _ => True) ?hr ?hp (fun _ hk => hk) trivial (Below.refl _ _) (Nat.le_refl _) (by simp) ?_; (case hd => rfl); (case hg => rfl); (case hr => first | (go_simp; done) | (go_simp; rfl)); (case hp => exact (Reps.one (show Kd.M (Kd.int .i64) _ _ _ 2 [.int .i64 2] from rfl) (Reps.none _ _))); intro v345 w12 ho13 hb hg_ hnew_; clear hg_ hnew_; (first | rw [← Ny344.out] at ho13 | (simp only [Int.reduceToNat] at ho13; rw [← Ny344.out] at ho13)); have n0_ := Aside0.mk (Kd.R_elder' (by (with_reducible repeat (first | apply Kd.R_alloc | apply Kd.R_drewN | apply Kd.R_drew)); exact HO343.out) (Kd.R_base ho13) hb); have n1_ := Aside0.mk (Kd.R_lower (Kd.R_new' ho13 (Kd.R_lt (by (with_reducible repeat (first | apply Kd.R_alloc | apply Kd.R_drewN | apply Kd.R_drew)); exact HO343.out))) (below_size (by repeat (first | (with_reducible first | exact HB.out | apply below_alloc | apply pw_below_drewN | apply below_drew1) | exact HB.out)))); have n2_ := Aside0.mk (below_step (by repeat (first | (with_reducible first | exact HB.out | apply below_alloc | apply pw_below_drewN | apply below_drew1) | exact HB.out)) hb); clear HO343; clear HB; have HO343 := n0_; have HO346 := n1_; have HB := n2_; clear n0_ n1_ n2_; clear hb ho13; obtain ⟨Ao14, co14, eo14⟩ := Kd.R_slice HO343.out; subst eo14; obtain ⟨Ao15, co15, eo15⟩ := Kd.R_slice HO346.out; subst eo15) | ((with_reducible refine gate_callee (f := 48) rfl ?_); refine goesL_ (some 9) rfl rfl Try.func48 (by kernel_rfl) rfl #[.slice Ao14 t341.length co14, .slice Ao15 y344.length co15] rfl (by (try simp only [List.map_toArray, List.map_cons, List.map_nil]); first | done | rfl | (simp only [List.length_drop, List.length_take]; rfl)) ?_; (with_reducible refine (clepsydraref03_cmp.calls _ _ t341 _ _ y344 t347 _ ?side1 ?side2 ?side3 ?side4 A4.out).mono ?_); (case side1 => repeat (first | exact (Kd.R_reads' HO343.out).2.2 | (with_reducible refine Kd.C_alloc ?_ _) | (with_reducible refine Kd.C_drewN ?_ _) | (with_reducible refine Kd.C_drew ?_))); (case side2 => exact (Kd.R_reads' HO343.out).2.1); (case side3 => repeat (first | exact (Kd.R_reads' HO346.out).2.2 | (with_reducible refine Kd.C_alloc ?_ _) | (with_reducible refine Kd.C_drewN ?_ _) | (with_reducible refine Kd.C_drew ?_))); (case side4 => exact (Kd.R_reads' HO346.out).2.1); rintro e w' ⟨rfl, ⟨nd, rfl⟩⟩; refine ⟨_, rfl, ?_⟩))
    go_loopg [5] k (fun kq v5 w' => ∃ (x5_1 : Int), v5 = .int .i64 x5_1 ∧ Aside0 (clepsydraref03_Prime.l0 kq l0 l1 x5_1 = some r) ∧ Aside0 (kq ≤ k) ∧ Aside0 (Below w.heap.size w w'))
    case atStart => exact ⟨(0), (by first | rfl | (simp; done) | (simp [*]; done)), H', ⟨Nat.le_refl _⟩, ⟨by repeat (first | (with_reducible first | exact HB.out | apply below_alloc | apply pw_below_drewN | apply below_drew1) | exact HB.out)⟩⟩
    case round =>
      clear H'
      try clear c1
      try clear p2
      try clear c3
      try clear c4
      try clear c5
      try clear c5b0
      obtain ⟨x5_1, rfl, HA, HK1, HB⟩ := hrel
      cases gk with
      | zero => exact absurd HA.out (by simp [clepsydraref03_Prime.l0])
      | succ k1 =>
        have H := HA.out
        clear HA
        simp only [clepsydraref03_Prime.l0] at H
        by_cases c16 : x5_1 < (l1.length : Int)
        · rw [if_pos c16] at H
          have c16b0 : decide (x5_1 < (l1.length : Int)) = true := decide_eq_true c16
          clear c16
          by_cases c17 : 0 ≤ x5_1
          · rw [if_pos c17] at H
            have c17b0 : decide (0 ≤ x5_1) = true := decide_eq_true c17
            clear c17
            replace H := Option.bind_eq_some_iff.mp H
            obtain ⟨t349, A180, H⟩ := H
            replace H : (if t349 = true then (some false) else (clepsydraref03_Prime.l0 k1 l0 l1 (wrap64 (x5_1 + 1)))) = some r := H
            have A18 := Aside0.mk A180
            clear A180
            by_cases c19 : t349 = true
            · subst c19
              have H1 : (some false) = some r := by rw [if_pos rfl] at H; exact H
              clear H
              have H := H1
              clear H1
              obtain rfl := Option.some.inj H
              simp only [Option.some.injEq, Prod.mk.injEq] at H
              obtain ⟨rfl⟩ := H
              have p348 : 0 ≤ (x5_1 : Int) := of_decide_eq_true (by first | (with_reducible assumption) | assumption)
              have q348 : x5_1 < (l1.length : Int) := of_decide_eq_true (by first | (with_reducible assumption) | assumption)
              obtain ⟨ad348, e348, hx348_0⟩ := Kd.at_int HR1.out x5_1 p348 q348
              cases e348
              replace hx348_0 := (HB.out.cell (World.block_lt_of_cell? w _ hx348_0)).trans hx348_0
              replace p348 := eq_true p348
              replace q348 := eq_true q348
              go_wp2_with (first | ((with_reducible refine gate_callee (f := 30) rfl ?_); refine goesL_ (some 22) rfl rfl Try.func30 (by kernel_rfl) rfl #[.slice A0 l0.length c0, .int .u64 (rd l1 x5_1)] rfl (by (try simp only [List.map_toArray, List.map_cons, List.map_nil]); first | done | rfl | (simp only [List.length_drop, List.length_take]; rfl)) ?_; (with_reducible refine (clepsydraref03_Tells.calls k1 _ _ l0 (rd l1 x5_1) true _ ?side1 ?side2 A18.out).mono ?_); (case side1 => repeat (first | exact (Kd.C_below HR0.out HB.out) | (with_reducible refine Kd.C_alloc ?_ _) | (with_reducible refine Kd.C_drewN ?_ _) | (with_reducible refine Kd.C_drew ?_))); (case side2 => exact HC0.out); rintro e w20 ⟨rfl, hb⟩; refine ⟨_, rfl, ?_⟩; have n0_ := Aside0.mk (below_step (by repeat (first | (with_reducible first | exact HB.out | apply below_alloc | apply pw_below_drewN | apply below_drew1) | exact HB.out)) hb); clear HB; have HB := n0_; clear n0_; (try clear hb); (try clear hb2); (try clear hk); (try clear hi)))
              go_ret
              exact ⟨by first | rfl | (simp [errW_none, errW_some] <;> rfl) | (simp [*, errW_none, errW_some] <;> rfl), by repeat (first | (with_reducible first | exact HB.out | apply below_alloc | apply pw_below_drewN | apply below_drew1) | exact HB.out)⟩
            · replace c19 := Bool.eq_false_iff.mpr c19
              subst c19
              have H1 : (clepsydraref03_Prime.l0 k1 l0 l1 (wrap64 (x5_1 + 1))) = some r := by rw [if_neg (show ¬ (false = true) by decide)] at H; exact H
              clear H
              have H := H1
              clear H1
              have H' := Aside0.mk H
              clear H
              have p348 : 0 ≤ (x5_1 : Int) := of_decide_eq_true (by first | (with_reducible assumption) | assumption)
              have q348 : x5_1 < (l1.length : Int) := of_decide_eq_true (by first | (with_reducible assumption) | assumption)
              obtain ⟨ad348, e348, hx348_0⟩ := Kd.at_int HR1.out x5_1 p348 q348
              cases e348
              replace hx348_0 := (HB.out.cell (World.block_lt_of_cell? w _ hx348_0)).trans hx348_0
              replace p348 := eq_true p348
              replace q348 := eq_true q348
              go_wp2_with (first | ((with_reducible refine gate_callee (f := 30) rfl ?_); refine goesL_ (some 22) rfl rfl Try.func30 (by kernel_rfl) rfl #[.slice A0 l0.length c0, .int .u64 (rd l1 x5_1)] rfl (by (try simp only [List.map_toArray, List.map_cons, List.map_nil]); first | done | rfl | (simp only [List.length_drop, List.length_take]; rfl)) ?_; (with_reducible refine (clepsydraref03_Tells.calls k1 _ _ l0 (rd l1 x5_1) false _ ?side1 ?side2 A18.out).mono ?_); (case side1 => repeat (first | exact (Kd.C_below HR0.out HB.out) | (with_reducible refine Kd.C_alloc ?_ _) | (with_reducible refine Kd.C_drewN ?_ _) | (with_reducible refine Kd.C_drew ?_))); (case side2 => exact HC0.out); rintro e w21 ⟨rfl, hb⟩; refine ⟨_, rfl, ?_⟩; have n0_ := Aside0.mk (below_step (by repeat (first | (with_reducible first | exact HB.out | apply below_alloc | apply pw_below_drewN | apply below_drew1) | exact HB.out)) hb); clear HB; have HB := n0_; clear n0_; (try clear hb); (try clear hb2); (try clear hk); (try clear hi)))
              go_roundg k1
              case measure => have := HK1.out; omega
              case rel => exact ⟨(wrap64 (x5_1 + 1)), (by first | rfl | (simp; done) | (simp [*]; done)), H', ⟨by have := HK1.out; omega⟩, ⟨by repeat (first | (with_reducible first | exact HB.out | apply below_alloc | apply pw_below_drewN | apply below_drew1) | exact HB.out)⟩⟩
          · rw [if_neg c17] at H
            exact absurd H (by simp)
        · rw [if_neg c16] at H
          have c16b0 : decide (x5_1 < (l1.length : Int)) = false := decide_eq_false c16
          clear c16
          obtain rfl := Option.some.inj H
          simp only [Option.some.injEq, Prod.mk.injEq] at H
          obtain ⟨rfl⟩ := H
          go_wp2
          go_ret
          exact ⟨by first | rfl | (simp [errW_none, errW_some] <;> rfl) | (simp [*, errW_none, errW_some] <;> rfl), by repeat (first | (with_reducible first | exact HB.out | apply below_alloc | apply pw_below_drewN | apply below_drew1) | exact HB.out)⟩
end Go.Proofs.Yteelppebdcgbpaa.Cr
namespace Go.Proofs.Yteelppebdcgbpaa.Cr
open Go.RowKit Go.Proofs.YteelppebdcgbpaaW.PrintWords Go.Proofs.YteelppebdcgbpaaW.PrintLast Go.Proofs.YteelppebdcgbpaaW.PrintMore
attribute [local go_sem] max2_int min2_int max_two min_two max_three min_three max_four min_four   -- for this text's walks alone
set_option linter.unusedVariables false
set_option linter.unusedSimpArgs false
end Go.Proofs.Yteelppebdcgbpaa.Cr
namespace Go.Proofs.Yteelppebdcgbpaa
set_option linter.unusedSimpArgs false
set_option linter.unusedVariables false
open Go.RowKit Go.Proofs.YteelppebdcgbpaaW.PrintWords Go.Proofs.YteelppebdcgbpaaW.PrintLast Go.Proofs.YteelppebdcgbpaaW.PrintMore
theorem rd_cI (xs : List Nat) (i : Nat) : rd (cI xs) (i : Int) = ((gd xs i : Nat) : Int) := by
  unfold rd
  rw [Int.toNat_natCast, List.getD_eq_getElem?_getD]
  unfold cI gd
  rw [List.getElem?_map]
  cases xs[i]? <;> rfl
theorem cI_append (xs ys : List Nat) : cI (xs ++ ys) = cI xs ++ cI ys := by simp [cI]
theorem cI_one (x : Nat) : cI [x] = [(x : Int)] := rfl
theorem cI_take (xs : List Nat) (m : Nat) : (cI xs).take m = cI (xs.take m) := by simp [cI, List.map_take]
theorem ofD_eq (n : Nat) : ofD n = cI (D.dgs n) := rfl
theorem w64 {x : Nat} (h : x < 9223372036854775808) : wrap64 (x : Int) = (x : Int) := by unfold wrap64; omega
theorem w64p {x : Nat} (h : x < 9223372036854775807) : wrap64 ((x : Int) + 1) = ((x + 1 : Nat) : Int) := by unfold wrap64; omega
theorem w64m {x : Nat} (h : x < 9223372036854775807) : wrap64 (((x + 1 : Nat) : Int) - 1) = (x : Int) := by unfold wrap64; omega
theorem cut_l0R {ds : List Nat} (hd : D.D16 ds) (hl : ds.length < 1099511627776) : ∀ (m k : Nat), m ≤ ds.length → D.nv (ds.take m) = D.nv ds → m < k → Cr.clepsydraref03_cut.l0 k (cI ds) (m : Int) = some (ofD (D.nv ds)) := by
  intro m
  induction m with
  | zero =>
    intro k _ h hk
    obtain ⟨k, rfl⟩ : ∃ q, k = q + 1 := ⟨k - 1, by omega⟩
    have h0 : D.nv ds = 0 := by rw [← h]; rfl
    simp only [Cr.clepsydraref03_cut.l0]
    rw [if_neg (by omega), if_pos (by omega), if_pos (by omega), h0, ofD_zero]; rfl
  | succ m ih =>
    intro k hm h hk
    obtain ⟨k, rfl⟩ : ∃ q, k = q + 1 := ⟨k - 1, by omega⟩
    simp only [Cr.clepsydraref03_cut.l0]
    rw [w64m (by omega), cI_length, rd_cI, if_pos (by omega), if_pos (by omega), if_pos (by omega)]
    by_cases h0 : gd ds m = 0
    · rw [if_pos (by omega)]
      exact ih k (by omega) (D.trim_more h0 h) (by omega)
    · rw [if_neg (by omega), if_pos (by omega), if_pos (by omega), Int.toNat_natCast, cI_take, ofD_eq, D.trim_done hd (by omega) h0 h]
theorem cut_pureR {ds : List Nat} (hd : D.D16 ds) (hl : ds.length < 1099511627776) (k : Nat) (hk : ds.length < k) : Cr.clepsydraref03_cut.f k (cI ds) = some (ofD (D.nv ds)) := by
  unfold Cr.clepsydraref03_cut.f
  rw [cI_length]
  exact cut_l0R hd hl ds.length k (Nat.le_refl _) (by rw [List.take_of_length_le (Nat.le_refl _)]) hk
theorem dnv_snoc (ds : List Nat) (x : Nat) : D.nv (ds ++ [x]) = D.nv ds + 65536 ^ ds.length * x := by rw [D.nv_append]; simp [D.nv]
theorem d16_snoc {ds : List Nat} (h : D.D16 ds) {x : Nat} (hx : x < 65536) : D.D16 (ds ++ [x]) := h.append (D.D16.cons hx D.D16.nil)
theorem mod_snoc (N t : Nat) : N % 2 ^ (16 * (t + 1)) = N % 2 ^ (16 * t) + 65536 ^ t * (N / 2 ^ (16 * t) % 65536) := by
  rw [show 16 * (t + 1) = 16 * t + 16 by omega, Nat.pow_add, D.wpow, show (2 : Nat) ^ 16 = 65536 from rfl, Nat.mod_mul]
theorem dig16 {x j : Nat} (hx : x < 18446744073709551616) (hj : j < 4) : wrap64 (Go.bits .and .u64 (shr .u64 (x : Int) (IntKind.u64.wrap (wrap64 (16 * (j : Int))))) 65535) = ((x / 2 ^ (16 * j) % 65536 : Nat) : Int) := by
  have e1 : wrap64 (16 * (j : Int)) = ((16 * j : Nat) : Int) := by unfold wrap64; omega
  rw [e1, u64w3 (by omega)]
  have es : shr .u64 (x : Int) ((16 * j : Nat) : Int) = ((x / 2 ^ (16 * j) : Nat) : Int) := by
    unfold shr
    rw [Int.toNat_natCast, show min (16 * j) IntKind.u64.bits = 16 * j from Nat.min_eq_left (by have : IntKind.u64.bits = 64 := rfl; omega)]
    push_cast; rfl
  have hq : x / 2 ^ (16 * j) < 18446744073709551616 := Nat.lt_of_le_of_lt (Nat.div_le_self _ _) hx
  rw [es]
  have := and_u64 (a := x / 2 ^ (16 * j)) (b := 65535) hq (by omega)
  rw [show ((65535 : Nat) : Int) = 65535 from rfl] at this
  rw [this, show (65535 : Nat) = 2 ^ 16 - 1 from rfl, Nat.and_two_pow_sub_one_eq_mod, show (2 : Nat) ^ 16 = 65536 from rfl]
  exact w64 (by have := Nat.mod_lt (x / 2 ^ (16 * j)) (show 0 < 65536 by omega); omega)
theorem digits_l1R {xs : List Nat} (hb : B64 xs) (hx : xs.length ≤ 262144) {i F : Nat} (hi : i < xs.length) {r : List Int}
    (ih : ∀ ds, D.D16 ds → ds.length = 4 * (i + 1) → D.nv ds = nv xs % 2 ^ (16 * (4 * (i + 1))) → ∀ k, F ≤ k → Cr.clepsydraref03_Digits.l0 k (cI xs) (cI ds) ((i + 1 : Nat) : Int) = some r) :
    ∀ (e j : Nat), j + e = 4 → ∀ ds, D.D16 ds → ds.length = 4 * i + j → D.nv ds = nv xs % 2 ^ (16 * (4 * i + j)) → ∀ k, F + e + 1 ≤ k → Cr.clepsydraref03_Digits.l1 k (cI xs) (cI ds) (i : Int) (j : Int) = some r := by
  intro e
  induction e with
  | zero =>
    intro j hj ds hd hl hv k hk
    obtain ⟨k, rfl⟩ : ∃ q, k = q + 1 := ⟨k - 1, by omega⟩
    obtain rfl : j = 4 := by omega
    simp only [Cr.clepsydraref03_Digits.l1]
    rw [if_neg (by omega), w64p (by omega)]
    exact ih ds hd (by omega) (by rw [show 4 * (i + 1) = 4 * i + 4 by omega]; exact hv) k (by omega)
  | succ e ihe =>
    intro j hj ds hd hl hv k hk
    obtain ⟨k, rfl⟩ : ∃ q, k = q + 1 := ⟨k - 1, by omega⟩
    have hg := hb.gd i
    have hp : (0 : Int) ≤ IntKind.u64.wrap (wrap64 (16 * (j : Int))) := by
      have e1 : wrap64 (16 * (j : Int)) = ((16 * j : Nat) : Int) := by unfold wrap64; omega
      rw [e1, u64w3 (by omega)]; omega
    simp only [Cr.clepsydraref03_Digits.l1]
    rw [rd_cI, cI_length, cI_length, if_pos (by omega), if_pos (by omega), if_pos (by omega), if_pos hp, if_pos (by omega), dig16 hg (by omega), w64p (by omega), ← cI_one, ← cI_append]
    have hm := Nat.mod_lt (gd xs i / 2 ^ (16 * j)) (show 0 < 65536 by omega)
    refine ihe (j + 1) (by omega) _ (d16_snoc hd hm) (by rw [List.length_append, hl]; rfl) ?_ k (by omega)
    rw [dnv_snoc, hv, hl, show 4 * i + (j + 1) = 4 * i + j + 1 by omega, mod_snoc]
    congr 2
    have := limb_part xs hb i (16 * j) 16 (by omega)
    rw [show (2 : Nat) ^ 16 = 65536 from rfl] at this
    rw [this, show 16 * (4 * i + j) = 64 * i + 16 * j by omega]
theorem digits_l0R {xs : List Nat} (hb : B64 xs) (hx : xs.length ≤ 262144) : ∀ (d i : Nat), i + d = xs.length → ∀ ds, D.D16 ds → ds.length = 4 * i → D.nv ds = nv xs % 2 ^ (16 * (4 * i)) → ∀ k, 6 * d + 4 * xs.length + 3 ≤ k →
    Cr.clepsydraref03_Digits.l0 k (cI xs) (cI ds) (i : Int) = some (ofD (nv xs)) := by
  intro d
  induction d with
  | zero =>
    intro i hi ds hd hl hv k hk
    obtain ⟨k, rfl⟩ : ∃ q, k = q + 1 := ⟨k - 1, by omega⟩
    obtain rfl : i = xs.length := by omega
    have hN : D.nv ds = nv xs := by
      have := nv_lt hb
      rw [hv, Nat.mod_eq_of_lt]
      rwa [show 16 * (4 * xs.length) = 64 * xs.length by omega, Nat.pow_mul, show (2 : Nat) ^ 64 = 18446744073709551616 from rfl]
    simp only [Cr.clepsydraref03_Digits.l0]
    rw [cI_length, if_neg (by omega), cut_pureR hd (by omega) k (by omega), Option.bind_some, hN]
  | succ d ih =>
    intro i hi ds hd hl hv k hk
    obtain ⟨k, rfl⟩ : ∃ q, k = q + 1 := ⟨k - 1, by omega⟩
    simp only [Cr.clepsydraref03_Digits.l0]
    rw [cI_length, if_pos (by omega)]
    exact digits_l1R hb hx (by omega) (F := 6 * d + 4 * xs.length + 3) (fun es he hle hve k hk => ih (i + 1) (by omega) es he hle hve k hk) 4 0 rfl ds hd hl hv k (by omega)
theorem digits_pureR {l : List Int} {m : Nat} (h : okN m l) (hm : m ≤ 65536) (k : Nat) (hk : 10 * m + 3 ≤ k) : Cr.clepsydraref03_Digits.f k l = some (ofD (nI l)) := by
  have hl := h.1
  have hb : cI (toN l) = l := cI_toN fun x hx => (h.2 x hx).1
  unfold Cr.clepsydraref03_Digits.f
  have := digits_l0R (xs := toN l) h.b64 (by rw [toN_length]; omega) (toN l).length 0 (by omega) [] D.D16.nil rfl (by simp [D.nv, Nat.mod_one]) k (by rw [toN_length]; omega)
  rw [hb] at this
  exact this
theorem wsub {x y c : Nat} (h : x < 65536) (h' : y < 65536) (hc : c ≤ 1) : wrap64 (wrap64 ((x : Int) - (y : Int)) - (c : Int)) = (x : Int) - (y : Int) - (c : Int) := by unfold wrap64; omega
theorem wsub2 {x y c : Nat} (h : x < 65536) (h' : y < 65536) (hc : c ≤ 1) (hn : x < y + c) : wrap64 ((x : Int) - (y : Int) - (c : Int) + 65536) = ((x + 65536 - y - c : Nat) : Int) := by unfold wrap64; omega
theorem minus_l0R {a b : List Nat} (ha : D.D16 a) (hb : D.D16 b) (hla : a.length ≤ 1048576) (hle : D.nv b ≤ D.nv a) (hbw : D.nv (b.take a.length) = D.nv b) : ∀ (d i : Nat), i + d = a.length → ∀ (ds : List Nat) (c : Nat), c ≤ 1 → D.D16 ds → ds.length = i → D.nv ds + D.nv (b.take i) = D.nv (a.take i) + 65536 ^ i * c → ∀ k, d + a.length + 2 ≤ k →
    Cr.clepsydraref03_minus.l0 k (cI a) (cI b) (cI ds) (c : Int) (i : Int) = some (ofD (D.nv a - D.nv b)) := by
  intro d
  induction d with
  | zero =>
    intro i hi ds c hc hd hl hv k hk
    obtain ⟨k, rfl⟩ : ∃ q, k = q + 1 := ⟨k - 1, by omega⟩
    obtain rfl : i = a.length := by omega
    rw [hbw, List.take_of_length_le (Nat.le_refl _)] at hv
    have hc0 : c = 0 := top_owed hv (by have := D.nv_lt hd; rwa [hl] at this) hle
    subst hc0
    simp only [Cr.clepsydraref03_minus.l0]
    rw [cI_length, if_neg (by omega), cut_pureR hd (by omega) k (by omega), Option.bind_some]
    congr 2; omega
  | succ d ih =>
    intro i hi ds c hc hd hl hv k hk
    obtain ⟨k, rfl⟩ : ∃ q, k = q + 1 := ⟨k - 1, by omega⟩
    have hga := ha.gd i
    have hgb := hb.gd i
    have hat : Cr.clepsydraref03_at.f (cI b) (i : Int) = some ((gd b i : Nat) : Int) := by
      unfold Cr.clepsydraref03_at.f
      rw [cI_length]
      by_cases h : i < b.length
      · rw [if_neg (by omega), if_pos (by omega), if_pos (by omega), rd_cI]
      · rw [if_pos (by omega), gd_ge (by omega)]; rfl
    simp only [Cr.clepsydraref03_minus.l0]
    rw [cI_length, if_pos (by omega), if_pos (by omega), hat, Option.bind_some, rd_cI, cI_length, w64p (by omega)]
    rw [wsub hga hgb hc]
    by_cases hneg : gd a i < gd b i + c
    · have e3 := wsub2 hga hgb hc hneg
      rw [e3]
      clear e3
      rw [if_pos (by omega), if_pos (by omega), ← cI_one, ← cI_append]
      refine ih (i + 1) (by omega) _ 1 (by omega) (d16_snoc hd (by omega)) (by rw [List.length_append, hl]; rfl) ?_ k (by omega)
      rw [dnv_snoc, hl, D.nv_take, D.nv_take, Nat.pow_succ]
      have e : gd a i + 65536 - gd b i - c + gd b i + c = gd a i + 65536 := by omega
      have := congrArg (65536 ^ i * ·) e
      simp only [Nat.mul_add] at this
      omega
    · have e3 : ((gd a i : Nat) : Int) - ((gd b i : Nat) : Int) - (c : Int) = ((gd a i - gd b i - c : Nat) : Int) := by omega
      rw [if_neg (by omega), if_pos (by omega), e3, ← cI_one, ← cI_append]
      refine ih (i + 1) (by omega) _ 0 (by omega) (d16_snoc hd (by omega)) (by rw [List.length_append, hl]; rfl) ?_ k (by omega)
      rw [dnv_snoc, hl, D.nv_take, D.nv_take, Nat.pow_succ]
      have e : gd a i - gd b i - c + gd b i + c = gd a i := by omega
      have := congrArg (65536 ^ i * ·) e
      simp only [Nat.mul_add] at this
      omega
theorem D.nv_take_all {b : List Nat} (hb : D.D16 b) {n : Nat} (h : D.nv b < 65536 ^ n) : D.nv (b.take n) = D.nv b := by
  rcases Nat.lt_or_ge n b.length with hn | hn
  · have h1 := D.nv_split b n (by omega)
    have h0 : D.nv (b.drop n) = 0 := by
      rcases Nat.eq_zero_or_pos (D.nv (b.drop n)) with h0 | h0
      · exact h0
      · have := Nat.mul_le_mul_left (65536 ^ n) h0; omega
    rw [h0] at h1; omega
  · rw [List.take_of_length_le hn]
theorem minus_pureR {a b : List Nat} (ha : D.D16 a) (hb : D.D16 b) (hla : a.length ≤ 1048576) (hle : D.nv b ≤ D.nv a) (k : Nat) (hk : 2 * a.length + 2 ≤ k) : Cr.clepsydraref03_minus.f k (cI a) (cI b) = some (ofD (D.nv a - D.nv b)) := by
  unfold Cr.clepsydraref03_minus.f
  exact minus_l0R ha hb hla hle (D.nv_take_all hb (Nat.lt_of_le_of_lt hle (D.nv_lt ha))) a.length 0 (by omega) [] 0 (by omega) D.D16.nil rfl (by simp [D.nv]) k (by omega)
end Go.Proofs.Yteelppebdcgbpaa
namespace Go.Proofs.Yteelppebdcgbpaa
set_option linter.unusedSimpArgs false
set_option linter.unusedVariables false
open Go.RowKit
def mv (N : Option Addr) (k cn inv : Nat) : Value := .agg #[.slice N k cn, .int .u64 (inv : Int)]
theorem row_stepW {W S S' U Vt P q x cy o s cy' : Nat} (hn : S' + P * o = S + P * s) (h1 : x * q + o + cy = s + W * cy') (h : S + P * cy = U + x * Vt) : S' + P * W * cy' = U + x * (Vt + P * q) := by
  have e1 := congrArg (P * ·) h1
  simp only [Nat.mul_add] at e1 ⊢
  rw [← Nat.mul_assoc P W] at e1
  have e3 : P * (x * q) = x * (P * q) := by rw [Nat.mul_left_comm]
  rw [e3] at e1
  omega
theorem row_step {S S' U Vt P q x cy o s cy' : Nat} (hn : S' + P * o = S + P * s) (h1 : x * q + o + cy = s + 18446744073709551616 * cy') (h : S + P * cy = U + x * Vt) : S' + P * 18446744073709551616 * cy' = U + x * (Vt + P * q) := row_stepW hn h1 h
theorem row_endW {W S S' S'' P c' s o o1 x1 cy R : Nat} (hW : 0 < W) (hP : 0 < P) (hn : S' + P * o = S + P * s) (h1 : o + cy = s + W * c') (h : S + P * cy = R) (hn2 : S'' + P * W * o1 = S' + P * W * (o1 + c')) (hx : P * W * o1 ≤ S') (hR : R < P * W * W) : S'' = R ∧ o1 + c' < W := by
  have e1 := congrArg (P * ·) h1
  simp only [Nat.mul_add] at e1 hn2
  rw [← Nat.mul_assoc P W] at e1
  have hS : S'' = R := by omega
  refine ⟨hS, ?_⟩
  have : P * W * (o1 + c') < P * W * W := by rw [Nat.mul_add]; omega
  exact Nat.lt_of_mul_lt_mul_left this
theorem row_end {S S' S'' P c' s o o1 cy R : Nat} (hP : 0 < P) (hn : S' + P * o = S + P * s) (h1 : o + cy = s + 18446744073709551616 * c') (h : S + P * cy = R) (hn2 : S'' + P * 18446744073709551616 * o1 = S' + P * 18446744073709551616 * (o1 + c')) (hx : P * 18446744073709551616 * o1 ≤ S') (hR : R < P * 18446744073709551616 * 18446744073709551616) : S'' = R ∧ o1 + c' < 18446744073709551616 :=
  row_endW (x1 := 0) (by omega) hP hn h1 h hn2 hx hR
def RetT (g base nu cu : Nat) (w : World) (m : Nat) (e : Ending) (w' : World) : Prop :=
  ∃ us' : List Nat, e = .returned (.slice (some ⟨g, 0, none⟩) nu cu) ∧ Own .u64 35 w' base (some ⟨g, 0, none⟩) nu cu us' ∧ B64 us' ∧ w.grownBy w' (some g) ∧ nv us' = m
theorem grown_alloc (w : World) (r : Option Nat) (o : Obj) : w.grownBy (w.alloc o) r := by
  have b := (Below.refl w.heap.size w).alloc (Nat.le_refl _) o
  exact ⟨rfl, rfl, rfl, by simp, fun k hk _ => b.block k hk⟩
theorem cell_set_ne {w : World} {p q : Addr} (h : q.block ≠ p.block) (u : Value) : (w.setCell p u).cell? q = w.cell? q := World.cell?_of_block (Below.heap_setCell w p u q.block h)
theorem gd_le_nv {xs : List Nat} {j : Nat} (h : j < xs.length) : 18446744073709551616 ^ j * gd xs j ≤ nv xs := by
  have := nv_set 0 h
  omega
set_option maxHeartbeats 1000000 in
theorem row_any (w : World) {base g ct k cn d x inv : Nat} {N B : Option Addr} {ts ys : List Nat} (h : Own .u64 35 w base (some ⟨g, 0, none⟩) (k + 2) ct ts) (bt : B64 ts) (hv : Rd .u64 w B k d ys) (bv : B64 ys)
    (hne : ∀ ad, B = some ad → ad.block ≠ g) (hx : x < 18446744073709551616) (hk : k ≤ 1048576) (hfit : nv ts + x * nv ys < 18446744073709551616 ^ (k + 2)) (hg : g < w.heap.size) :
    Calls Try.prog 78 #[mv N k cn inv, .slice (some ⟨g, 0, none⟩) (k + 2) ct, .slice B k d, .int .u64 x] w (RetT g base (k + 2) ct w (nv ts + x * nv ys)) := by
  have H := Lib.hid h
  have BT := Lib.hid bt
  have HV := Lib.hid hv
  have BV := Lib.hid bv
  have HNE := Lib.hid hne
  have HFIT := Lib.hid hfit
  clear h bt hv bv hne hfit
  unfold mv
  go_enter Try.func78, Try.ntmps78
  go_wp2_with fail
  go_loopw [9, 19] (fun cv i wr => ∃ (t cy : Nat) (zs : List Nat), t ≤ k ∧ cy < 18446744073709551616 ∧ i = .int .i64 (t : Int) ∧ cv = .int .u64 (cy : Int) ∧ Own .u64 35 wr base (some ⟨g, 0, none⟩) (k + 2) ct zs ∧ B64 zs ∧ w.grownBy wr (some g) ∧ nv zs + 18446744073709551616 ^ t * cy = nv ts + x * nv (ys.take t) ∧ wr.cell? ⟨w.heap.size, 0, none⟩ = some (.slice N k cn)) (fun _ i _ => k - (intOf i).toNat)
  case atStart => exact ⟨0, 0, ts, by omega, by omega, rfl, rfl, H.out.below ((Below.refl _ _).alloc (Nat.le_refl _) _), BT.out, grown_alloc _ _ _, by simp [nv], ((Bk.new _ _ _).cell 0).trans rfl⟩
  case round =>
    obtain ⟨t, cy, zs, ht, hcy, rfl, rfl, how, bz, hgr, hinv, hbx⟩ := hrel
    have HI := Lib.hid hinv
    have HO := Lib.hid how
    have HG := Lib.hid hgr
    have HB := Lib.hid hbx
    clear hinv
    by_cases hlt : t < k
    · obtain ⟨ad, rfl, hb, hc⟩ := (HV.out.grown hgr HNE.out).form (by omega)
      have hxc := hc t hlt
      have hcell := how.cellAt (show t < k + 2 by omega)
      have hfr := how.frozenAt t
      have hgy := BV.out.gd t
      have hgo := bz.gd t
      obtain ⟨h, eh⟩ : ∃ h, x * gd ys t / 18446744073709551616 = h := ⟨_, rfl⟩
      obtain ⟨l, el⟩ : ∃ l, x * gd ys t % 18446744073709551616 = l := ⟨_, rfl⟩
      have hmul := Yteelppebdcgbpaa.bits_Mul64 x (gd ys t) hx hgy
      rw [eh, el] at hmul
      have hadd1 := run_add l cy 0 (by omega)
      obtain ⟨l1, e1⟩ : ∃ l1, (l + cy + 0) % 18446744073709551616 = l1 := ⟨_, rfl⟩
      obtain ⟨c1, e2⟩ : ∃ c1, (l + cy + 0) / 18446744073709551616 = c1 := ⟨_, rfl⟩
      rw [e1, e2] at hadd1
      have hadd2 := run_add (gd zs t) l1 0 (by omega)
      obtain ⟨s, e4⟩ : ∃ s, (gd zs t + l1 + 0) % 18446744073709551616 = s := ⟨_, rfl⟩
      obtain ⟨c2, e5⟩ : ∃ c2, (gd zs t + l1 + 0) / 18446744073709551616 = c2 := ⟨_, rfl⟩
      rw [e4, e5] at hadd2
      obtain ⟨hd, hc', hh1, hs', hc1, hc2⟩ := mul_digit (s := s) (c2 := c2) hx hgy hcy hgo eh el e1 e2 rfl (by rw [Nat.add_comm l1]; exact e4) (by rw [Nat.add_comm l1]; exact e5) rfl
      rw [Nat.add_right_comm] at hd
      have HD := Lib.hid hd
      have HMUL := Lib.hid hmul
      have hcu := (HO.out.rd).max
      have hcu2 := (HO.out.rd).cap
      clear hd hmul eh el e1 e2 e4 e5 hc hgy hgo how hgr hbx
      simp only [Int.natCast_zero] at hadd1 hadd2
      go_wp2_with fail
      refine (HMUL.out _).mono ?_
      rintro e w' ⟨rfl, rfl⟩
      go_wp2_with fail
      refine ⟨⟨t + 1, h + c1 + c2, zs.set t s, by omega, hc', by go_num, by go_num, HO.out.store t s, bz.set hs', grown_set HG.out _ _, ?_, (cell_set_ne (by simp; omega) _).trans HB.out⟩, by simp [intOf]; omega⟩
      rw [nv_take, Nat.pow_succ]
      exact row_step (nv_set s (by rw [HO.out.len]; omega)) HD.out HI.out
    · obtain rfl : k = t := by omega
      have hcell := how.cellAt (show k < k + 2 by omega)
      have hfr := how.frozenAt k
      have hadd := run_add (gd zs k) cy 0 (by omega)
      have hgo := bz.gd k
      obtain ⟨s, hs⟩ : ∃ s, (gd zs k + cy + 0) % 18446744073709551616 = s := ⟨_, rfl⟩
      obtain ⟨q, hq⟩ : ∃ q, (gd zs k + cy + 0) / 18446744073709551616 = q := ⟨_, rfl⟩
      rw [hs, hq] at hadd
      simp only [Int.natCast_zero] at hadd
      have hd : gd zs k + cy = s + 18446744073709551616 * q := by omega
      have hs64 : s < 18446744073709551616 := by rw [← hs]; exact Nat.mod_lt _ (by omega)
      have hl1 : k < zs.length := by rw [HO.out.len]; omega
      have h2 := HO.out.store k s
      have hcell2 := h2.cellAt (show k + 1 < k + 2 by omega)
      have hfr2 := h2.frozenAt (k + 1)
      have hl2 : k + 1 < (zs.set k s).length := by rw [h2.len]; omega
      have ee := HI.out
      rw [List.take_of_length_le (by rw [HV.out.len]; omega)] at ee
      have hend := row_end (Nat.pow_pos (n := k) (by omega)) (nv_set s hl1) hd ee (by have := nv_set (gd (zs.set k s) (k + 1) + q) hl2; rw [Nat.pow_succ] at this; exact this) (by have := gd_le_nv hl2; rw [Nat.pow_succ] at this; exact this) HFIT.out
      obtain ⟨hfin, hsm⟩ := hend
      have hbx2 : (wr.setCell ⟨g, k, none⟩ (.int .u64 (s : Int))).cell? ⟨w.heap.size, 0, none⟩ = some (.slice N k cn) := (cell_set_ne (by simp; omega) _).trans HB.out
      obtain ⟨o1, ho1⟩ : ∃ o1, gd (zs.set k s) (k + 1) = o1 := ⟨_, rfl⟩
      rw [ho1] at hcell2 hfin hsm
      have HF := Lib.hid hfin
      have HS2 := Lib.hid h2
      have hcu := (HO.out.rd).max
      have hcu2 := (HO.out.rd).cap
      clear how hgr hs hq hd hgo ee hfin h2 ho1 hl1 hl2
      go_wp2_with fail
      go_ret
      refine ⟨(zs.set k s).set (k + 1) (o1 + q), rfl, HS2.out.store (k + 1) (o1 + q), (bz.set hs64).set hsm, grown_set (grown_set HG.out _ _) _ _, HF.out⟩
end Go.Proofs.Yteelppebdcgbpaa
namespace Go.Proofs.Yteelppebdcgbpaa
set_option linter.unusedSimpArgs false
set_option linter.unusedVariables false
open Go.RowKit
def RetW (k m : Nat) (w : World) (e : Ending) (w' : World) : Prop :=
  ∃ (g : Nat) (us : List Nat), e = .returned (.slice (some ⟨g, 0, none⟩) k k) ∧ Own .u64 35 w' w.heap.size (some ⟨g, 0, none⟩) k k us ∧ B64 us ∧ nv us = m ∧ Below w.heap.size w w'
theorem RetW.lift {k m : Nat} {w w1 w' : World} {e : Ending} (h : RetW k m w1 e w') (hb : Below w.heap.size w w1) : RetW k m w e w' := by
  obtain ⟨g, us, h1, h2, h3, h4, h5⟩ := h
  exact ⟨g, us, h1, h2.lower hb.size, h3, h4, hb.trans (h5.mono hb.size)⟩
theorem nv_app (xs ys : List Nat) : nv (xs ++ ys) = nv xs + 18446744073709551616 ^ xs.length * nv ys := by
  induction xs with
  | nil => simp [nv]
  | cons x xs ih =>
    simp only [List.cons_append, nv, ih, List.length_cons, Nat.pow_succ, Nat.mul_add]
    rw [Nat.mul_comm (_ ^ _) 18446744073709551616, Nat.mul_assoc]
    omega
theorem nv_take_fit {xs : List Nat} {k : Nat} (h : nv xs < 18446744073709551616 ^ k) : nv (xs.take k) = nv xs := by
  rcases Nat.lt_or_ge k xs.length with hl | hl
  · have e := nv_app (xs.take k) (xs.drop k)
    rw [List.take_append_drop, List.length_take, Nat.min_eq_left (by omega)] at e
    rcases Nat.eq_zero_or_pos (nv (xs.drop k)) with h0 | h0
    · rw [h0] at e; simp at e; exact e.symm
    · have := Nat.mul_le_mul_left (18446744073709551616 ^ k) h0
      omega
  · rw [List.take_of_length_le hl]
def widen (k : Nat) (xs : List Nat) : List Nat := splice (List.replicate k 0) 0 (xs.take k)
theorem widen_len (k : Nat) (xs : List Nat) : (widen k xs).length = k := by simp [widen, splice]; omega
theorem widen_b64 {k : Nat} {xs : List Nat} (h : B64 xs) : B64 (widen k xs) := by
  intro x hx
  simp only [widen, splice, List.take_zero, List.nil_append, List.mem_append, Nat.zero_add] at hx
  rcases hx with hx | hx
  · exact h x (List.mem_of_mem_take hx)
  · have := List.mem_of_mem_drop hx
    rw [List.mem_replicate] at this
    omega
theorem widen_nv {k : Nat} {xs : List Nat} (h : nv xs < 18446744073709551616 ^ k) : nv (widen k xs) = nv xs := by
  simp only [widen, splice, List.take_zero, List.nil_append, Nat.zero_add, List.drop_replicate]
  rw [nv_app, nv_replicate, Nat.mul_zero, Nat.add_zero]
  exact nv_take_fit h
theorem run_copy_rd (w : World) {g k n c : Nat} {A : Option Addr} {xs zs : List Nat} (hb : Bk w g 35 (va .u64 zs)) (hz : zs.length = k) (h : Rd .u64 w A n c xs) :
    ∃ w', (Builtin.copy_ #[22, 22] 3 #[.slice (some ⟨g, 0, none⟩) k k, .slice A n c]).run Try.prog w = .ok (.int .i64 ((min n k : Nat) : Int)) w' ∧ Bk w' g 35 (va .u64 (splice zs 0 (xs.take k))) ∧ ∀ B, B ≤ g → Below B w w' := by
  obtain ⟨i0, hi0, hz0, hz1, hz2⟩ := info_parts u64_info
  have hsz : (Try.prog.info? 35).map (·.size) = some 1 := by rw [hi0]; simp [hz1]
  have hcl : (xs.take k).length = min n k := by rw [List.length_take, h.len]; omega
  rcases Nat.eq_zero_or_pos (min n k) with h0 | h0
  · refine ⟨w, ?_, ?_, fun B _ => Below.refl _ _⟩
    · rw [run_copy_none (P := Try.prog) w 22 22 3 35 _ _ k k n c Try.underlying22 hsz h0, h0]; rfl
    · have : xs.take k = [] := List.eq_nil_of_length_eq_zero (by omega)
      rw [this]; simpa [splice] using hb
  · obtain ⟨ad, rfl, hlt, hc⟩ := h.form (by omega)
    have hcs : ∀ j v, (vs .u64 (xs.take k))[j]? = some v → w.cell? (ad.add j) = some v := fun j v hv => by
      refine h.cells rfl j v ?_
      rw [vs_get] at hv ⊢
      rw [List.getElem?_take] at hv
      split at hv
      · exact hv
      · simp at hv
    have hrun := run_copy_row (P := Try.prog) w 22 22 3 35 g 0 k k ad n c (va .u64 zs) 35 (vs .u64 (xs.take k)) Try.underlying22 hsz hb (by rw [vs_length, hcl]) hcs (by rw [vs_length, va_size]; omega) (vs_one _ _)
    refine ⟨_, hrun.trans (by rw [vs_length, hcl]; rfl), ?_, fun B hB => below_setRow (Below.refl _ _) hB _⟩
    · unfold Bk
      rw [setRow_heap w g _ _ 35 _ hb]
      simp [va, splice, vs]
      have := h.len
      omega
set_option maxHeartbeats 1000000 in
theorem wide_any (w : World) {k cn n c inv m : Nat} {N A : Option Addr} (h : NA w A n c m) (hk : k ≤ 4194304) (hm : m < 18446744073709551616 ^ k) :
    Calls Try.prog 71 #[mv N k cn inv, .slice A n c] w (RetW k m w) := by
  obtain ⟨xs, h, bx, rfl⟩ := h
  have H := Lib.hid h
  have BX := Lib.hid bx
  have HM := Lib.hid hm
  have hmk := fun w => run_mk k hk w
  clear h bx hm
  unfold mv
  go_enter Try.func71, Try.ntmps71
  go_wp2_with fail
  obtain ⟨w1, hw1⟩ : ∃ w1, w1 = ((w.alloc (.cells #[.slice N k cn, .int .u64 inv] 79)).alloc (.cells (va .u64 (List.replicate k 0)) 35)) := ⟨_, rfl⟩
  have hbl : Below w.heap.size w w1 := by rw [hw1]; (repeat (first | (with_reducible exact Below.refl _ _) | (with_reducible assumption) | (with_reducible refine Below.drew ?_) | (with_reducible refine below_drewN ?_ _) | ((with_reducible refine Below.setCell ?_ (p := ⟨_, _, _⟩) ?_ _); rotate_left; (simp <;> omega)) | ((with_reducible refine Below.alloc ?_ ?_ _); rotate_left; (simp <;> omega)) | ((with_reducible refine Below.trans ?_ (Below.mono (by with_reducible assumption) ?_)); rotate_left; (simp <;> omega))))
  have hbk : Bk w1 (w.heap.size + 1) 35 (va .u64 (List.replicate k 0)) := by
    have := Bk.new (w.alloc (.cells #[.slice N k cn, .int .u64 inv] 79)) 35 (va .u64 (List.replicate k 0))
    rw [hw1]; simpa using this
  obtain ⟨w2, hrun, hb2, hbl2⟩ := run_copy_rd w1 hbk (k := k) (by simp) (H.out.below hbl)
  rw [← hw1, hrun]
  have HB := Lib.hid hb2
  have HBL := Lib.hid (hbl.trans (hbl2 w.heap.size (by omega)))
  clear hrun hb2 hbl2 hbk hbl hw1
  go_wp2_with fail
  go_ret
  exact ⟨w.heap.size + 1, widen k xs, rfl, Own.of_bk HB.out (by omega) (widen_len _ _) (by omega), widen_b64 BX.out, widen_nv HM.out, HBL.out⟩
end Go.Proofs.Yteelppebdcgbpaa
namespace Go.Proofs.Yteelppebdcgbpaa
set_option linter.unusedSimpArgs false
set_option linter.unusedVariables false
open Go.RowKit
set_option maxHeartbeats 400000 in
theorem mod_any (w : World) {A B : Option Addr} {n c m d x y : Nat} (hx : NA w A n c x) (hy : NA w B m d y) (hn : n ≤ 262144) (hm : m ≤ 262144) :
    Calls Try.prog 13 #[.slice A n c, .slice B m d] w (RetNE (if y = 0 then 0 else x % y) (if y = 0 then 11 else 0) w) := by
  have hdiv := div_any w hx hy hn hm
  generalize (if y = 0 then 0 else x % y) = r at hdiv ⊢
  generalize (if y = 0 then 0 else x / y) = q at hdiv
  generalize (if y = 0 then (11 : Int) else 0) = er at hdiv ⊢
  have HD := Lib.hid hdiv
  clear hx hy hdiv
  go_enter Try.func13, Try.ntmps13
  go_wp2_with fail
  refine HD.out.mono ?_
  rintro e w' ⟨A1, c1, A2, c2, rfl, h1, h2, hb, -⟩
  have HO := Lib.hid h2
  have HB := Lib.hid hb
  clear h1 h2 hb
  go_wp2_with fail
  go_ret2
  exact ⟨A2, c2, rfl, HO.out, HB.out⟩
set_option maxHeartbeats 400000 in
theorem shifted_any (w : World) {A N : Option Addr} {n c k cn inv x m : Nat} (hx : NA w A n c x) (hN : NA w N k cn m) (hm : 0 < m) (hn : n ≤ 4096) (hk : k ≤ 1024) :
    Calls Try.prog 69 #[mv N k cn inv, .slice A n c] w (RetW k (x * 18446744073709551616 ^ k % m) w) := by
  have hfit : x * 18446744073709551616 ^ k % m < 18446744073709551616 ^ k := by
    have h1 := Nat.mod_lt (x * 18446744073709551616 ^ k) hm
    obtain ⟨xs, h, b, rfl⟩ := hN
    have h2 := nv_lt b
    rw [h.len] at h2
    omega
  have hsh : shiftN x ((64 : Int) * (k : Int)) = x * 18446744073709551616 ^ k := by
    unfold shiftN
    rw [if_pos (by omega), show (min ((64 : Int) * (k : Int)) 65536).toNat = 64 * k by omega, Nat.pow_mul]
  have HX := Lib.hid hx
  have HN := Lib.hid hN
  have HFIT := Lib.hid hfit
  have HSH := Lib.hid hsh
  clear hx hN hfit hsh
  unfold mv
  go_enter Try.func69, Try.ntmps69
  go_wp2_with fail
  have S0 : (w.alloc (.cells #[.slice N k cn, .int .u64 inv] 79)).drew.cell? ⟨w.heap.size, 0, none⟩ = some (.slice N k cn) := ((Bk.new w 79 #[.slice N k cn, .int .u64 inv]).cell 0).trans rfl
  have B0 : Below w.heap.size w (w.alloc (.cells #[.slice N k cn, .int .u64 inv] 79)).drew := by (repeat (first | (with_reducible exact Below.refl _ _) | (with_reducible assumption) | (with_reducible refine Below.drew ?_) | (with_reducible refine below_drewN ?_ _) | ((with_reducible refine Below.setCell ?_ (p := ⟨_, _, _⟩) ?_ _); rotate_left; (simp <;> omega)) | ((with_reducible refine Below.alloc ?_ ?_ _); rotate_left; (simp <;> omega)) | ((with_reducible refine Below.trans ?_ (Below.mono (by with_reducible assumption) ?_)); rotate_left; (simp <;> omega))))
  have hs0 : (w.alloc (.cells #[.slice N k cn, .int .u64 inv] 79)).drew.heap.size = w.heap.size + 1 := by simp
  have hl : ln (x * 18446744073709551616 ^ k) ≤ n + k := by
    rw [ln_le, Nat.pow_add]
    obtain ⟨xs, h, b, rfl⟩ := HX.out
    have h2 := nv_lt b
    rw [h.len] at h2
    exact Nat.mul_lt_mul_of_pos_right h2 (Nat.pow_pos (by omega))
  have hshift := shift_any (A := A) (n := n) (c := c) (x := x) _ ((64 : Int) * (k : Int)) (HX.out.below B0) (by omega)
  have hmod := fun W A1 c1 h1 h2 => mod_any (A := A1) (B := N) (n := ln (x * 18446744073709551616 ^ k)) (c := c1) (m := k) (d := cn) (x := x * 18446744073709551616 ^ k) (y := m) W h1 h2 (by omega) (by omega)
  rw [if_neg (by omega), if_neg (by omega)] at hmod
  rw [HSH.out] at hshift
  have hfit := HFIT.out
  obtain ⟨z, hz⟩ : ∃ z, x * 18446744073709551616 ^ k = z := ⟨_, rfl⟩
  rw [hz] at hshift hmod hl hfit
  have HZ := Lib.hid hz
  clear hz
  have HF2 := Lib.hid hfit
  clear hfit
  have hwrap : IntKind.i64.wrap ((64 : Int) * (k : Int)) = 64 * (k : Int) := IntWalk.i64_in _ (by omega)
  have HS := Lib.hid hshift
  have HM := Lib.hid hmod
  clear hshift hmod
  go_region_held3 (fun w' => w'.cell? ⟨w.heap.size, 0, none⟩ = some (.slice N k cn))
    (with_reducible assumption)
    ((first | (go_at_call 55; refine HS.out.mono ?_; rintro e w1 ⟨A1, c1, rfl, ho1, hb1⟩; rw [hs0] at hb1; have S1 := (hb1.cell (p := ⟨w.heap.size, 0, none⟩) (by simp)).trans S0) | (go_at_call 13; refine (HM.out _ A1 c1 ho1.na ((HN.out.below B0).below (hb1.mono (by omega)))).mono ?_; rintro e w2 ⟨A2, c2, rfl, ho2, hb2⟩; have S2 := (hb2.cell (p := ⟨w.heap.size, 0, none⟩) (by have := hb1.size; simp; omega)).trans S1)))
  have T0 : (w.alloc (.cells #[.slice N k cn, .int .u64 inv] 79)).drew.cell? ⟨w.heap.size, 1, none⟩ = some (.int .u64 inv) := ((Bk.new w 79 #[.slice N k cn, .int .u64 inv]).cell 1).trans rfl
  have hB2 := hb1.trans (hb2.mono (Nat.le_trans (by simp) hb1.size))
  have T2 := (hB2.cell (p := ⟨w.heap.size, 1, none⟩) (by simp)).trans T0
  have HB := Lib.hid (B0.trans (hB2.mono (by omega)))
  have HO := Lib.hid ho2
  have hwide := wide_any (inv := inv) (cn := cn) (N := N) w2 ho2.na (show k ≤ 4194304 by omega) HF2.out
  unfold mv at hwide
  have HW := Lib.hid hwide
  clear hwide S0 S1 T0 hB2 hb1 hb2 ho1 ho2 B0 hs0
  go_wp2_with fail
  refine HW.out.mono ?_
  rintro e w3 h
  obtain ⟨g, us, rfl, ho, b, hv, hb⟩ := h.lift HB.out
  clear h
  go_wp2_with fail
  go_ret
  exact ⟨g, us, rfl, ho, b, by rw [HZ.out]; exact hv, hb⟩
end Go.Proofs.Yteelppebdcgbpaa
namespace Go.Proofs.Yteelppebdcgbpaa
set_option linter.unusedSimpArgs false
set_option linter.unusedVariables false
open Go.RowKit
theorem inv_alg (n x p W a b c : Int) (h : n * x - 1 = p * a + W * b) : n * (x * (2 - n * x) + W * c) - 1 = p * p * (-(a * a)) + W * (-(2 * p * a * b + W * b * b) + n * c) := by
  have e : n * (x * (2 - n * x) + W * c) - 1 = -((n * x - 1) * (n * x - 1)) + W * (n * c) := by grind
  rw [e, h]; grind
def Inv2 (n : Int) (i : Nat) (x : Int) : Prop := ∃ a b : Int, n * x - 1 = 2 ^ (3 * 2 ^ i) * a + 18446744073709551616 * b
theorem Inv2.start {n : Int} (h : n % 2 = 1) : Inv2 n 0 n := by
  obtain ⟨m, hm⟩ : ∃ m, n = 2 * m + 1 := ⟨n / 2, by omega⟩
  have e : m * (m + 1) % 2 = 0 := by
    rcases Int.emod_two_eq m with h | h
    · rw [Int.mul_emod, h]; simp
    · rw [Int.mul_emod, show (m + 1) % 2 = 0 by omega]; simp
  refine ⟨m * (m + 1) / 2, 0, ?_⟩
  have e2 : m * (m + 1) = 2 * (m * (m + 1) / 2) := by omega
  subst hm
  rw [show (2 : Int) ^ (3 * 2 ^ 0) = 8 from rfl]
  generalize m * (m + 1) / 2 = q at *
  grind
theorem Inv2.next {n x : Int} {i : Nat} (h : Inv2 n i x) (c : Int) : Inv2 n (i + 1) (x * (2 - n * x) + 18446744073709551616 * c) := by
  obtain ⟨a, b, h⟩ := h
  unfold Inv2
  rw [show 3 * 2 ^ (i + 1) = 3 * 2 ^ i + 3 * 2 ^ i by rw [Nat.pow_succ]; omega, Int.pow_add]
  exact ⟨_, _, inv_alg n x _ _ a b c h⟩
theorem Inv2.done {n x : Int} (h : Inv2 n 6 x) : (n * x - 1) % 18446744073709551616 = 0 := by
  obtain ⟨a, b, h⟩ := h
  rw [h, show (2 : Int) ^ (3 * 2 ^ 6) = 18446744073709551616 * 340282366920938463463374607431768211456 by decide +kernel, Int.mul_assoc, ← Int.mul_add]
  exact Int.mul_emod_right _ _
theorem Inv2.step {n x : Int} {i : Nat} (h : Inv2 n i x) : Inv2 n (i + 1) (IntKind.u64.wrap (x * IntKind.u64.wrap (2 - IntKind.u64.wrap (n * x)))) := by
  rw [IntKind.wrap_u64, IntKind.wrap_u64, IntKind.wrap_u64]
  obtain ⟨c1, e1⟩ : ∃ c, (n * x) % 18446744073709551616 = n * x + 18446744073709551616 * c := ⟨-(n * x / 18446744073709551616), by omega⟩
  rw [e1]
  obtain ⟨c2, e2⟩ : ∃ c, (2 - (n * x + 18446744073709551616 * c1)) % 18446744073709551616 = 2 - n * x + 18446744073709551616 * c := ⟨-c1 - ((2 - (n * x + 18446744073709551616 * c1)) / 18446744073709551616), by omega⟩
  rw [e2]
  obtain ⟨c3, e3⟩ : ∃ c, (x * (2 - n * x + 18446744073709551616 * c2)) % 18446744073709551616 = x * (2 - n * x) + 18446744073709551616 * c := by
    refine ⟨x * c2 - (x * (2 - n * x + 18446744073709551616 * c2)) / 18446744073709551616, ?_⟩
    have := Int.emod_def (x * (2 - n * x + 18446744073709551616 * c2)) 18446744073709551616
    rw [this]
    generalize (x * (2 - n * x + 18446744073709551616 * c2)) / 18446744073709551616 = y
    grind
  rw [e3]
  exact h.next c3
def MInv (n0 inv : Nat) : Prop := inv < 18446744073709551616 ∧ (n0 * inv + 1) % 18446744073709551616 = 0
theorem Inv2.minv {n : Nat} {x : Nat} (h : Inv2 (n : Int) 6 (x : Int)) (hx : x < 18446744073709551616) : ∃ inv : Nat, IntKind.u64.wrap (-(x : Int)) = (inv : Int) ∧ MInv n inv := by
  have hd := h.done
  refine ⟨(18446744073709551616 - x) % 18446744073709551616, by rw [IntKind.wrap_u64]; omega, Nat.mod_lt _ (by omega), ?_⟩
  rcases Nat.eq_zero_or_pos x with h0 | h0
  · subst h0; simp at hd
  · rw [Nat.mod_eq_of_lt (show 18446744073709551616 - x < 18446744073709551616 by omega), Nat.mul_sub]
    have : n * x ≤ n * 18446744073709551616 := Nat.mul_le_mul_left _ (by omega)
    have e : (n : Int) * (x : Int) = ((n * x : Nat) : Int) := by push_cast; rfl
    rw [e] at hd
    generalize n * x = p at *
    omega
set_option maxHeartbeats 400000 in
theorem open_any (w : World) {N : Option Addr} {k cn : Nat} {xs : List Nat} (hN : Rd .u64 w N k cn xs) (b : B64 xs) (hk : 0 < k) (ho : gd xs 0 % 2 = 1) :
    Calls Try.prog 68 #[.slice N k cn] w fun e w' => ∃ inv : Nat, e = .returned (mv N k cn inv) ∧ MInv (gd xs 0) inv ∧ Below w.heap.size w w' := by
  have hm := hN.max
  have hcp := hN.cap
  obtain ⟨ad, rfl, hb, hc⟩ := hN.form hk
  have hc0 : w.cell? ad = some (.int .u64 ((gd xs 0 : Nat) : Int)) := by have := hc 0 hk; rwa [Addr.add_zero'] at this
  have hg := b.gd 0
  obtain ⟨n0, hn0⟩ : ∃ n0, gd xs 0 = n0 := ⟨_, rfl⟩
  rw [hn0] at hc0 hg ho
  rw [hn0]
  have HS := Lib.hid (Inv2.start (n := (n0 : Int)) (by omega))
  clear hc hn0 hN b
  unfold mv
  go_enter Try.func68, Try.ntmps68
  go_wp2_with fail
  go_loopw [3, 7] (fun xv i wr => ∃ (j x : Nat), j ≤ 6 ∧ x < 18446744073709551616 ∧ i = .int .i64 (j : Int) ∧ xv = .int .u64 (x : Int) ∧ Inv2 (n0 : Int) j (x : Int) ∧ Below w.heap.size w wr ∧ Bk wr w.heap.size 79 #[.slice none 0 0, .int .u64 0]) (fun _ i _ => 6 - (intOf i).toNat)
  case atStart => exact ⟨0, n0, by omega, hg, rfl, rfl, HS.out, by (repeat (first | (with_reducible exact Below.refl _ _) | (with_reducible assumption) | (with_reducible refine Below.drew ?_) | (with_reducible refine below_drewN ?_ _) | ((with_reducible refine Below.setCell ?_ (p := ⟨_, _, _⟩) ?_ _); rotate_left; (simp <;> omega)) | ((with_reducible refine Below.alloc ?_ ?_ _); rotate_left; (simp <;> omega)) | ((with_reducible refine Below.trans ?_ (Below.mono (by with_reducible assumption) ?_)); rotate_left; (simp <;> omega)))), Bk.new _ _ _⟩
  case round =>
    obtain ⟨j, x, hj, hx, rfl, rfl, hinv, hbl, bk⟩ := hrel
    by_cases hlt : j < 6
    · have hn := hinv.step
      have hr : ∃ y : Nat, y < 18446744073709551616 ∧ IntKind.u64.wrap ((x : Int) * IntKind.u64.wrap (2 - IntKind.u64.wrap ((n0 : Int) * (x : Int)))) = (y : Int) := by
        generalize (x : Int) * IntKind.u64.wrap (2 - IntKind.u64.wrap ((n0 : Int) * (x : Int))) = z
        refine ⟨(z % 18446744073709551616).toNat, by omega, by rw [IntKind.wrap_u64]; omega⟩
      obtain ⟨y, hy, hyw⟩ := hr
      rw [hyw] at hn
      have HN := Lib.hid hn
      have hcell := (hbl.cell (p := ad) hb).trans hc0
      clear hn hinv
      have BK := Lib.hid bk
      clear bk
      go_wp2_with fail
      refine ⟨⟨j + 1, y, by omega, hy, by go_num, rfl, HN.out, hbl, BK.out⟩, by simp [intOf]; omega⟩
    · obtain rfl : j = 6 := by omega
      obtain ⟨inv, hw, hmi⟩ := hinv.minv hx
      have HM := Lib.hid hmi
      have q0 := (bk.cell 0).trans (show _ = some (Value.slice none 0 0) from rfl)
      have f0 := bk.frozen 0
      have bk1 := bk.set 0 (.slice (some ad) k cn)
      have q1 := (bk1.cell 1).trans (show _ = some (Value.int .u64 0) from rfl)
      have f1 := bk1.frozen 1
      have bk2 := bk1.set 1 (.int .u64 inv)
      have r0 := (bk2.cell 0).trans (show _ = some (Value.slice (some ad) k cn) from rfl)
      have r1 := (bk2.cell 1).trans (show _ = some (Value.int .u64 inv) from rfl)
      have hb2 : Below w.heap.size w ((wr.setCell ⟨w.heap.size, 0, none⟩ (.slice (some ad) k cn)).setCell ⟨w.heap.size, 1, none⟩ (.int .u64 inv)) := by (repeat (first | (with_reducible exact Below.refl _ _) | (with_reducible assumption) | (with_reducible refine Below.drew ?_) | (with_reducible refine below_drewN ?_ _) | ((with_reducible refine Below.setCell ?_ (p := ⟨_, _, _⟩) ?_ _); rotate_left; (simp <;> omega)) | ((with_reducible refine Below.alloc ?_ ?_ _); rotate_left; (simp <;> omega)) | ((with_reducible refine Below.trans ?_ (Below.mono (by with_reducible assumption) ?_)); rotate_left; (simp <;> omega))))
      have HB := Lib.hid hb2
      clear hmi hinv bk bk1 bk2 hb2
      go_wp2_with fail
      refine bodyPost_ret (v := .agg #[.slice (some ad) k cn, .int .u64 inv]) (by simp [results, Try.results68, go_sem, r0, r1]) rfl ⟨inv, rfl, HM.out, HB.out⟩
end Go.Proofs.Yteelppebdcgbpaa
namespace Go.Proofs.Yteelppebdcgbpaa
set_option linter.unusedSimpArgs false
set_option linter.unusedVariables false
open Go.RowKit
theorem gd0_mod {xs : List Nat} (h : B64 xs) : gd xs 0 = nv xs % 18446744073709551616 := by
  cases xs with
  | nil => rfl
  | cons x xs =>
    have hx : x < 18446744073709551616 := h x (by simp)
    have : gd (x :: xs) 0 = x := by simp [gd]
    rw [this]; simp only [nv]; omega
theorem nv_drop1 {xs : List Nat} (h : B64 xs) : nv (xs.drop 1) = nv xs / 18446744073709551616 := by
  cases xs with
  | nil => rfl
  | cons x xs =>
    have hx : x < 18446744073709551616 := h x (by simp)
    simp only [nv, List.drop_succ_cons, List.drop_zero]; omega
theorem mont_alg (W T1 t0 x1 u inv x2 m n0 x3 x4 : Int) (h1 : T1 = t0 + W * x1) (h2 : u = t0 * inv - W * x2) (h3 : m = n0 + W * x3) (h4 : n0 * inv + 1 = W * x4) :
    T1 + u * m = W * (t0 * x4 + x1 + t0 * inv * x3 - x2 * n0 - W * x2 * x3) := by
  subst h1 h2 h3
  have : t0 * (n0 * inv + 1) = t0 * (W * x4) := by rw [h4]
  grind
theorem mont_zero {T1 inv m : Nat} (hi : MInv (m % 18446744073709551616) inv) : (T1 + (T1 % 18446744073709551616 * inv % 18446744073709551616) * m) % 18446744073709551616 = 0 := by
  obtain ⟨_, h4⟩ := hi
  obtain ⟨n0, hn0⟩ : ∃ n0, m % 18446744073709551616 = n0 := ⟨_, rfl⟩
  obtain ⟨t0, ht0⟩ : ∃ t0, T1 % 18446744073709551616 = t0 := ⟨_, rfl⟩
  rw [hn0] at h4
  rw [ht0]
  obtain ⟨u, hu⟩ : ∃ u, t0 * inv % 18446744073709551616 = u := ⟨_, rfl⟩
  rw [hu]
  have e2 : ((t0 * inv : Nat) : Int) = (t0 : Int) * (inv : Int) := by push_cast; rfl
  have e3 : ((n0 * inv : Nat) : Int) = (n0 : Int) * (inv : Int) := by push_cast; rfl
  generalize ha : t0 * inv = p at *
  generalize hb : n0 * inv = r at *
  have h := mont_alg 18446744073709551616 (T1 : Int) (t0 : Int) ((T1 / 18446744073709551616 : Nat) : Int) (u : Int) (inv : Int) ((p / 18446744073709551616 : Nat) : Int) (m : Int) (n0 : Int) ((m / 18446744073709551616 : Nat) : Int) (((r + 1) / 18446744073709551616 : Nat) : Int)
    (by omega) (by rw [← e2]; omega) (by omega) (by rw [← e3]; omega)
  have e4 : ((T1 + u * m : Nat) : Int) = (T1 : Int) + (u : Int) * (m : Int) := by push_cast; rfl
  rw [← e4] at h
  generalize T1 + u * m = S at *
  generalize (t0 : Int) * _ + _ + _ - _ - _ = Z at h
  omega
def MP (m b A Wi T : Nat) : Prop := T < 2 * m ∧ ∃ q, T * Wi = A * b + q * m
theorem MP.zero {m b : Nat} (hm : 0 < m) : MP m b 0 1 0 := ⟨by omega, 0, by simp⟩
theorem mp_alg (W T T2 Wi a b A q u m T' : Nat) (h : T * Wi = A * b + q * m) (h2 : T2 = T + a * b + u * m) (h3 : T2 = W * T') : T' * (Wi * W) = (A + Wi * a) * b + (q + u * Wi) * m := by
  have e : T' * (Wi * W) = (W * T') * Wi := by rw [Nat.mul_comm Wi W, ← Nat.mul_assoc, Nat.mul_comm T' W]
  rw [e, ← h3, h2]
  grind
theorem MP.next {m b A Wi T a inv : Nat} (h : MP m b A Wi T) (hb : b < m) (ha : a < 18446744073709551616) (hi : MInv (m % 18446744073709551616) inv) :
    MP m b (A + Wi * a) (Wi * 18446744073709551616) ((T + a * b + ((T + a * b) % 18446744073709551616 * inv % 18446744073709551616) * m) / 18446744073709551616) ∧
      T + a * b + ((T + a * b) % 18446744073709551616 * inv % 18446744073709551616) * m < 2 * 18446744073709551616 * m ∧ T + a * b < 18446744073709551616 * m + m := by
  obtain ⟨hT, q, hq⟩ := h
  have h0 := mont_zero (T1 := T + a * b) hi
  obtain ⟨u, hu⟩ : ∃ u, (T + a * b) % 18446744073709551616 * inv % 18446744073709551616 = u := ⟨_, rfl⟩
  have hub : u ≤ 18446744073709551615 := by rw [← hu]; have := Nat.mod_lt ((T + a * b) % 18446744073709551616 * inv) (show 0 < 18446744073709551616 by omega); omega
  rw [hu] at h0 ⊢
  have m1 : u * m ≤ 18446744073709551615 * m := Nat.mul_le_mul_right _ hub
  have m2 : a * b ≤ 18446744073709551615 * m := Nat.mul_le_mul (by omega) (Nat.le_of_lt hb)
  obtain ⟨S, hS⟩ : ∃ S, T + a * b + u * m = S := ⟨_, rfl⟩
  rw [hS] at h0 ⊢
  have hS2 : S = 18446744073709551616 * (S / 18446744073709551616) := by omega
  refine ⟨⟨by omega, q + u * Wi, mp_alg 18446744073709551616 T S Wi a b A q u m _ hq hS.symm hS2⟩, by omega, by omega⟩
def MontR (m k p v : Nat) : Prop := v < m ∧ v * 18446744073709551616 ^ k % m = p % m
theorem MP.done {m b A T k : Nat} (h : MP m b A (18446744073709551616 ^ k) T) : MontR m k (A * b) (if T < m then T else T - m) := by
  obtain ⟨hT, q, hq⟩ := h
  split
  · refine ⟨‹_›, ?_⟩
    rw [hq, Nat.add_mul_mod_self_right]
  · refine ⟨by omega, ?_⟩
    have : (T - m) * 18446744073709551616 ^ k + 18446744073709551616 ^ k * m = A * b + q * m := by
      rw [← hq, Nat.sub_mul]
      have := Nat.mul_le_mul_right (18446744073709551616 ^ k) (show m ≤ T by omega)
      rw [Nat.mul_comm (18446744073709551616 ^ k) m]; omega
    have e := congrArg (· % m) this
    simp only [Nat.add_mul_mod_self_right] at e
    exact e
end Go.Proofs.Yteelppebdcgbpaa
namespace Go.Proofs.Yteelppebdcgbpaa
set_option linter.unusedSimpArgs false
set_option linter.unusedVariables false
open Go.RowKit
theorem below_row {B g : Nat} {w0 w w' : World} (hb : Below B w0 w) (hg : w.grownBy w' (some g)) (hBg : B ≤ g) (hs : B ≤ w.heap.size) : Below B w0 w' :=
  hb.trans ⟨hg.os, hg.tape, hg.output, hg.size, fun k hk => hg.block k (by omega) (by simp; omega)⟩
theorem fit2 {X P m : Nat} (h : X < 2 * 18446744073709551616 * m) (hm : m < P) : X < P * 18446744073709551616 * 18446744073709551616 := by
  have h1 : m * 18446744073709551616 ≤ P * 18446744073709551616 := Nat.mul_le_mul_right _ (Nat.le_of_lt hm)
  have e : 2 * 18446744073709551616 * m = 2 * (m * 18446744073709551616) := by rw [Nat.mul_assoc, Nat.mul_comm 18446744073709551616 m]
  rw [e] at h
  obtain ⟨R, hR⟩ : ∃ R, m * 18446744073709551616 = R := ⟨_, rfl⟩
  obtain ⟨Q, hQ⟩ : ∃ Q, P * 18446744073709551616 = Q := ⟨_, rfl⟩
  rw [hR] at h h1
  rw [hQ] at h1 ⊢
  clear hR hQ e hm
  omega
theorem grown_own {w' : World} {v' : Value} {base n : Nat} {xs : List Nat} (h : w'.ownsRow base 35 1 v' (n + 1) (vs .u64 xs ++ vs .u64 [0])) : ∃ g c, v' = .slice (some ⟨g, 0, none⟩) (n + 1) c ∧ base ≤ g ∧ g < w'.heap.size ∧ Own .u64 35 w' base (some ⟨g, 0, none⟩) (n + 1) c (xs ++ [0]) := by
  rw [← vs_append] at h
  rcases h.2 with ⟨h1, h2⟩ | ⟨g, cap, cur, h1, h2, h3, _⟩
  · simp at h2
  · subst h1
    exact ⟨g, cap, rfl, h2, (Array.getElem?_eq_some_iff.1 h3).1, h⟩
set_option maxHeartbeats 2000000 in
theorem mont_mul_any (w : World) {N A B : Option Addr} {k cn ca cb inv m : Nat} {xs zs ys : List Nat} (hN : Rd .u64 w N k cn xs) (bN : B64 xs) (hm : nv xs = m) (hk : 0 < k) (hk2 : k ≤ 4096) (hmp : 0 < m) (hi : MInv (m % 18446744073709551616) inv)
    (hA : Rd .u64 w A k ca zs) (bA : B64 zs) (hB : Rd .u64 w B k cb ys) (bB : B64 ys) (hb : nv ys < m) :
    Calls Try.prog 70 #[mv N k cn inv, .slice A k ca, .slice B k cb] w fun e w' => ∃ v, MontR m k (nv zs * nv ys) v ∧ RetW k v w e w' := by
  have hmW : m < 18446744073709551616 ^ k := by rw [← hm, ← hN.len]; exact nv_lt bN
  have HN := Lib.hid hN
  have BN := Lib.hid bN
  have HM := Lib.hid hm
  have HI := Lib.hid hi
  have HA := Lib.hid hA
  have BA := Lib.hid bA
  have HB := Lib.hid hB
  have BB := Lib.hid bB
  have HMW := Lib.hid hmW
  have hmk := fun w => run_mk (k + 2) (by omega) w
  rw [show ((k + 2 : Nat) : Int) = (k : Int) + 2 from rfl] at hmk
  clear hN bN hm hi hA bA hB bB hmW
  unfold mv
  go_enter Try.func70, Try.ntmps70
  go_wp2_with fail
  obtain ⟨w1, hw1⟩ : ∃ w1, w1 = (w.alloc (.cells #[.slice N k cn, .int .u64 inv] 79)) := ⟨_, rfl⟩
  have hs1 : w1.heap.size = w.heap.size + 1 := by rw [hw1]; simp
  have k1 : Bk w1 w.heap.size 79 #[.slice N k cn, .int .u64 inv] := by rw [hw1]; exact Bk.new _ _ _
  have hb1 : Below w.heap.size w w1 := by rw [hw1]; (repeat (first | (with_reducible exact Below.refl _ _) | (with_reducible assumption) | (with_reducible refine Below.drew ?_) | (with_reducible refine below_drewN ?_ _) | ((with_reducible refine Below.setCell ?_ (p := ⟨_, _, _⟩) ?_ _); rotate_left; (simp <;> omega)) | ((with_reducible refine Below.alloc ?_ ?_ _); rotate_left; (simp <;> omega)) | ((with_reducible refine Below.trans ?_ (Below.mono (by with_reducible assumption) ?_)); rotate_left; (simp <;> omega))))
  rw [← hw1]
  have HB1 := Lib.hid hb1
  have K1 := Lib.hid k1
  clear hw1 k1 hb1
  go_loopw [8, 19] (fun tv i wr => ∃ (j g ct : Nat) (ts : List Nat), j ≤ k ∧ i = .int .i64 (j : Int) ∧ tv = .slice (some ⟨g, 0, none⟩) (k + 2) ct ∧ w.heap.size + 1 ≤ g ∧ g < wr.heap.size ∧ Own .u64 35 wr (w.heap.size + 1) (some ⟨g, 0, none⟩) (k + 2) ct ts ∧ B64 ts ∧ Below (w.heap.size + 1) w1 wr ∧ MP m (nv ys) (nv (zs.take j)) (18446744073709551616 ^ j) (nv ts)) (fun _ i _ => k - (intOf i).toNat)
  case atStart =>
    refine ⟨0, w.heap.size + 1, k + 2, List.replicate (k + 2) 0, by omega, rfl, rfl, by omega, by simp; omega, Own.of_bk (by rw [← hs1]; exact Bk.new _ _ _) (by omega) (by simp) (by omega), B64.replicate _, (Below.refl _ _).alloc (by omega) _, ?_⟩
    rw [nv_replicate, Nat.pow_zero, List.take_zero]
    exact MP.zero hmp
  case round =>
    obtain ⟨j, g, ct, ts, hj, rfl, rfl, hg1, hg2, ho, bt, hbl, hmp⟩ := hrel
    have HO := Lib.hid ho
    have BT := Lib.hid bt
    have HBL := Lib.hid hbl
    have HMP := Lib.hid hmp
    clear ho bt hbl hmp
    by_cases hlt : j < k
    · have hbw : Below w.heap.size w wr := HB1.out.trans (HBL.out.mono (by omega))
      have q0 : wr.cell? ⟨w.heap.size, 0, none⟩ = some (.slice N k cn) := (HBL.out.cell (p := ⟨w.heap.size, 0, none⟩) (by simp)).trans ((K1.out.cell 0).trans rfl)
      have q1 : wr.cell? ⟨w.heap.size, 1, none⟩ = some (.int .u64 inv) := (HBL.out.cell (p := ⟨w.heap.size, 1, none⟩) (by simp)).trans ((K1.out.cell 1).trans rfl)
      obtain ⟨ad, rfl, hab, hac⟩ := HA.out.form (by omega)
      have hxc := (hbw.cell (p := ad.add j) (adlt hab j)).trans (hac j hlt)
      have hga := BA.out.gd j
      have hcA := HA.out.cap
      have hmA := HA.out.max
      obtain ⟨aj, haj⟩ : ∃ aj, gd zs j = aj := ⟨_, rfl⟩
      rw [haj] at hxc hga
      obtain ⟨hstep, hS2, hS1⟩ := HMP.out.next hb hga HI.out
      clear hac
      go_wp2_with fail
      go_still_tail 7, (by kernel_rfl)
      change wpList _ _ _ _ _ wr.drew
      have hneA : ∀ {Z : Option Addr} {n c : Nat} {vs : List Nat}, Rd .u64 w Z n c vs → 0 < n → ∀ ad, Z = some ad → ad.block ≠ g := fun h h0 ad e => by
        obtain ⟨ad', e', hlt', _⟩ := h.form h0
        rw [e] at e'; obtain rfl := Option.some.inj e'; omega
      have hbw2 : Below w.heap.size w wr.drew := hbw.drew
      have hW2 : 18446744073709551616 ^ (k + 2) = 18446744073709551616 ^ k * 18446744073709551616 * 18446744073709551616 := by rw [Nat.pow_succ, Nat.pow_succ]
      have hmW := HMW.out
      have hrow := row_any wr.drew (N := N) (cn := cn) (inv := inv) (HO.out.drewN 1) BT.out (HB.out.below hbw2) BB.out (hneA HB.out hk) hga (by omega) (by rw [hW2]; omega) hg2
      have HROW := Lib.hid hrow
      have HSTEP := Lib.hid hstep
      have HS2 := Lib.hid hS2
      have HW2 := Lib.hid hW2
      clear hrow hstep hS1 hS2 hW2 hmW hbw
      unfold mv at HROW
      go_wp2_with fail
      refine HROW.out.mono ?_
      rintro e w2 ⟨us, rfl, ho2, bu, hgr, hnu⟩
      have hs2 : wr.heap.size ≤ w2.heap.size := hgr.size
      have hbl2 : Below (w.heap.size + 1) w1 w2 := below_row (HBL.out.drew) hgr hg1 (by simp; omega)
      have p0 : w2.cell? ⟨w.heap.size, 0, none⟩ = some (.slice N k cn) := (hbl2.cell (p := ⟨w.heap.size, 0, none⟩) (by simp)).trans ((K1.out.cell 0).trans rfl)
      have p1 : w2.cell? ⟨w.heap.size, 1, none⟩ = some (.int .u64 inv) := (hbl2.cell (p := ⟨w.heap.size, 1, none⟩) (by simp)).trans ((K1.out.cell 1).trans rfl)
      have hc0 := ho2.cellAt (show 0 < k + 2 by omega)
      have hu0 := gd0_mod bu
      rw [hnu] at hu0
      obtain ⟨t0, ht0⟩ : ∃ t0, gd us 0 = t0 := ⟨_, rfl⟩
      rw [ht0] at hc0 hu0
      obtain ⟨u, hu⟩ : ∃ u, t0 * inv % 18446744073709551616 = u := ⟨_, rfl⟩
      have huw : IntKind.u64.wrap ((t0 : Int) * (inv : Int)) = (u : Int) := by
        rw [show (t0 : Int) * (inv : Int) = ((t0 * inv : Nat) : Int) by push_cast; rfl, wrap_u64_nat, hu]
      have hu64 : u < 18446744073709551616 := by rw [← hu]; exact Nat.mod_lt _ (by omega)
      have hmx := ho2.rd.max
      have hcx := ho2.rd.cap
      have HU := Lib.hid hu
      have HT0 := Lib.hid hu0
      have HNU := Lib.hid hnu
      have HO2 := Lib.hid ho2
      have HGR := Lib.hid hgr
      have HBL2 := Lib.hid hbl2
      clear hu hu0 hnu ho2 hgr hbl2 q0 q1 ht0
      have h02 : (0 : Int) < (k : Int) + 2 := by omega
      have h02' : (0 : Int) < ((k + 2 : Nat) : Int) := by omega
      go_wp2_with fail
      go_still_tail 10, (by kernel_rfl)
      change wpList _ _ _ _ _ w2.drew
      have hbw3 : Below w.heap.size w w2.drew := HB1.out.trans ((HBL2.out.drew).mono (by omega))
      have hst := HSTEP.out
      have hs2' := HS2.out
      rw [← HT0.out, HU.out] at hst hs2'
      have hmW := HMW.out
      have hfit2 : nv us + u * nv xs < 18446744073709551616 ^ (k + 2) := by
        have e1 := HM.out
        have e2 := HNU.out
        have e3 := HW2.out
        rw [e1, e2, e3]
        exact fit2 hs2' HMW.out
      have hrow2 := row_any w2.drew (N := N) (cn := cn) (inv := inv) (HO2.out.drewN 1) bu (HN.out.below hbw3) BN.out (hneA HN.out hk) hu64 (by omega) hfit2 (by simp; omega)
      rw [HM.out, HNU.out] at hrow2
      obtain ⟨S, hS⟩ : ∃ S, nv ts + aj * nv ys + u * m = S := ⟨_, rfl⟩
      rw [hS] at hrow2 hst
      have HROW2 := Lib.hid hrow2
      have HST := Lib.hid hst
      clear hrow2 hst hs2' hS hmW hbw3 p0 p1 hc0 huw
      unfold mv at HROW2
      go_wp2_with fail
      refine HROW2.out.mono ?_
      rintro e w3 ⟨us3, rfl, ho3, bu3, hgr3, hnu3⟩
      have hs3 : w2.heap.size ≤ w3.heap.size := hgr3.size
      have hbl3 : Below (w.heap.size + 1) w1 w3 := below_row (HBL2.out.drew) hgr3 hg1 (by simp; omega)
      have HO3 := Lib.hid ho3
      have HBL3 := Lib.hid hbl3
      have HNU3 := Lib.hid hnu3
      clear ho3 hgr3 hbl3 hnu3
      have h1 : (1 : Int) ≤ (k : Int) + 2 := by omega
      have h2 : (k : Int) + 2 ≤ (ct : Int) := by omega
      obtain ⟨w4, hw4⟩ : ∃ w4, w4 = w3.alloc (.cells #[.int .u64 0] 35) := ⟨_, rfl⟩
      have hb4 : Below (w.heap.size + 1) w1 w4 := by rw [hw4]; exact HBL3.out.alloc (by omega) _
      have hs4 : w.heap.size + 1 ≤ w4.heap.size := by rw [hw4]; simp; omega
      have hn4 : ∀ j u, (vs .u64 [0])[j]? = some u → w4.cell? ((⟨w3.heap.size, 0, none⟩ : Addr).add j) = some u := by
        intro j u hu
        rw [hw4, ad_plain]
        exact ((Bk.new w3 35 #[.int .u64 0]).cell j).trans (by simpa [vs] using hu)
      have ho4 : ∀ b, some (⟨g, 1, none⟩ : Addr) = some b → ∀ j u, (vs .u64 (us3.drop 1))[j]? = some u → w4.cell? (b.add j) = some u := by
        intro b e j u hu
        obtain rfl := Option.some.inj e
        have hr := (HO3.out.rd.drop (m := 1) (by omega)).alloc (.cells #[.int .u64 0] 35)
        rw [if_neg (by omega), ← hw4] at hr
        simp only [Option.map_some, ad_plain] at hr
        exact hr.cells rfl j u hu
      have hl4 : (vs .u64 (us3.drop 1)).length = (k + 1) * 1 := by rw [vs_length, List.length_drop, HO3.out.len]; omega
      obtain ⟨i0, hi0, hz0, hz1, hz2⟩ := info_parts u64_info
      have HB4 := Lib.hid hb4
      clear hb4
      go_wp2_with (at_builtin; rw [← hw4]; refine wpList_append_grows w4 rfl (.tmp 46) (.tmp 47) _ rfl 35 i0 (.int .u64 0) 1 8 Try.underlying22 hi0 hz0 hz1 hz2 rfl (by omega) (some ⟨g, 1, none⟩) (k + 1) (k + 1) (vs .u64 (us3.drop 1)) rfl (fun e => by cases e) hl4 ho4 ⟨w3.heap.size, 0, none⟩ 1 1 (vs .u64 [0]) rfl rfl hn4 (vs_one _ _) (by omega) (by simp only [maxLen]; omega) (by omega) ?_)
      intro v' w5 how hgr5
      obtain ⟨g5, c5, rfl, hg5, hl5, ho5⟩ := grown_own how
      have hb5 : Below (w.heap.size + 1) w1 w5 := by
        have := hgr5.size
        refine HB4.out.trans ?_
        rw [hw4]
        exact ⟨hgr5.os, hgr5.tape, hgr5.output, hgr5.size, fun q hq => hgr5.block q (by simp; omega) (by simp)⟩
      have HO5 := Lib.hid ho5
      have HB5 := Lib.hid hb5
      clear how hgr5 hb5 ho5 hn4 ho4 hl4
      go_wp2_with fail
      refine ⟨⟨j + 1, g5, c5, us3.tail ++ [0], by omega, by go_num, rfl, by omega, hl5, HO5.out.lower (by omega), ?_, HB5.out, ?_⟩, by simp [intOf]; omega⟩
      · exact B64.append (fun x hx => bu3 x (List.mem_of_mem_tail hx)) (B64.cons (by omega) B64.nil)
      · rw [nv_take, Nat.pow_succ, haj]
        have e : nv (us3.tail ++ [0]) = S / 18446744073709551616 := by
          rw [nv_app, ← List.drop_one, nv_drop1 bu3, HNU3.out]; simp [nv]
        rw [e]
        exact HST.out
    · obtain rfl : k = j := by omega
      have hdone := HMP.out.done
      rw [List.take_of_length_le (by rw [HA.out.len]; omega)] at hdone
      have hbw : Below w.heap.size w wr := HB1.out.trans (HBL.out.mono (by omega))
      have q0 : wr.cell? ⟨w.heap.size, 0, none⟩ = some (.slice N k cn) := (HBL.out.cell (p := ⟨w.heap.size, 0, none⟩) (by simp)).trans ((K1.out.cell 0).trans rfl)
      have hsz := HBL.out.size
      have hsub := sub_any wr (x := nv ts) (y := m) ⟨ts, HO.out.rd, BT.out, rfl⟩ ⟨xs, HN.out.below hbw, BN.out, HM.out⟩ (by omega) (by omega)
      have hnt : NA wr (some ⟨g, 0, none⟩) (k + 2) ct (nv ts) := ⟨ts, HO.out.rd, BT.out, rfl⟩
      have HNT := Lib.hid hnt
      have hT2 := HMP.out.1
      have HBW := Lib.hid hbw
      clear hnt hbw
      by_cases ht : nv ts < m
      · rw [if_pos ht] at hsub hdone
        have hfit : nv ts < 18446744073709551616 ^ k := Nat.lt_trans ht HMW.out
        generalize nv ts = T at *
        have HSUB := Lib.hid hsub
        have HD := Lib.hid hdone
        have HF := Lib.hid hfit
        clear hsub hdone hfit hT2
        go_wp2_with fail
        refine HSUB.out.mono ?_
        rintro e w2 ⟨A2, c2, rfl, -, hb2⟩
        have p0 : w2.cell? ⟨w.heap.size, 0, none⟩ = some (.slice N k cn) := (hb2.cell (p := ⟨w.heap.size, 0, none⟩) (by simp; omega)).trans q0
        have p1 : w2.cell? ⟨w.heap.size, 1, none⟩ = some (.int .u64 inv) := (hb2.cell (p := ⟨w.heap.size, 1, none⟩) (by simp; omega)).trans ((HBL.out.cell (p := ⟨w.heap.size, 1, none⟩) (by simp)).trans ((K1.out.cell 1).trans rfl))
        have hwide := wide_any (inv := inv) (cn := cn) (N := N) w2 (HNT.out.below hb2) (show k ≤ 4194304 by omega) HF.out
        unfold mv at hwide
        have HW := Lib.hid hwide
        have HB2 := Lib.hid (HBW.out.trans (hb2.mono HBW.out.size))
        clear hwide hb2
        go_wp2_with fail
        refine HW.out.mono ?_
        rintro e w3 h
        have h := h.lift HB2.out
        obtain ⟨g3, us3, rfl, h1, h2, h3, h4⟩ := h
        go_wp2_with fail
        go_ret
        exact ⟨T, HD.out, g3, us3, rfl, h1, h2, h3, h4⟩
      · rw [if_neg ht] at hsub hdone
        have hfit : nv ts - m < 18446744073709551616 ^ k := by have := HMW.out; omega
        generalize nv ts - m = T at *
        have HSUB := Lib.hid hsub
        have HD := Lib.hid hdone
        have HF := Lib.hid hfit
        clear hsub hdone hfit hT2
        go_wp2_with fail
        refine HSUB.out.mono ?_
        rintro e w2 ⟨A2, c2, rfl, ho2, hb2⟩
        have p0 : w2.cell? ⟨w.heap.size, 0, none⟩ = some (.slice N k cn) := (hb2.cell (p := ⟨w.heap.size, 0, none⟩) (by simp; omega)).trans q0
        have p1 : w2.cell? ⟨w.heap.size, 1, none⟩ = some (.int .u64 inv) := (hb2.cell (p := ⟨w.heap.size, 1, none⟩) (by simp; omega)).trans ((HBL.out.cell (p := ⟨w.heap.size, 1, none⟩) (by simp)).trans ((K1.out.cell 1).trans rfl))
        have hwide := wide_any (inv := inv) (cn := cn) (N := N) w2 ho2.na (show k ≤ 4194304 by omega) HF.out
        unfold mv at hwide
        have HW := Lib.hid hwide
        have HB2 := Lib.hid (HBW.out.trans (hb2.mono HBW.out.size))
        clear hwide hb2
        go_wp2_with fail
        refine HW.out.mono ?_
        rintro e w3 h
        have h := h.lift HB2.out
        obtain ⟨g3, us3, rfl, h1, h2, h3, h4⟩ := h
        go_wp2_with fail
        go_ret
        exact ⟨T, HD.out, g3, us3, rfl, h1, h2, h3, h4⟩
end Go.Proofs.Yteelppebdcgbpaa
namespace Go.Proofs.Yteelppebdcgbpaa
set_option linter.unusedSimpArgs false
set_option linter.unusedVariables false
open Go.RowKit
theorem halve_mod {a b m : Nat} (hm : m % 2 = 1) (h : a * 2 % m = b * 2 % m) : a % m = b % m := by
  have e := congrArg (fun t => t * ((m + 1) / 2) % m) h
  simp only [Nat.mod_mul_mod] at e
  have e2 : ∀ c, c * 2 * ((m + 1) / 2) = c + c * m := fun c => by
    rw [Nat.mul_assoc, show 2 * ((m + 1) / 2) = m + 1 by omega, Nat.mul_add, Nat.mul_one, Nat.add_comm]
  rw [e2, e2, Nat.add_mul_mod_self_right, Nat.add_mul_mod_self_right] at e
  exact e
theorem halve_pow {m : Nat} (hm : m % 2 = 1) : ∀ (n : Nat) {a b : Nat}, a * 2 ^ n % m = b * 2 ^ n % m → a % m = b % m := by
  intro n
  induction n with
  | zero => intro a b h; simpa using h
  | succ n ih =>
    intro a b h
    rw [Nat.pow_succ, ← Nat.mul_assoc, ← Nat.mul_assoc] at h
    exact ih (halve_mod hm h)
theorem cancelW {m : Nat} (hm : m % 2 = 1) (k : Nat) {a b : Nat} (h : a * 18446744073709551616 ^ k % m = b * 18446744073709551616 ^ k % m) : a % m = b % m := by
  rw [show (18446744073709551616 : Nat) = 2 ^ 64 by decide +kernel, ← Nat.pow_mul] at h
  exact halve_pow hm _ h
def MF (m k p v : Nat) : Prop := v = p * 18446744073709551616 ^ k % m
theorem MF.mul {m k p q u v r : Nat} (hm : m % 2 = 1) (hu : MF m k p u) (hv : MF m k q v) (h : MontR m k (u * v) r) : MF m k (p * q) r := by
  obtain ⟨h1, h2⟩ := h
  unfold MF at *
  rw [hu, hv, ← Nat.mul_mod] at h2
  have : p * 18446744073709551616 ^ k * (q * 18446744073709551616 ^ k) = p * q * 18446744073709551616 ^ k * 18446744073709551616 ^ k := by
    rw [Nat.mul_assoc, Nat.mul_left_comm (18446744073709551616 ^ k), ← Nat.mul_assoc, ← Nat.mul_assoc]
  rw [this] at h2
  have := cancelW hm k h2
  rw [Nat.mod_eq_of_lt h1] at this
  exact this
theorem MF.out1 {m k p u r : Nat} (hm : m % 2 = 1) (hu : MF m k p u) (h : MontR m k (u * 1) r) : r = p % m := by
  obtain ⟨h1, h2⟩ := h
  unfold MF at *
  rw [hu, Nat.mul_one, Nat.mod_mod] at h2
  have := cancelW hm k h2
  rw [Nat.mod_eq_of_lt h1] at this
  exact this
theorem MF.lt {m k p u : Nat} (hm : 0 < m) (hu : MF m k p u) : u < m := by rw [hu]; exact Nat.mod_lt _ hm
def PB (x e j : Nat) : Nat := x ^ (e % 2 ^ j)
def QB (x j : Nat) : Nat := x ^ (2 ^ j)
theorem PB.zero (x e : Nat) : PB x e 0 = 1 := by unfold PB; rw [Nat.pow_zero, Nat.mod_one, Nat.pow_zero]
theorem QB.zero (x : Nat) : QB x 0 = x := by unfold QB; rw [Nat.pow_zero, Nat.pow_one]
theorem QB.next (x j : Nat) : QB x j * QB x j = QB x (j + 1) := by unfold QB; rw [← Nat.pow_add, Nat.pow_succ]; congr 1; omega
theorem mod_pow_next (e j : Nat) : e % 2 ^ (j + 1) = e % 2 ^ j + e / 2 ^ j % 2 * 2 ^ j := by
  rw [Nat.pow_succ, Nat.mod_mul, Nat.mul_comm (2 ^ j)]
theorem PB.one {x e j : Nat} (h : e / 2 ^ j % 2 = 1) : PB x e j * QB x j = PB x e (j + 1) := by
  unfold PB QB; rw [← Nat.pow_add, mod_pow_next, h, Nat.one_mul]
theorem PB.none {x e j : Nat} (h : e / 2 ^ j % 2 = 0) : PB x e j = PB x e (j + 1) := by
  unfold PB; rw [mod_pow_next, h, Nat.zero_mul, Nat.add_zero]
theorem PB.done (x e : Nat) : PB x e (blen e) = x ^ e := by
  unfold PB; rw [Nat.mod_eq_of_lt (blen_le.1 (Nat.le_refl _))]
end Go.Proofs.Yteelppebdcgbpaa
namespace Go.Proofs.Yteelppebdcgbpaa
set_option linter.unusedSimpArgs false
set_option linter.unusedVariables false
open Go.RowKit
theorem chainB {B : Nat} {w0 w w' : World} (h : Below B w0 w) (hb : Below w.heap.size w w') (hs : B ≤ w0.heap.size) : Below B w0 w' := h.trans (hb.mono (Nat.le_trans hs h.size))
set_option maxHeartbeats 2000000 in
theorem odd_any (w : World) {A E N : Option Addr} {n c ne ce k cn x e m : Nat} {xs : List Nat} (hA : NA w A n c x) (hE : NA w E ne ce e) (hN : Rd .u64 w N k cn xs) (bN : B64 xs) (hm : nv xs = m) (hmo : m % 2 = 1) (hm1 : 1 < m)
    (hn : n ≤ 4096) (hne : ne ≤ 4096) (hce : ne ≤ ce) (hk : k ≤ 1024) :
    Calls Try.prog 41 #[.slice A n c, .slice E ne ce, .slice N k cn] w (RetN (x ^ e % m) w) := by
  have hmp : 0 < m := by omega
  have hk0 : 0 < k := by
    rcases Nat.eq_zero_or_pos k with h | h
    · subst h
      have := hN.len
      obtain rfl : xs = [] := List.eq_nil_of_length_eq_zero this
      simp [nv] at hm; omega
    · exact h
  have hg0 := gd0_mod bN
  rw [hm] at hg0
  have hopen := open_any w hN bN hk0 (by omega)
  rw [hg0] at hopen
  have HA := Lib.hid hA
  have HE := Lib.hid hE
  have HN := Lib.hid hN
  have BN := Lib.hid bN
  have HM := Lib.hid hm
  have HO := Lib.hid hopen
  clear hopen hA hE hN bN hm hg0
  go_enter Try.func41, Try.ntmps41
  go_wp2_with fail
  refine HO.out.mono ?_
  rintro e1 w1 ⟨inv, rfl, hinv, hb1⟩
  have HI := Lib.hid hinv
  have HB1 := Lib.hid hb1
  clear hinv hb1
  unfold mv
  go_wp2_with fail
  obtain ⟨w2, hw2⟩ : ∃ w2, w2 = (w1.alloc (.cells #[.slice N k cn, .int .u64 inv] 79)) := ⟨_, rfl⟩
  have hs2 : w2.heap.size = w1.heap.size + 1 := by rw [hw2]; simp
  have k2 : Bk w2 w1.heap.size 79 #[.slice N k cn, .int .u64 inv] := by rw [hw2]; exact Bk.new _ _ _
  have hb2 : Below w.heap.size w w2 := by rw [hw2]; exact HB1.out.alloc HB1.out.size _
  rw [← hw2]
  clear hw2
  have hof := of_any w2 1 (by omega)
  simp only [Int.natCast_one] at hof
  refine hof.mono ?_
  rintro e3 w3 ⟨A1, c1, rfl, ho3, hb3⟩
  have hw3 : Below w.heap.size w w3 := chainB hb2 hb3 (Nat.le_refl _)
  have hlt3 : w1.heap.size < w3.heap.size := by have := hb3.size; omega
  have T0 : w3.cell? ⟨w1.heap.size, 0, none⟩ = some (.slice N k cn) := (hb3.cell (p := ⟨w1.heap.size, 0, none⟩) (by simp; omega)).trans ((k2.cell 0).trans rfl)
  have T1 : w3.cell? ⟨w1.heap.size, 1, none⟩ = some (.int .u64 inv) := (hb3.cell (p := ⟨w1.heap.size, 1, none⟩) (by simp; omega)).trans ((k2.cell 1).trans rfl)
  have hone : NA w3 A1 (ln 1) c1 1 := ho3.na
  have hl1 : ln 1 ≤ 1 := ln_le.2 (by omega)
  have hS1 : ∀ W, Below w3.heap.size w3 W → Calls Try.prog 69 #[.agg #[.slice N k cn, .int .u64 inv], .slice A1 (ln 1) c1] W (RetW k (1 * 18446744073709551616 ^ k % m) W) := fun W hW =>
    shifted_any W (hone.below hW) ⟨xs, (HN.out.below hw3).below hW, BN.out, HM.out⟩ hmp (by omega) hk
  have hSa : ∀ W, Below w3.heap.size w3 W → Calls Try.prog 69 #[.agg #[.slice N k cn, .int .u64 inv], .slice A n c] W (RetW k (x * 18446744073709551616 ^ k % m) W) := fun W hW =>
    shifted_any W ((HA.out.below hw3).below hW) ⟨xs, (HN.out.below hw3).below hW, BN.out, HM.out⟩ hmp (by omega) hk
  obtain ⟨v1, hv1⟩ : ∃ v1, v1 = 1 * 18446744073709551616 ^ k % m := ⟨_, rfl⟩
  obtain ⟨va', hva⟩ : ∃ va', va' = x * 18446744073709551616 ^ k % m := ⟨_, rfl⟩
  rw [← hv1] at hS1
  rw [← hva] at hSa
  have M1 : MF m k 1 v1 := hv1
  have MA : MF m k x va' := hva
  have HM1 := Lib.hid M1
  have HMA := Lib.hid MA
  have HS1 := Lib.hid hS1
  have HSA := Lib.hid hSa
  have HW3 := Lib.hid hw3
  have HONE := Lib.hid hone
  clear M1 MA hS1 hSa hv1 hva hw3 ho3 hb3 hone hb2 k2 hof
  go_wp2_with fail
  have S0 : w3.drew.cell? ⟨w1.heap.size, 0, none⟩ = some (.slice N k cn) ∧ w3.drew.cell? ⟨w1.heap.size, 1, none⟩ = some (.int .u64 inv) := ⟨T0, T1⟩
  have B0 : Below w3.heap.size w3 w3.drew := (Below.refl _ _).drew
  go_region_held3 (fun w' => w'.cell? ⟨w1.heap.size, 0, none⟩ = some (.slice N k cn) ∧ w'.cell? ⟨w1.heap.size, 1, none⟩ = some (.int .u64 inv))
    (with_reducible assumption)
    ((first | (go_at_call 69; (with_reducible refine (HS1.out _ (by with_reducible assumption)).mono ?_); rintro e4 w4 ⟨g4, us4, rfl, ho4, bu4, hv4, hb4⟩; have hbn4 : Below w3.heap.size w3 w4 := chainB (by with_reducible assumption) hb4 (Nat.le_refl _); have S4 : w4.cell? ⟨w1.heap.size, 0, none⟩ = some (.slice N k cn) ∧ w4.cell? ⟨w1.heap.size, 1, none⟩ = some (.int .u64 inv) := ⟨(hbn4.cell (p := ⟨w1.heap.size, 0, none⟩) hlt3).trans T0, (hbn4.cell (p := ⟨w1.heap.size, 1, none⟩) hlt3).trans T1⟩) | (go_at_call 69; (with_reducible refine (HSA.out _ (by with_reducible assumption)).mono ?_); rintro e5 w5 ⟨g5, us5, rfl, ho5, bu5, hv5, hb5⟩; have hbn5 : Below w3.heap.size w3 w5 := chainB (by with_reducible assumption) hb5 (Nat.le_refl _); have S5 : w5.cell? ⟨w1.heap.size, 0, none⟩ = some (.slice N k cn) ∧ w5.cell? ⟨w1.heap.size, 1, none⟩ = some (.int .u64 inv) := ⟨(hbn5.cell (p := ⟨w1.heap.size, 0, none⟩) hlt3).trans T0, (hbn5.cell (p := ⟨w1.heap.size, 1, none⟩) hlt3).trans T1⟩)))
  have HW5 := Lib.hid (HW3.out.trans (hbn5.mono HW3.out.size))
  have hr4 := ho4.rd.below hb5
  have hr5 := ho5.rd
  have hone5 := HONE.out.below hbn5
  have hs5 := hbn5.size
  have hbits := bits_any w5 (HE.out.below HW5.out) (by omega) hce
  rw [hv4.symm] at HM1
  rw [hv5.symm] at HMA
  have HBITS := Lib.hid hbits
  have HR4 := Lib.hid hr4
  have HR5 := Lib.hid hr5
  have HONE5 := Lib.hid hone5
  clear ho4 ho5 hv4 hv5 hb4 hb5 hbn4 hbn5 S4 S0 T0 T1 hr4 hr5 hone5 hbits hs2 HONE HS1 HSA
  go_wp2_with fail
  refine HBITS.out.mono ?_
  rintro e6 w6 ⟨rfl, hb6⟩
  have T0 : w6.cell? ⟨w1.heap.size, 0, none⟩ = some (.slice N k cn) := (hb6.cell (p := ⟨w1.heap.size, 0, none⟩) (by simp; omega)).trans S5.1
  have T1 : w6.cell? ⟨w1.heap.size, 1, none⟩ = some (.int .u64 inv) := (hb6.cell (p := ⟨w1.heap.size, 1, none⟩) (by simp; omega)).trans S5.2
  have hlt6 : w1.heap.size < w6.heap.size := by have := hb6.size; omega
  have HR6 := Lib.hid (HR4.out.below hb6)
  have HB6 := Lib.hid (HR5.out.below hb6)
  have HONE6 := Lib.hid (HONE5.out.below hb6)
  have HW6 := Lib.hid (chainB HW5.out hb6 (Nat.le_refl _))
  have hbe : blen e ≤ 64 * ne := by
    rw [blen_le]
    obtain ⟨es, h1, h2, rfl⟩ := HE.out
    have h3 := nv_lt h2
    rw [h1.len, show (18446744073709551616 : Nat) = 2 ^ 64 by decide +kernel, ← Nat.pow_mul] at h3
    exact h3
  obtain ⟨L, hL⟩ : ∃ L, blen e = L := ⟨_, rfl⟩
  have HL := Lib.hid hL
  rw [hL] at hbe
  simp only [hL]
  have hmult := fun (W : World) (hW : Below w6.heap.size w6 W) (g h : Nat) (us vs : List Nat) (h1 : Rd .u64 W (some ⟨g, 0, none⟩) k k us) (b1 : B64 us) (h2 : Rd .u64 W (some ⟨h, 0, none⟩) k k vs) (b2 : B64 vs) (h3 : nv vs < m) =>
    mont_mul_any W (cn := cn) ((HN.out.below HW6.out).below hW) BN.out HM.out hk0 (by omega) hmp HI.out h1 b1 h2 b2 h3
  unfold mv at hmult
  have HMUL := Lib.hid hmult
  clear hmult
  clear hb6 hL HBITS HR4 HR5 HONE5 HW5 hs5 S5
  go_wp2_with fail
  go_loopw [9, 10, 23] (fun o b i wr => ∃ (j g h : Nat) (us vs : List Nat), j ≤ L ∧ i = .int .i64 (j : Int) ∧ o = .slice (some ⟨g, 0, none⟩) k k ∧ b = .slice (some ⟨h, 0, none⟩) k k ∧ Rd .u64 wr (some ⟨g, 0, none⟩) k k us ∧ B64 us ∧ MF m k (PB x e j) (nv us) ∧ Rd .u64 wr (some ⟨h, 0, none⟩) k k vs ∧ B64 vs ∧ MF m k (QB x j) (nv vs) ∧ Below w6.heap.size w6 wr) (fun _ _ i _ => L - (intOf i).toNat)
  case atStart =>
    exact ⟨0, g4, g5, us4, us5, by omega, rfl, rfl, rfl, HR6.out, bu4, by rw [PB.zero]; exact HM1.out, HB6.out, bu5, by rw [QB.zero]; exact HMA.out, Below.refl _ _⟩
  case round =>
    obtain ⟨j, g, h, us, vs', hj, rfl, rfl, rfl, hru, bu, hmu, hrv, bv, hmv, hbl⟩ := hrel
    have HRU := Lib.hid hru
    have BU := Lib.hid bu
    have HMU := Lib.hid hmu
    have HRV := Lib.hid hrv
    have BV := Lib.hid bv
    have HMV := Lib.hid hmv
    have HBL := Lib.hid hbl
    clear hru bu hmu hrv bv hmv hbl
    by_cases hlt : j < L
    · have q0 : wr.cell? ⟨w1.heap.size, 0, none⟩ = some (.slice N k cn) := (HBL.out.cell (p := ⟨w1.heap.size, 0, none⟩) hlt6).trans T0
      have q1 : wr.cell? ⟨w1.heap.size, 1, none⟩ = some (.int .u64 inv) := (HBL.out.cell (p := ⟨w1.heap.size, 1, none⟩) hlt6).trans T1
      have hbit := bit_any wr j ((HE.out.below HW6.out).below HBL.out) (by omega) (by omega) hce
      obtain ⟨bt, hbt⟩ : ∃ bt, e / 2 ^ j % 2 = bt := ⟨_, rfl⟩
      have hb2 : bt = 0 ∨ bt = 1 := by have := Nat.mod_lt (e / 2 ^ j) (show 0 < 2 by omega); omega
      rw [hbt] at hbit
      have HBT := Lib.hid hbt
      have HBIT := Lib.hid hbit
      clear hbt hbit
      rcases hb2 with rfl | rfl
      · go_wp2_with fail
        refine HBIT.out.mono ?_
        rintro e7 w7 ⟨rfl, nd, rfl⟩
        have hbl7 : Below w6.heap.size w6 (wr.drewN nd) := below_drewN HBL.out nd
        have hm2 := HMUL.out (wr.drewN nd) hbl7 h h vs' vs' (HRV.out.drewN nd) BV.out (HRV.out.drewN nd) BV.out (HMV.out.lt hmp)
        have HM2 := Lib.hid hm2
        have HBL7 := Lib.hid hbl7
        clear hm2 hbl7
        simp only [Int.natCast_zero]
        go_wp2_with fail
        refine HM2.out.mono ?_
        rintro e8 w8 ⟨v, hmr, g8, us8, rfl, ho8, b8, hv8, hb8⟩
        have HBL8 := Lib.hid (chainB HBL7.out hb8 (Nat.le_refl _))
        have HR8 := Lib.hid ho8.rd
        have HRU8 := Lib.hid ((HRU.out.drewN nd).below hb8)
        have HV8 := Lib.hid (show MF m k (QB x (j + 1)) (nv us8) by rw [← QB.next, hv8]; exact HMV.out.mul hmo HMV.out hmr)
        have HU8 := Lib.hid (show MF m k (PB x e (j + 1)) (nv us) by rw [← PB.none HBT.out]; exact HMU.out)
        clear ho8 hb8 hmr hv8
        go_wp2_with fail
        exact ⟨⟨j + 1, g, g8, us, us8, by omega, by go_num, rfl, rfl, HRU8.out, BU.out, HU8.out, HR8.out, b8, HV8.out, HBL8.out⟩, by simp [intOf]; omega⟩
      · go_wp2_with fail
        refine HBIT.out.mono ?_
        rintro e7 w7 ⟨rfl, nd, rfl⟩
        have hbl7 : Below w6.heap.size w6 (wr.drewN nd) := below_drewN HBL.out nd
        have hm2 := HMUL.out (wr.drewN nd) hbl7 g h us vs' (HRU.out.drewN nd) BU.out (HRV.out.drewN nd) BV.out (HMV.out.lt hmp)
        have HM2 := Lib.hid hm2
        have HBL7 := Lib.hid hbl7
        clear hm2 hbl7
        simp only [Int.natCast_one]
        go_wp2_with fail
        refine HM2.out.mono ?_
        rintro e8 w8 ⟨v, hmr, g8, us8, rfl, ho8, b8, hv8, hb8⟩
        have hbl8 := chainB HBL7.out hb8 (Nat.le_refl _)
        have r0 : w8.cell? ⟨w1.heap.size, 0, none⟩ = some (.slice N k cn) := (hbl8.cell (p := ⟨w1.heap.size, 0, none⟩) hlt6).trans T0
        have r1 : w8.cell? ⟨w1.heap.size, 1, none⟩ = some (.int .u64 inv) := (hbl8.cell (p := ⟨w1.heap.size, 1, none⟩) hlt6).trans T1
        have hrv8 := (HRV.out.drewN nd).below hb8
        have hm3 := HMUL.out w8 hbl8 h h vs' vs' hrv8 BV.out hrv8 BV.out (HMV.out.lt hmp)
        have HM3 := Lib.hid hm3
        have HBL8 := Lib.hid hbl8
        have HR8 := Lib.hid ho8.rd
        have HU8 := Lib.hid (show MF m k (PB x e (j + 1)) (nv us8) by rw [← PB.one HBT.out, hv8]; exact HMU.out.mul hmo HMV.out hmr)
        clear ho8 hb8 hmr hv8 hbl8 hrv8 hm3 HM2
        go_wp2_with fail
        refine HM3.out.mono ?_
        rintro e9 w9 ⟨v9, hmr, g9, us9, rfl, ho9, b9, hv9, hb9⟩
        have HBL9 := Lib.hid (chainB HBL8.out hb9 (Nat.le_refl _))
        have HR9 := Lib.hid ho9.rd
        have HRU9 := Lib.hid (HR8.out.below hb9)
        have HV9 := Lib.hid (show MF m k (QB x (j + 1)) (nv us9) by rw [← QB.next, hv9]; exact HMV.out.mul hmo HMV.out hmr)
        clear ho9 hb9 hmr hv9
        go_wp2_with fail
        exact ⟨⟨j + 1, g8, g9, us8, us9, by omega, by go_num, rfl, rfl, HRU9.out, b8, HU8.out, HR9.out, b9, HV9.out, HBL9.out⟩, by simp [intOf]; omega⟩
    · obtain rfl : L = j := by omega
      have B0 : Below w6.heap.size w6 wr.drew := HBL.out.drew
      have q0 : wr.drew.cell? ⟨w1.heap.size, 0, none⟩ = some (.slice N k cn) := (HBL.out.cell (p := ⟨w1.heap.size, 0, none⟩) hlt6).trans T0
      have q1 : wr.drew.cell? ⟨w1.heap.size, 1, none⟩ = some (.int .u64 inv) := (HBL.out.cell (p := ⟨w1.heap.size, 1, none⟩) hlt6).trans T1
      have S0 : wr.drew.cell? ⟨w1.heap.size, 0, none⟩ = some (.slice N k cn) ∧ wr.drew.cell? ⟨w1.heap.size, 1, none⟩ = some (.int .u64 inv) := ⟨q0, q1⟩
      have hfit1 : 1 < 18446744073709551616 ^ k := Nat.lt_of_lt_of_le (by omega) (Nat.pow_le_pow_right (n := 18446744073709551616) (by omega) hk0)
      have hl1 : ln 1 ≤ 1 := ln_le.2 (by omega)
      have hwide := wide_any (inv := inv) (cn := cn) (N := N) wr.drew (HONE6.out.below B0) (show k ≤ 4194304 by omega) hfit1
      unfold mv at hwide
      have hrud := HRU.out.drewN 1
      have HWI := Lib.hid hwide
      have HRD := Lib.hid (show Rd .u64 wr.drew (some ⟨g, 0, none⟩) k k us from hrud)
      clear hwide hrud hfit1
      go_wp2_with fail
      go_region_held3 (fun w' => w'.cell? ⟨w1.heap.size, 0, none⟩ = some (.slice N k cn) ∧ w'.cell? ⟨w1.heap.size, 1, none⟩ = some (.int .u64 inv))
        (with_reducible assumption)
        ((first | (go_at_call 71; (with_reducible refine HWI.out.mono ?_); rintro e8 w8 ⟨g8, us8, rfl, ho8, b8, hv8, hb8⟩; have hbl8 := chainB B0 hb8 (Nat.le_refl _); have S8 : w8.cell? ⟨w1.heap.size, 0, none⟩ = some (.slice N k cn) ∧ w8.cell? ⟨w1.heap.size, 1, none⟩ = some (.int .u64 inv) := ⟨(hbl8.cell (p := ⟨w1.heap.size, 0, none⟩) hlt6).trans T0, (hbl8.cell (p := ⟨w1.heap.size, 1, none⟩) hlt6).trans T1⟩; have hmm := HMUL.out w8 hbl8 g g8 us us8 (HRD.out.below hb8) BU.out ho8.rd b8 (by rw [hv8]; exact hm1)) | (go_at_call 70; (with_reducible refine hmm.mono ?_); rintro e9 w9 ⟨v9, hmr, g9, us9, rfl, ho9, b9, hv9, hb9⟩; have hbl9 := chainB hbl8 hb9 (Nat.le_refl _); have S9 : w9.cell? ⟨w1.heap.size, 0, none⟩ = some (.slice N k cn) ∧ w9.cell? ⟨w1.heap.size, 1, none⟩ = some (.int .u64 inv) := ⟨(hbl9.cell (p := ⟨w1.heap.size, 0, none⟩) hlt6).trans T0, (hbl9.cell (p := ⟨w1.heap.size, 1, none⟩) hlt6).trans T1⟩; have htr := trim_any w9 (x := v9) ⟨us9, ho9.rd, b9, hv9⟩ (by omega)) | (go_at_call 40; (with_reducible refine htr.mono ?_); rintro e10 w10 ⟨A10, c10, rfl, ho10, hb10⟩; have hbl10 := chainB hbl9 hb10 (Nat.le_refl _); have S10 : w10.cell? ⟨w1.heap.size, 0, none⟩ = some (.slice N k cn) ∧ w10.cell? ⟨w1.heap.size, 1, none⟩ = some (.int .u64 inv) := ⟨(hbl10.cell (p := ⟨w1.heap.size, 0, none⟩) hlt6).trans T0, (hbl10.cell (p := ⟨w1.heap.size, 1, none⟩) hlt6).trans T1⟩)))
      rw [hv8] at hmr
      have hfin : v9 = x ^ e % m := by
        have h1 := MF.out1 hmo HMU.out hmr
        rw [h1, ← HL.out, PB.done]
      have HF := Lib.hid hfin
      have HOF := Lib.hid ho10
      have HBF := Lib.hid (HW6.out.trans (hbl10.mono HW6.out.size))
      have hsz := (HW6.out.trans (hbl9.mono HW6.out.size)).size
      clear hfin ho10 hbl10 hmr hmm htr hv8 ho8 hv9 ho9
      go_wp2_with fail
      go_ret
      rw [← HF.out]
      exact ⟨A10, c10, rfl, HOF.out.lower hsz, HBF.out⟩
end Go.Proofs.Yteelppebdcgbpaa
namespace Go.Proofs.Yteelppebdcgbpaa
set_option linter.unusedSimpArgs false
set_option linter.unusedVariables false
open Go.RowKit Go.Proofs.YteelppebdcgbpaaW.PrintWords Go.Proofs.YteelppebdcgbpaaW.PrintLast
def powM (a e m : Nat) : Nat := a ^ e % m
theorem odd_giv {A0 A1 A2 : Option Addr} {c0 c1 c2 : Nat} {l0 l1 l2 : List Int} {w : World} {r : List Int} (hr0 : Kd.C (Kd.int .u64) w A0 l0.length l0) (hc0 : l0.length ≤ c0) (hr1 : Kd.C (Kd.int .u64) w A1 l1.length l1) (hc1 : l1.length ≤ c1) (hr2 : Kd.C (Kd.int .u64) w A2 l2.length l2) (hc2 : l2.length ≤ c2)
    (h : (if okN 4096 l0 ∧ okN 4096 l1 ∧ okN 1024 l2 ∧ nI l2 % 2 = 1 ∧ 1 < nI l2 then some (ofN (powM (nI l0) (nI l1) (nI l2))) else none) = some r) :
    Calls Try.prog 41 #[.slice A0 l0.length c0, .slice A1 l1.length c1, .slice A2 l2.length c2] w fun e w' => ∃ v0_ : Value, e = .returned (v0_) ∧ Kd.R (Kd.int .u64) 35 w' w.heap.size (fun _ => True) v0_ r ∧ Below w.heap.size w w' := by
  obtain ⟨⟨h0, h1, h2, h3, h4⟩, rfl⟩ := of_ite h
  exact (odd_any w (na_of_C hr0 hc0 h0) (na_of_C hr1 hc1 h1) (rd_of_C hr2 hc2 h2) h2.b64 rfl h3 h4 h0.1 h1.1 hc1 h2.1).mono fun _ _ h => retN_R h
end Go.Proofs.Yteelppebdcgbpaa
namespace Go.Proofs.Yteelppebdcgbpaa.Cm
open Go.RowKit Go.Proofs.YteelppebdcgbpaaW.PrintWords Go.Proofs.YteelppebdcgbpaaW.PrintLast Go.Proofs.YteelppebdcgbpaaW.PrintMore
attribute [local go_sem] max2_int min2_int max_two min_two max_three min_three max_four min_four   -- for this text's walks alone
set_option linter.unusedVariables false
set_option linter.unusedSimpArgs false
def errW : Option Int → Value
  | none => .nilIface
  | some c => .iface 0 (.int .i64 c)
theorem errW_none : errW none = .nilIface := rfl
theorem errW_some (c : Int) : errW (some c) = .iface 0 (.int .i64 c) := rfl
end Go.Proofs.Yteelppebdcgbpaa.Cm
