/- Texts of this claim, joined: what its laws use. -/
import Derived.Test.YtdmglajfmfjmlaaGreatPME
import Derived.Test.YtdmglajfmfjmlaaGreatProg
import Derived.Below
import Derived.Deep.Draws
import Derived.Deep.AppendLies
import Derived.Maps.AppendAt
import Derived.OwnWalk
import Derived.Laws.BytesArg
import Derived.Laws.MakeOwn
import Derived.Laws.OwnMore
import Derived.Deep.OwnRows
import Derived.Tactics
import Derived.Lib.ConvBytes
import Derived.Laws.Slices
import Derived.WalkKit
import Derived.KernelRfl
import Derived.RowKit3
import Derived.Deep.LoopGhost
import Derived.Deep.QuietTactic
import Derived.BigQuiet
import Derived.WideLaws
import Derived.Deep.DeepCutAuto
import Derived.Deep.CutBlock
import Derived.Deep.RegionHeld3
import Derived.Laws.Rows
import Derived.Lib.AppendStr
import Derived.ArgAppend
import Derived.Laws.IdiomCopy
import Derived.OrdersHeld
import Derived.Laws.BitsLemmas
import Derived.RowKit
namespace Go.Proofs.YtdmglajfmfjmlaaGreat.Cr
open Go.RowKit Go.Proofs.YtdmglajfmfjmlaaGreatW.PrintWords Go.Proofs.YtdmglajfmfjmlaaGreatW.PrintLast Go.Proofs.YtdmglajfmfjmlaaGreatW.PrintMore
attribute [local go_sem] max2_int min2_int max_two min_two max_three min_three max_four min_four   -- for this text's walks alone
set_option linter.unusedVariables false
set_option linter.unusedSimpArgs false
mutual
def clepsydraref03_Tells.l0 : Nat → Int → List Int → List Int → List Int → List Int → Int → Option (Bool)
 | 0, _, _, _, _, _, _ => none
 | k + 1, x1, x5, x6, x7, x8, x9 => (clepsydraref03_bit.f x8 0).bind fun t311 => (if t311 = 0 then ((clepsydraref03_parted.f x8 (([2] : List Int))).bind fun bt315 => (clepsydraref03_Tells.l0 k x1 x5 x6 x7 bt315.1 (wrap64 (x9 + 1)))) else ((clepsydraref03_Digits.f k (([x1] : List Int))).bind fun t324 => ((clepsydraref03_parted.f t324 x5).bind fun bt327 => (if (bt327.2.length : Int) = 0 then (some false) else ((clepsydraref03_power.f k bt327.2 x8 x5).bind fun t333 => ((clepsydraref03_cmp.f t333 x6).bind fun t336 => (if t336 = 0 then (some false) else (clepsydraref03_Tells.l1 k x5 x7 x9 t333 0))))))))
def clepsydraref03_Tells.l1 : Nat → List Int → List Int → Int → List Int → Int → Option (Bool)
 | 0, _, _, _, _, _ => none
 | k + 1, x5, x7, x9, x12, x13 => if x13 < x9 then ((clepsydraref03_cmp.f x12 x7).bind fun t337 => (if t337 = 0 then (some false) else ((clepsydraref03_times.f x12 x12 x5).bind fun t338 => (clepsydraref03_Tells.l1 k x5 x7 x9 t338 (wrap64 (x13 + 1)))))) else (some true)
end
def clepsydraref03_Tells.f (k : Nat) (l0 : List Int) (a1 : Int) : Option (Bool) := (clepsydraref03_Digits.f k l0).bind fun t293 => ((some (([1] : List Int) : List Int)).bind fun y296 => ((clepsydraref03_cmp.f t293 (([2] : List Int))).bind fun t302 => (if t302 ≤ 0 then ((clepsydraref03_cmp.f t293 (([2] : List Int))).bind fun t306 => (some (decide (t306 < 0)))) else ((clepsydraref03_bit.f t293 0).bind fun t307 => (if t307 = 0 then (some true) else ((clepsydraref03_minus.f k t293 y296).bind fun t308 => (clepsydraref03_Tells.l0 k a1 t293 y296 t308 t308 0)))))))
set_option maxHeartbeats 8000000 in
set_option maxRecDepth 100000 in
theorem clepsydraref03_Tells.calls (k : Nat) (A0 : Option Addr) (c0 : Nat) (l0 : List Int) (a1 : Int) (r : Bool) (w : World) (hr0 : Kd.C (Kd.int .u64) w A0 l0.length l0) (hc0 : l0.length ≤ c0) (h : clepsydraref03_Tells.f k l0 a1 = some r) :
  Calls Tryz.prog 138 #[.slice A0 l0.length c0, .int .u64 a1] w fun e w' => e = .returned (.bool r) ∧ Below w.heap.size w w' := by
 have HR0 := Aside0.mk hr0
 have HC0 := Aside0.mk hc0
 clear hr0 hc0
 have HB := Aside0.mk (Below.refl w.heap.size w)
 have H : ((clepsydraref03_Digits.f k l0).bind fun t293 => ((some (([1] : List Int) : List Int)).bind fun y296 => ((clepsydraref03_cmp.f t293 (([2] : List Int))).bind fun t302 => (if t302 ≤ 0 then ((clepsydraref03_cmp.f t293 (([2] : List Int))).bind fun t306 => (some (decide (t306 < 0)))) else ((clepsydraref03_bit.f t293 0).bind fun t307 => (if t307 = 0 then (some true) else ((clepsydraref03_minus.f k t293 y296).bind fun t308 => (clepsydraref03_Tells.l0 k a1 t293 y296 t308 t308 0)))))))) = some r := h
 clear h
 replace H := Option.bind_eq_some_iff.mp H
 obtain ⟨t293, A30, H⟩ := H
 replace H : ((some (([1] : List Int) : List Int)).bind fun y296 => ((clepsydraref03_cmp.f t293 (([2] : List Int))).bind fun t302 => (if t302 ≤ 0 then ((clepsydraref03_cmp.f t293 (([2] : List Int))).bind fun t306 => (some (decide (t306 < 0)))) else ((clepsydraref03_bit.f t293 0).bind fun t307 => (if t307 = 0 then (some true) else ((clepsydraref03_minus.f k t293 y296).bind fun t308 => (clepsydraref03_Tells.l0 k a1 t293 y296 t308 t308 0))))))) = some r := H
 have A3 := Aside0.mk A30
 clear A30
 obtain ⟨y296, hy296⟩ : ∃ y_ : List Int, y_ = (([1] : List Int)) := ⟨_, rfl⟩
 replace H : ((clepsydraref03_cmp.f t293 (([2] : List Int))).bind fun t302 => (if t302 ≤ 0 then ((clepsydraref03_cmp.f t293 (([2] : List Int))).bind fun t306 => (some (decide (t306 < 0)))) else ((clepsydraref03_bit.f t293 0).bind fun t307 => (if t307 = 0 then (some true) else ((clepsydraref03_minus.f k t293 y296).bind fun t308 => (clepsydraref03_Tells.l0 k a1 t293 y296 t308 t308 0)))))) = some r := by (have H2_ := (Option.bind_some _ _).symm.trans H; rw [hy296]; with_reducible exact H2_)
 have Ny296 := Aside0.mk hy296
 clear hy296
 obtain ⟨y299, hy299⟩ : ∃ y_ : List Int, y_ = (([2] : List Int)) := ⟨_, rfl⟩
 replace H : ((clepsydraref03_cmp.f t293 y299).bind fun t302 => (if t302 ≤ 0 then ((clepsydraref03_cmp.f t293 (([2] : List Int))).bind fun t306 => (some (decide (t306 < 0)))) else ((clepsydraref03_bit.f t293 0).bind fun t307 => (if t307 = 0 then (some true) else ((clepsydraref03_minus.f k t293 y296).bind fun t308 => (clepsydraref03_Tells.l0 k a1 t293 y296 t308 t308 0)))))) = some r := by (rw [hy299]; with_reducible exact H)
 have Ny299 := Aside0.mk hy299
 clear hy299
 replace H := Option.bind_eq_some_iff.mp H
 obtain ⟨t302, A40, H⟩ := H
 replace H : (if t302 ≤ 0 then ((clepsydraref03_cmp.f t293 (([2] : List Int))).bind fun t306 => (some (decide (t306 < 0)))) else ((clepsydraref03_bit.f t293 0).bind fun t307 => (if t307 = 0 then (some true) else ((clepsydraref03_minus.f k t293 y296).bind fun t308 => (clepsydraref03_Tells.l0 k a1 t293 y296 t308 t308 0))))) = some r := H
 have A4 := Aside0.mk A40
 clear A40
 by_cases c5 : t302 ≤ 0
 ·rw [if_pos c5] at H
  have c5b0 : decide (t302 ≤ 0) = true := decide_eq_true c5
  clear c5
  obtain ⟨y303, hy303⟩ : ∃ y_ : List Int, y_ = (([2] : List Int)) := ⟨_, rfl⟩
  replace H : ((clepsydraref03_cmp.f t293 y303).bind fun t306 => (some (decide (t306 < 0)))) = some r := by (rw [hy303]; with_reducible exact H)
  have Ny303 := Aside0.mk hy303
  clear hy303
  replace H := Option.bind_eq_some_iff.mp H
  obtain ⟨t306, A60, H⟩ := H
  replace H : (some (decide (t306 < 0))) = some r := H
  have A6 := Aside0.mk A60
  clear A60
  obtain rfl := Option.some.inj H
  simp only [Option.some.injEq, Prod.mk.injEq] at H
  obtain ⟨rfl⟩ := H
  go_enter Tryz.func138, Tryz.ntmps138
  go_wp2_with (first | ((with_reducible refine gate_callee (f := 137) rfl ?_); refine goesL_ (some 15) rfl rfl Tryz.func137 (by kernel_rfl) rfl #[.slice A0 l0.length c0] rfl (by (try simp only [List.map_toArray, List.map_cons, List.map_nil]); rfl) ?_; (with_reducible refine (clepsydraref03_Digits.calls k _ _ l0 t293 _ ?side1 ?side2 A3.out).mono ?_); (case side1 => exact HR0.out); (case side2 => exact HC0.out); rintro e w7 ⟨v294, rfl, ho0, hb⟩; refine ⟨_, rfl, ?_⟩; have HO295 := Aside0.mk (Kd.R_lower ho0 (below_size HB.out)); replace HB := Aside0.mk (below_step HB.out hb); clear hb ho0) | ((with_reducible refine gate_dst (N := 16) rfl ?_); refine Kd.R_lit (Kd.int .i64) _ 3 ?hg (N := 16) ?hd (xs := ([1] : List Int)) (inner := [.int .i64 1]) (ok := fun _ => True) (okp := fun _ => True) ?hr ?hp (fun _ hk => hk) trivial (Below.refl _ _) (Nat.le_refl _) (by simp) ?_; (case hd => rfl); (case hg => rfl); (case hr => (go_simp; done)); (case hp => exact (Reps.one (show Kd.M (Kd.int .i64) _ _ _ 1 [.int .i64 1] from rfl) (Reps.none _ _))); intro v297 w8 ho9 hb hg_ hnew_; clear hg_ hnew_; ((rw [← Ny296.out] at ho9)); have HO298 := Aside0.mk (Kd.R_lower (Kd.R_new' ho9 (Kd.R_lt HO295.out)) (below_size HB.out)); replace HO295 := Aside0.mk (Kd.R_elder' HO295.out (Kd.R_base ho9) hb); replace HB := Aside0.mk (below_step HB.out hb); clear hb ho9) | ((with_reducible refine gate_dst (N := 18) rfl ?_); refine Kd.R_lit (Kd.int .i64) _ 3 ?hg (N := 18) ?hd (xs := ([2] : List Int)) (inner := [.int .i64 2]) (ok := fun _ => True) (okp := fun _ => True) ?hr ?hp (fun _ hk => hk) trivial (Below.refl _ _) (Nat.le_refl _) (by simp) ?_; (case hd => rfl); (case hg => rfl); (case hr => (go_simp; done)); (case hp => exact (Reps.one (show Kd.M (Kd.int .i64) _ _ _ 2 [.int .i64 2] from rfl) (Reps.none _ _))); intro v300 w10 ho11 hb hg_ hnew_; clear hg_ hnew_; ((rw [← Ny299.out] at ho11)); have HO301 := Aside0.mk (Kd.R_lower (Kd.R_new' (Kd.R_new' ho11 (Kd.R_lt HO295.out)) (Kd.R_lt HO298.out)) (below_size HB.out)); replace HO295 := Aside0.mk (Kd.R_elder' HO295.out (Kd.R_base ho11) hb); replace HO298 := Aside0.mk (Kd.R_elder' HO298.out (Kd.R_base ho11) hb); replace HB := Aside0.mk (below_step HB.out hb); clear hb ho11; obtain ⟨Ao12, co12, eo12⟩ := Kd.R_slice HO295.out; subst eo12; obtain ⟨Ao13, co13, eo13⟩ := Kd.R_slice HO301.out; subst eo13) | ((with_reducible refine gate_callee (f := 136) rfl ?_); refine goesL_ (some 19) rfl rfl Tryz.func136 (by kernel_rfl) rfl #[.slice Ao12 t293.length co12, .slice Ao13 y299.length co13] rfl (by (try simp only [List.map_toArray, List.map_cons, List.map_nil]); rfl) ?_; (with_reducible refine (clepsydraref03_cmp.calls _ _ t293 _ _ y299 t302 _ ?side1 ?side2 ?side3 ?side4 A4.out).mono ?_); (case side1 => exact (Kd.R_reads' HO295.out).2.2); (case side2 => exact (Kd.R_reads' HO295.out).2.1); (case side3 => exact (Kd.R_reads' HO301.out).2.2); (case side4 => exact (Kd.R_reads' HO301.out).2.1); rintro e w' ⟨rfl, ⟨nd, rfl⟩⟩; refine ⟨_, rfl, ?_⟩) | ((with_reducible refine gate_dst (N := 22) rfl ?_); refine Kd.R_lit (Kd.int .i64) _ 3 ?hg (N := 22) ?hd (xs := ([2] : List Int)) (inner := [.int .i64 2]) (ok := fun _ => True) (okp := fun _ => True) ?hr ?hp (fun _ hk => hk) trivial (Below.refl _ _) (Nat.le_refl _) (by simp) ?_; (case hd => rfl); (case hg => rfl); (case hr => (go_simp; done)); (case hp => exact (Reps.one (show Kd.M (Kd.int .i64) _ _ _ 2 [.int .i64 2] from rfl) (Reps.none _ _))); intro v304 w14 ho15 hb hg_ hnew_; clear hg_ hnew_; ((rw [← Ny303.out] at ho15)); have HO305 := Aside0.mk (Kd.R_lower (Kd.R_new' (Kd.R_new' (Kd.R_new' ho15 (Kd.R_lt (by (with_reducible repeat ((apply Kd.R_drewN))); exact HO295.out))) (Kd.R_lt (by (with_reducible repeat ((apply Kd.R_drewN))); exact HO298.out))) (Kd.R_lt (by (with_reducible repeat ((apply Kd.R_drewN))); exact HO301.out))) (below_size (by repeat ((with_reducible first | exact HB.out | apply pw_below_drewN))))); replace HO295 := Aside0.mk (Kd.R_elder' (by (with_reducible repeat ((apply Kd.R_drewN))); exact HO295.out) (Kd.R_base ho15) hb); replace HO298 := Aside0.mk (Kd.R_elder' (by (with_reducible repeat ((apply Kd.R_drewN))); exact HO298.out) (Kd.R_base ho15) hb); replace HO301 := Aside0.mk (Kd.R_elder' (by (with_reducible repeat ((apply Kd.R_drewN))); exact HO301.out) (Kd.R_base ho15) hb); replace HB := Aside0.mk (below_step (by repeat ((with_reducible first | exact HB.out | apply pw_below_drewN))) hb); clear hb ho15; obtain ⟨Ao16, co16, eo16⟩ := Kd.R_slice HO305.out; subst eo16) | ((with_reducible refine gate_callee (f := 136) rfl ?_); refine goesL_ (some 23) rfl rfl Tryz.func136 (by kernel_rfl) rfl #[.slice Ao12 t293.length co12, .slice Ao16 y303.length co16] rfl (by (try simp only [List.map_toArray, List.map_cons, List.map_nil]); rfl) ?_; (with_reducible refine (clepsydraref03_cmp.calls _ _ t293 _ _ y303 t306 _ ?side1 ?side2 ?side3 ?side4 A6.out).mono ?_); (case side1 => exact (Kd.R_reads' HO295.out).2.2); (case side2 => exact (Kd.R_reads' HO295.out).2.1); (case side3 => exact (Kd.R_reads' HO305.out).2.2); (case side4 => exact (Kd.R_reads' HO305.out).2.1); rintro e w' ⟨rfl, ⟨nd, rfl⟩⟩; refine ⟨_, rfl, ?_⟩))
  go_ret
  exact ⟨by rfl, by repeat ((with_reducible first | exact HB.out | apply pw_below_drewN))⟩
 ·rw [if_neg c5] at H
  have c5b0 : decide (t302 ≤ 0) = false := decide_eq_false c5
  clear c5
  replace H := Option.bind_eq_some_iff.mp H
  obtain ⟨t307, A170, H⟩ := H
  replace H : (if t307 = 0 then (some true) else ((clepsydraref03_minus.f k t293 y296).bind fun t308 => (clepsydraref03_Tells.l0 k a1 t293 y296 t308 t308 0))) = some r := H
  have A17 := Aside0.mk A170
  clear A170
  by_cases c18 : t307 = 0
  ·rw [if_pos c18] at H
   have c18b0 : (t307 == 0) = true := beq_iff_eq.mpr c18
   have c18b1 : (t307 != 0) = false := bne_eq_false_iff_eq.mpr c18
   clear c18
   obtain rfl := Option.some.inj H
   simp only [Option.some.injEq, Prod.mk.injEq] at H
   obtain ⟨rfl⟩ := H
   go_enter Tryz.func138, Tryz.ntmps138
   go_wp2_with (first | ((with_reducible refine gate_callee (f := 137) rfl ?_); refine goesL_ (some 15) rfl rfl Tryz.func137 (by kernel_rfl) rfl #[.slice A0 l0.length c0] rfl (by (try simp only [List.map_toArray, List.map_cons, List.map_nil]); rfl) ?_; (with_reducible refine (clepsydraref03_Digits.calls k _ _ l0 t293 _ ?side1 ?side2 A3.out).mono ?_); (case side1 => exact HR0.out); (case side2 => exact HC0.out); rintro e w19 ⟨v294, rfl, ho0, hb⟩; refine ⟨_, rfl, ?_⟩; have HO295 := Aside0.mk (Kd.R_lower ho0 (below_size HB.out)); replace HB := Aside0.mk (below_step HB.out hb); clear hb ho0) | ((with_reducible refine gate_dst (N := 16) rfl ?_); refine Kd.R_lit (Kd.int .i64) _ 3 ?hg (N := 16) ?hd (xs := ([1] : List Int)) (inner := [.int .i64 1]) (ok := fun _ => True) (okp := fun _ => True) ?hr ?hp (fun _ hk => hk) trivial (Below.refl _ _) (Nat.le_refl _) (by simp) ?_; (case hd => rfl); (case hg => rfl); (case hr => (go_simp; done)); (case hp => exact (Reps.one (show Kd.M (Kd.int .i64) _ _ _ 1 [.int .i64 1] from rfl) (Reps.none _ _))); intro v297 w20 ho21 hb hg_ hnew_; clear hg_ hnew_; ((rw [← Ny296.out] at ho21)); have HO298 := Aside0.mk (Kd.R_lower (Kd.R_new' ho21 (Kd.R_lt HO295.out)) (below_size HB.out)); replace HO295 := Aside0.mk (Kd.R_elder' HO295.out (Kd.R_base ho21) hb); replace HB := Aside0.mk (below_step HB.out hb); clear hb ho21) | ((with_reducible refine gate_dst (N := 18) rfl ?_); refine Kd.R_lit (Kd.int .i64) _ 3 ?hg (N := 18) ?hd (xs := ([2] : List Int)) (inner := [.int .i64 2]) (ok := fun _ => True) (okp := fun _ => True) ?hr ?hp (fun _ hk => hk) trivial (Below.refl _ _) (Nat.le_refl _) (by simp) ?_; (case hd => rfl); (case hg => rfl); (case hr => (go_simp; done)); (case hp => exact (Reps.one (show Kd.M (Kd.int .i64) _ _ _ 2 [.int .i64 2] from rfl) (Reps.none _ _))); intro v300 w22 ho23 hb hg_ hnew_; clear hg_ hnew_; ((rw [← Ny299.out] at ho23)); have HO301 := Aside0.mk (Kd.R_lower (Kd.R_new' (Kd.R_new' ho23 (Kd.R_lt HO295.out)) (Kd.R_lt HO298.out)) (below_size HB.out)); replace HO295 := Aside0.mk (Kd.R_elder' HO295.out (Kd.R_base ho23) hb); replace HO298 := Aside0.mk (Kd.R_elder' HO298.out (Kd.R_base ho23) hb); replace HB := Aside0.mk (below_step HB.out hb); clear hb ho23; obtain ⟨Ao24, co24, eo24⟩ := Kd.R_slice HO295.out; subst eo24; obtain ⟨Ao25, co25, eo25⟩ := Kd.R_slice HO301.out; subst eo25) | ((with_reducible refine gate_callee (f := 136) rfl ?_); refine goesL_ (some 19) rfl rfl Tryz.func136 (by kernel_rfl) rfl #[.slice Ao24 t293.length co24, .slice Ao25 y299.length co25] rfl (by (try simp only [List.map_toArray, List.map_cons, List.map_nil]); rfl) ?_; (with_reducible refine (clepsydraref03_cmp.calls _ _ t293 _ _ y299 t302 _ ?side1 ?side2 ?side3 ?side4 A4.out).mono ?_); (case side1 => exact (Kd.R_reads' HO295.out).2.2); (case side2 => exact (Kd.R_reads' HO295.out).2.1); (case side3 => exact (Kd.R_reads' HO301.out).2.2); (case side4 => exact (Kd.R_reads' HO301.out).2.1); rintro e w' ⟨rfl, ⟨nd, rfl⟩⟩; refine ⟨_, rfl, ?_⟩) | ((with_reducible refine gate_callee (f := 180) rfl ?_); refine goesL_ (some 26) rfl rfl Tryz.func180 (by kernel_rfl) rfl #[.slice Ao24 t293.length co24, .int .i64 0] rfl (by (try simp only [List.map_toArray, List.map_cons, List.map_nil]); rfl) ?_; (with_reducible refine (clepsydraref03_bit.calls _ _ t293 0 t307 _ ?side1 ?side2 A17.out).mono ?_); (case side1 => exact (Kd.R_reads' HO295.out).2.2); (case side2 => exact (Kd.R_reads' HO295.out).2.1); rintro e w' ⟨rfl, ⟨nd, rfl⟩⟩; refine ⟨_, rfl, ?_⟩))
   go_ret
   exact ⟨by rfl, by repeat ((with_reducible first | exact HB.out | apply pw_below_drewN))⟩
  ·rw [if_neg c18] at H
   have c18b0 : (t307 == 0) = false := beq_eq_false_iff_ne.mpr c18
   have c18b1 : (t307 != 0) = true := bne_iff_ne.mpr c18
   replace H := Option.bind_eq_some_iff.mp H
   obtain ⟨t308, A260, H⟩ := H
   replace H : (clepsydraref03_Tells.l0 k a1 t293 y296 t308 t308 0) = some r := H
   have A26 := Aside0.mk A260
   clear A260
   have H' := Aside0.mk H
   clear H
   go_enter Tryz.func138, Tryz.ntmps138
   go_wp2_with (first | ((with_reducible refine gate_callee (f := 137) rfl ?_); refine goesL_ (some 15) rfl rfl Tryz.func137 (by kernel_rfl) rfl #[.slice A0 l0.length c0] rfl (by (try simp only [List.map_toArray, List.map_cons, List.map_nil]); rfl) ?_; (with_reducible refine (clepsydraref03_Digits.calls k _ _ l0 t293 _ ?side1 ?side2 A3.out).mono ?_); (case side1 => exact HR0.out); (case side2 => exact HC0.out); rintro e w27 ⟨v294, rfl, ho0, hb⟩; refine ⟨_, rfl, ?_⟩; have HO295 := Aside0.mk (Kd.R_lower ho0 (below_size HB.out)); replace HB := Aside0.mk (below_step HB.out hb); clear hb ho0) | ((with_reducible refine gate_dst (N := 16) rfl ?_); refine Kd.R_lit (Kd.int .i64) _ 3 ?hg (N := 16) ?hd (xs := ([1] : List Int)) (inner := [.int .i64 1]) (ok := fun _ => True) (okp := fun _ => True) ?hr ?hp (fun _ hk => hk) trivial (Below.refl _ _) (Nat.le_refl _) (by simp) ?_; (case hd => rfl); (case hg => rfl); (case hr => (go_simp; done)); (case hp => exact (Reps.one (show Kd.M (Kd.int .i64) _ _ _ 1 [.int .i64 1] from rfl) (Reps.none _ _))); intro v297 w28 ho29 hb hg_ hnew_; clear hg_ hnew_; ((rw [← Ny296.out] at ho29)); have HO298 := Aside0.mk (Kd.R_lower (Kd.R_new' ho29 (Kd.R_lt HO295.out)) (below_size HB.out)); replace HO295 := Aside0.mk (Kd.R_elder' HO295.out (Kd.R_base ho29) hb); replace HB := Aside0.mk (below_step HB.out hb); clear hb ho29) | ((with_reducible refine gate_dst (N := 18) rfl ?_); refine Kd.R_lit (Kd.int .i64) _ 3 ?hg (N := 18) ?hd (xs := ([2] : List Int)) (inner := [.int .i64 2]) (ok := fun _ => True) (okp := fun _ => True) ?hr ?hp (fun _ hk => hk) trivial (Below.refl _ _) (Nat.le_refl _) (by simp) ?_; (case hd => rfl); (case hg => rfl); (case hr => (go_simp; done)); (case hp => exact (Reps.one (show Kd.M (Kd.int .i64) _ _ _ 2 [.int .i64 2] from rfl) (Reps.none _ _))); intro v300 w30 ho31 hb hg_ hnew_; clear hg_ hnew_; ((rw [← Ny299.out] at ho31)); have HO301 := Aside0.mk (Kd.R_lower (Kd.R_new' (Kd.R_new' ho31 (Kd.R_lt HO295.out)) (Kd.R_lt HO298.out)) (below_size HB.out)); replace HO295 := Aside0.mk (Kd.R_elder' HO295.out (Kd.R_base ho31) hb); replace HO298 := Aside0.mk (Kd.R_elder' HO298.out (Kd.R_base ho31) hb); replace HB := Aside0.mk (below_step HB.out hb); clear hb ho31; obtain ⟨Ao32, co32, eo32⟩ := Kd.R_slice HO295.out; subst eo32; obtain ⟨Ao33, co33, eo33⟩ := Kd.R_slice HO301.out; subst eo33) | ((with_reducible refine gate_callee (f := 136) rfl ?_); refine goesL_ (some 19) rfl rfl Tryz.func136 (by kernel_rfl) rfl #[.slice Ao32 t293.length co32, .slice Ao33 y299.length co33] rfl (by (try simp only [List.map_toArray, List.map_cons, List.map_nil]); rfl) ?_; (with_reducible refine (clepsydraref03_cmp.calls _ _ t293 _ _ y299 t302 _ ?side1 ?side2 ?side3 ?side4 A4.out).mono ?_); (case side1 => exact (Kd.R_reads' HO295.out).2.2); (case side2 => exact (Kd.R_reads' HO295.out).2.1); (case side3 => exact (Kd.R_reads' HO301.out).2.2); (case side4 => exact (Kd.R_reads' HO301.out).2.1); rintro e w' ⟨rfl, ⟨nd, rfl⟩⟩; refine ⟨_, rfl, ?_⟩) | ((with_reducible refine gate_callee (f := 180) rfl ?_); refine goesL_ (some 26) rfl rfl Tryz.func180 (by kernel_rfl) rfl #[.slice Ao32 t293.length co32, .int .i64 0] rfl (by (try simp only [List.map_toArray, List.map_cons, List.map_nil]); rfl) ?_; (with_reducible refine (clepsydraref03_bit.calls _ _ t293 0 t307 _ ?side1 ?side2 A17.out).mono ?_); (case side1 => exact (Kd.R_reads' HO295.out).2.2); (case side2 => exact (Kd.R_reads' HO295.out).2.1); rintro e w' ⟨rfl, ⟨nd, rfl⟩⟩; refine ⟨_, rfl, ?_⟩; obtain ⟨Ao34, co34, eo34⟩ := Kd.R_slice HO298.out; subst eo34) | ((with_reducible refine gate_callee (f := 140) rfl ?_); refine goesL_ (some 30) rfl rfl Tryz.func140 (by kernel_rfl) rfl #[.slice Ao32 t293.length co32, .slice Ao34 y296.length co34] rfl (by (try simp only [List.map_toArray, List.map_cons, List.map_nil]); rfl) ?_; (with_reducible refine (clepsydraref03_minus.calls k _ _ t293 _ _ y296 t308 _ ?side1 ?side2 ?side3 ?side4 A26.out).mono ?_); (case side1 => exact (Kd.R_reads' HO295.out).2.2); (case side2 => exact (Kd.R_reads' HO295.out).2.1); (case side3 => exact (Kd.R_reads' HO298.out).2.2); (case side4 => exact (Kd.R_reads' HO298.out).2.1); rintro e w35 ⟨v309, rfl, ho0, hb⟩; refine ⟨_, rfl, ?_⟩; have HO310 := Aside0.mk (Kd.R_lower (Kd.R_new' (Kd.R_new' (Kd.R_new' ho0 (Kd.R_lt (by (with_reducible repeat ((apply Kd.R_drewN))); exact HO295.out))) (Kd.R_lt (by (with_reducible repeat ((apply Kd.R_drewN))); exact HO298.out))) (Kd.R_lt (by (with_reducible repeat ((apply Kd.R_drewN))); exact HO301.out))) (below_size (by repeat ((with_reducible first | exact HB.out | apply pw_below_drewN))))); replace HO295 := Aside0.mk (Kd.R_elder' (by (with_reducible repeat ((apply Kd.R_drewN))); exact HO295.out) (Kd.R_base ho0) hb); replace HO298 := Aside0.mk (Kd.R_elder' (by (with_reducible repeat ((apply Kd.R_drewN))); exact HO298.out) (Kd.R_base ho0) hb); replace HO301 := Aside0.mk (Kd.R_elder' (by (with_reducible repeat ((apply Kd.R_drewN))); exact HO301.out) (Kd.R_base ho0) hb); replace HB := Aside0.mk (below_step (by repeat ((with_reducible first | exact HB.out | apply pw_below_drewN))) hb); clear hb ho0))
   go_loopg [8, 9] k (fun kq v8 v9 w' => ∃ (x8_1 : List Int) (x9_1 : Int), v9 = .int .i64 x9_1 ∧ Aside0 (clepsydraref03_Tells.l0 kq a1 t293 y296 t308 x8_1 x9_1 = some r) ∧ Aside0 (kq ≤ k) ∧ Aside0 (Kd.R (Kd.int .i64) 3 w' w.heap.size (fun k_ => some k_ ≠ ((.slice Ao34 y296.length co34) : Value).ownBlock ∧ some k_ ≠ (v309 : Value).ownBlock ∧ some k_ ≠ (v8 : Value).ownBlock) (.slice Ao32 t293.length co32) t293) ∧ Aside0 (Kd.R (Kd.int .i64) 3 w' w.heap.size (fun k_ => some k_ ≠ ((.slice Ao32 t293.length co32) : Value).ownBlock ∧ some k_ ≠ (v309 : Value).ownBlock ∧ some k_ ≠ (v8 : Value).ownBlock) (.slice Ao34 y296.length co34) y296) ∧ Aside0 (Kd.R (Kd.int .i64) 3 w' w.heap.size (fun k_ => some k_ ≠ ((.slice Ao32 t293.length co32) : Value).ownBlock ∧ some k_ ≠ ((.slice Ao34 y296.length co34) : Value).ownBlock) v309 t308) ∧ Aside0 (Kd.R (Kd.int .i64) 3 w' w.heap.size (fun k_ => some k_ ≠ ((.slice Ao32 t293.length co32) : Value).ownBlock ∧ some k_ ≠ ((.slice Ao34 y296.length co34) : Value).ownBlock) v8 x8_1) ∧ Aside0 (Below w.heap.size w w'))
   case atStart => exact ⟨(t308), (0), (by rfl), H', ⟨Nat.le_refl _⟩, ⟨by exact Kd.R_mono HO295.out (fun _ hk => by (exact ⟨hk.1.1.2, ⟨hk.2, hk.2⟩⟩))⟩, ⟨by exact Kd.R_mono HO298.out (fun _ hk => by (exact ⟨hk.1.1.2, ⟨hk.2, hk.2⟩⟩))⟩, ⟨by exact Kd.R_mono HO310.out (fun _ hk => by (exact ⟨hk.1.1.2, hk.1.2⟩))⟩, ⟨by exact Kd.R_mono HO310.out (fun _ hk => by (exact ⟨hk.1.1.2, hk.1.2⟩))⟩, ⟨HB.out⟩⟩
   case round =>
    clear H'
    try clear c1
    try clear p2
    try clear c5
    try clear c5b0
    try clear c13
    try clear c14
    try clear c18
    try clear c18b0
    try clear c18b1
    obtain ⟨x8_1, x9_1, rfl, HA, HK1, HO_5, HO_6, HO_7, HO_8, HB⟩ := hrel
    cases gk with
    | zero => exact absurd HA.out (by simp [clepsydraref03_Tells.l0])
    | succ k1 =>
     have H := HA.out
     clear HA
     simp only [clepsydraref03_Tells.l0] at H
     replace H := Option.bind_eq_some_iff.mp H
     obtain ⟨t311, A360, H⟩ := H
     replace H : (if t311 = 0 then ((clepsydraref03_parted.f x8_1 (([2] : List Int))).bind fun bt315 => (clepsydraref03_Tells.l0 k1 a1 t293 y296 t308 bt315.1 (wrap64 (x9_1 + 1)))) else ((clepsydraref03_Digits.f k1 (([a1] : List Int))).bind fun t324 => ((clepsydraref03_parted.f t324 t293).bind fun bt327 => (if (bt327.2.length : Int) = 0 then (some false) else ((clepsydraref03_power.f k1 bt327.2 x8_1 t293).bind fun t333 => ((clepsydraref03_cmp.f t333 y296).bind fun t336 => (if t336 = 0 then (some false) else (clepsydraref03_Tells.l1 k1 t293 t308 x9_1 t333 0)))))))) = some r := H
     have A36 := Aside0.mk A360
     clear A360
     by_cases c37 : t311 = 0
     ·rw [if_pos c37] at H
      have c37b0 : (t311 == 0) = true := beq_iff_eq.mpr c37
      have c37b1 : (t311 != 0) = false := bne_eq_false_iff_eq.mpr c37
      clear c37
      obtain ⟨y312, hy312⟩ : ∃ y_ : List Int, y_ = (([2] : List Int)) := ⟨_, rfl⟩
      replace H : ((clepsydraref03_parted.f x8_1 y312).bind fun bt315 => (clepsydraref03_Tells.l0 k1 a1 t293 y296 t308 bt315.1 (wrap64 (x9_1 + 1)))) = some r := by (rw [hy312]; with_reducible exact H)
      have Ny312 := Aside0.mk hy312
      clear hy312
      replace H := Option.bind_eq_some_iff.mp H
      obtain ⟨⟨t315, t316⟩, A380, H⟩ := H
      replace H : (clepsydraref03_Tells.l0 k1 a1 t293 y296 t308 t315 (wrap64 (x9_1 + 1))) = some r := H
      have A38 := Aside0.mk A380
      clear A380
      have H' := Aside0.mk H
      clear H
      obtain ⟨Ao39, co39, eo39⟩ := Kd.R_slice HO_8.out
      subst eo39
      go_wp2_with (first | ((with_reducible refine gate_callee (f := 180) rfl ?_); refine goesL_ (some 33) rfl rfl Tryz.func180 (by kernel_rfl) rfl #[.slice Ao39 x8_1.length co39, .int .i64 0] rfl (by (try simp only [List.map_toArray, List.map_cons, List.map_nil]); rfl) ?_; (with_reducible refine (clepsydraref03_bit.calls _ _ x8_1 0 t311 _ ?side1 ?side2 A36.out).mono ?_); (case side1 => exact (Kd.R_reads' HO_8.out).2.2); (case side2 => exact (Kd.R_reads' HO_8.out).2.1); rintro e w' ⟨rfl, ⟨nd, rfl⟩⟩; refine ⟨_, rfl, ?_⟩) | ((with_reducible refine gate_dst (N := 37) rfl ?_); refine Kd.R_lit (Kd.int .i64) _ 3 ?hg (N := 37) ?hd (xs := ([2] : List Int)) (inner := [.int .i64 2]) (ok := fun _ => True) (okp := fun _ => True) ?hr ?hp (fun _ hk => hk) trivial (Below.refl _ _) (Nat.le_refl _) (by simp) ?_; (case hd => rfl); (case hg => rfl); (case hr => (go_simp; done)); (case hp => exact (Reps.one (show Kd.M (Kd.int .i64) _ _ _ 2 [.int .i64 2] from rfl) (Reps.none _ _))); intro v313 w40 ho41 hb hg_ hnew_; clear hg_ hnew_; ((rw [← Ny312.out] at ho41)); have HO314 := Aside0.mk (Kd.R_lower (Kd.R_new' (Kd.R_new' (Kd.R_new' (Kd.R_new' ho41 (Kd.R_lt (by (with_reducible repeat ((apply Kd.R_drewN))); exact HO_5.out))) (Kd.R_lt (by (with_reducible repeat ((apply Kd.R_drewN))); exact HO_6.out))) (Kd.R_lt (by (with_reducible repeat ((apply Kd.R_drewN))); exact HO_7.out))) (Kd.R_lt (by (with_reducible repeat ((apply Kd.R_drewN))); exact HO_8.out))) (below_size (by repeat ((with_reducible first | exact HB.out | apply pw_below_drewN))))); replace HO_5 := Aside0.mk (Kd.R_elder' (by (with_reducible repeat ((apply Kd.R_drewN))); exact HO_5.out) (Kd.R_base ho41) hb); replace HO_6 := Aside0.mk (Kd.R_elder' (by (with_reducible repeat ((apply Kd.R_drewN))); exact HO_6.out) (Kd.R_base ho41) hb); replace HO_7 := Aside0.mk (Kd.R_elder' (by (with_reducible repeat ((apply Kd.R_drewN))); exact HO_7.out) (Kd.R_base ho41) hb); replace HO_8 := Aside0.mk (Kd.R_elder' (by (with_reducible repeat ((apply Kd.R_drewN))); exact HO_8.out) (Kd.R_base ho41) hb); replace HB := Aside0.mk (below_step (by repeat ((with_reducible first | exact HB.out | apply pw_below_drewN))) hb); clear hb ho41; obtain ⟨Ao42, co42, eo42⟩ := Kd.R_slice HO314.out; subst eo42) | ((with_reducible refine gate_callee (f := 139) rfl ?_); refine goesL_ (some 38) rfl rfl Tryz.func139 (by kernel_rfl) rfl #[.slice Ao39 x8_1.length co39, .slice Ao42 y312.length co42] rfl (by (try simp only [List.map_toArray, List.map_cons, List.map_nil]); rfl) ?_; (with_reducible refine (clepsydraref03_parted.calls _ _ x8_1 _ _ y312 t315 t316 _ ?side1 ?side2 ?side3 ?side4 A38.out).mono ?_); (case side1 => exact (Kd.R_reads' HO_8.out).2.2); (case side2 => exact (Kd.R_reads' HO_8.out).2.1); (case side3 => exact (Kd.R_reads' HO314.out).2.2); (case side4 => exact (Kd.R_reads' HO314.out).2.1); rintro e w43 ⟨v317, v319, rfl, ho0, ho1, hb⟩; refine ⟨_, rfl, ?_⟩; have HO318 := Aside0.mk (Kd.R_lower (Kd.R_new' (Kd.R_new' (Kd.R_new' (Kd.R_new' (Kd.R_new' ho0 (Kd.R_lt HO_5.out)) (Kd.R_lt HO_6.out)) (Kd.R_lt HO_7.out)) (Kd.R_lt HO_8.out)) (Kd.R_lt HO314.out)) (below_size HB.out)); have HO320 := Aside0.mk (Kd.R_lower (Kd.R_new' (Kd.R_new' (Kd.R_new' (Kd.R_new' (Kd.R_new' ho1 (Kd.R_lt HO_5.out)) (Kd.R_lt HO_6.out)) (Kd.R_lt HO_7.out)) (Kd.R_lt HO_8.out)) (Kd.R_lt HO314.out)) (below_size HB.out)); replace HO_5 := Aside0.mk (Kd.R_mono (Kd.R_told (Kd.R_told (Kd.R_old HO_5.out hb) (Kd.R_base ho0)) (Kd.R_base ho1)) (fun _ h_ => h_.1)); replace HO_6 := Aside0.mk (Kd.R_mono (Kd.R_told (Kd.R_told (Kd.R_old HO_6.out hb) (Kd.R_base ho0)) (Kd.R_base ho1)) (fun _ h_ => h_.1)); replace HO_7 := Aside0.mk (Kd.R_mono (Kd.R_told (Kd.R_told (Kd.R_old HO_7.out hb) (Kd.R_base ho0)) (Kd.R_base ho1)) (fun _ h_ => h_.1)); replace HO_8 := Aside0.mk (Kd.R_mono (Kd.R_told (Kd.R_told (Kd.R_old HO_8.out hb) (Kd.R_base ho0)) (Kd.R_base ho1)) (fun _ h_ => h_.1)); replace HO314 := Aside0.mk (Kd.R_mono (Kd.R_told (Kd.R_told (Kd.R_old HO314.out hb) (Kd.R_base ho0)) (Kd.R_base ho1)) (fun _ h_ => h_.1)); replace HB := Aside0.mk (below_step HB.out hb); clear hb ho0 ho1))
      go_roundg k1
      case measure => have := HK1.out; omega
      case rel => exact ⟨(t315), (wrap64 (x9_1 + 1)), (by rfl), H', ⟨by have := HK1.out; omega⟩, ⟨by exact Kd.R_mono HO_5.out (fun _ hk => by (exact ⟨hk.1.1.1.1, ⟨hk.1.1.1.2.1, hk.1.2⟩⟩))⟩, ⟨by exact Kd.R_mono HO_6.out (fun _ hk => by (exact ⟨hk.1.1.1.1, ⟨hk.1.1.1.2.1, hk.1.2⟩⟩))⟩, ⟨by exact Kd.R_mono HO_7.out (fun _ hk => by grind)⟩, ⟨by exact Kd.R_mono HO318.out (fun _ hk => by grind)⟩, ⟨HB.out⟩⟩
     ·rw [if_neg c37] at H
      have c37b0 : (t311 == 0) = false := beq_eq_false_iff_ne.mpr c37
      have c37b1 : (t311 != 0) = true := bne_iff_ne.mpr c37
      obtain ⟨y321, hy321⟩ : ∃ y_ : List Int, y_ = (([a1] : List Int)) := ⟨_, rfl⟩
      replace H : ((clepsydraref03_Digits.f k1 y321).bind fun t324 => ((clepsydraref03_parted.f t324 t293).bind fun bt327 => (if (bt327.2.length : Int) = 0 then (some false) else ((clepsydraref03_power.f k1 bt327.2 x8_1 t293).bind fun t333 => ((clepsydraref03_cmp.f t333 y296).bind fun t336 => (if t336 = 0 then (some false) else (clepsydraref03_Tells.l1 k1 t293 t308 x9_1 t333 0))))))) = some r := by (rw [hy321]; with_reducible exact H)
      have Ny321 := Aside0.mk hy321
      clear hy321
      replace H := Option.bind_eq_some_iff.mp H
      obtain ⟨t324, A440, H⟩ := H
      replace H : ((clepsydraref03_parted.f t324 t293).bind fun bt327 => (if (bt327.2.length : Int) = 0 then (some false) else ((clepsydraref03_power.f k1 bt327.2 x8_1 t293).bind fun t333 => ((clepsydraref03_cmp.f t333 y296).bind fun t336 => (if t336 = 0 then (some false) else (clepsydraref03_Tells.l1 k1 t293 t308 x9_1 t333 0)))))) = some r := H
      have A44 := Aside0.mk A440
      clear A440
      replace H := Option.bind_eq_some_iff.mp H
      obtain ⟨⟨t327, t328⟩, A450, H⟩ := H
      replace H : (if (t328.length : Int) = 0 then (some false) else ((clepsydraref03_power.f k1 t328 x8_1 t293).bind fun t333 => ((clepsydraref03_cmp.f t333 y296).bind fun t336 => (if t336 = 0 then (some false) else (clepsydraref03_Tells.l1 k1 t293 t308 x9_1 t333 0))))) = some r := H
      have A45 := Aside0.mk A450
      clear A450
      by_cases c46 : (t328.length : Int) = 0
      ·rw [if_pos c46] at H
       have c46b0 : ((t328.length : Int) == 0) = true := beq_iff_eq.mpr c46
       have c46b1 : ((t328.length : Int) != 0) = false := bne_eq_false_iff_eq.mpr c46
       clear c46
       obtain rfl := Option.some.inj H
       simp only [Option.some.injEq, Prod.mk.injEq] at H
       obtain ⟨rfl⟩ := H
       obtain ⟨Ao47, co47, eo47⟩ := Kd.R_slice HO_8.out
       subst eo47
       go_wp2_with (first | ((with_reducible refine gate_callee (f := 180) rfl ?_); refine goesL_ (some 33) rfl rfl Tryz.func180 (by kernel_rfl) rfl #[.slice Ao47 x8_1.length co47, .int .i64 0] rfl (by (try simp only [List.map_toArray, List.map_cons, List.map_nil]); rfl) ?_; (with_reducible refine (clepsydraref03_bit.calls _ _ x8_1 0 t311 _ ?side1 ?side2 A36.out).mono ?_); (case side1 => exact (Kd.R_reads' HO_8.out).2.2); (case side2 => exact (Kd.R_reads' HO_8.out).2.1); rintro e w' ⟨rfl, ⟨nd, rfl⟩⟩; refine ⟨_, rfl, ?_⟩) | ((with_reducible refine gate_dst (N := 45) rfl ?_); refine Kd.R_lit (Kd.int .u64) _ 23 ?hg (N := 45) ?hd (xs := ([a1] : List Int)) (inner := [.int .u64 a1]) (ok := fun _ => True) (okp := fun _ => True) ?hr ?hp (fun _ hk => hk) trivial (Below.refl _ _) (Nat.le_refl _) (by simp) ?_; (case hd => rfl); (case hg => rfl); (case hr => (go_simp; done)); (case hp => exact (Reps.one (show Kd.M (Kd.int .u64) _ _ _ a1 [.int .u64 a1] from rfl) (Reps.none _ _))); intro v322 w48 ho49 hb hg_ hnew_; clear hg_ hnew_; ((rw [← Ny321.out] at ho49)); replace HO_5 := Aside0.mk (Kd.R_below (by (with_reducible repeat ((apply Kd.R_drewN))); exact HO_5.out) hb); replace HO_6 := Aside0.mk (Kd.R_below (by (with_reducible repeat ((apply Kd.R_drewN))); exact HO_6.out) hb); replace HO_7 := Aside0.mk (Kd.R_below (by (with_reducible repeat ((apply Kd.R_drewN))); exact HO_7.out) hb); replace HO_8 := Aside0.mk (Kd.R_below (by (with_reducible repeat ((apply Kd.R_drewN))); exact HO_8.out) hb); have HO323 := Aside0.mk (Kd.R_lower ho49 (below_size (by repeat ((with_reducible first | exact HB.out | apply pw_below_drewN))))); replace HB := Aside0.mk (below_step (by repeat ((with_reducible first | exact HB.out | apply pw_below_drewN))) hb); clear hb ho49; obtain ⟨Ao50, co50, eo50⟩ := Kd.R_slice HO323.out; subst eo50) | ((with_reducible refine gate_callee (f := 137) rfl ?_); refine goesL_ (some 46) rfl rfl Tryz.func137 (by kernel_rfl) rfl #[.slice Ao50 y321.length co50] rfl (by (try simp only [List.map_toArray, List.map_cons, List.map_nil]); rfl) ?_; (with_reducible refine (clepsydraref03_Digits.calls k1 _ _ y321 t324 _ ?side1 ?side2 A44.out).mono ?_); (case side1 => exact (Kd.R_reads' HO323.out).2.2); (case side2 => exact (Kd.R_reads' HO323.out).2.1); rintro e w51 ⟨v325, rfl, ho0, hb⟩; refine ⟨_, rfl, ?_⟩; replace HO323 := Aside0.mk (Kd.R_below HO323.out hb); have HO326 := Aside0.mk (Kd.R_lower (Kd.R_new' (Kd.R_new' (Kd.R_new' (Kd.R_new' ho0 (Kd.R_lt HO_5.out)) (Kd.R_lt HO_6.out)) (Kd.R_lt HO_7.out)) (Kd.R_lt HO_8.out)) (below_size HB.out)); replace HO_5 := Aside0.mk (Kd.R_elder' HO_5.out (Kd.R_base ho0) hb); replace HO_6 := Aside0.mk (Kd.R_elder' HO_6.out (Kd.R_base ho0) hb); replace HO_7 := Aside0.mk (Kd.R_elder' HO_7.out (Kd.R_base ho0) hb); replace HO_8 := Aside0.mk (Kd.R_elder' HO_8.out (Kd.R_base ho0) hb); replace HB := Aside0.mk (below_step HB.out hb); clear hb ho0; obtain ⟨Ao52, co52, eo52⟩ := Kd.R_slice HO326.out; subst eo52) | ((with_reducible refine gate_callee (f := 139) rfl ?_); refine goesL_ (some 48) rfl rfl Tryz.func139 (by kernel_rfl) rfl #[.slice Ao52 t324.length co52, .slice Ao32 t293.length co32] rfl (by (try simp only [List.map_toArray, List.map_cons, List.map_nil]); rfl) ?_; (with_reducible refine (clepsydraref03_parted.calls _ _ t324 _ _ t293 t327 t328 _ ?side1 ?side2 ?side3 ?side4 A45.out).mono ?_); (case side1 => exact (Kd.R_reads' HO326.out).2.2); (case side2 => exact (Kd.R_reads' HO326.out).2.1); (case side3 => exact (Kd.R_reads' HO_5.out).2.2); (case side4 => exact (Kd.R_reads' HO_5.out).2.1); rintro e w53 ⟨v329, v331, rfl, ho0, ho1, hb⟩; refine ⟨_, rfl, ?_⟩; replace HO323 := Aside0.mk (Kd.R_below HO323.out hb); have HO330 := Aside0.mk (Kd.R_lower (Kd.R_new' (Kd.R_new' (Kd.R_new' (Kd.R_new' (Kd.R_new' ho0 (Kd.R_lt HO_5.out)) (Kd.R_lt HO_6.out)) (Kd.R_lt HO_7.out)) (Kd.R_lt HO_8.out)) (Kd.R_lt HO326.out)) (below_size HB.out)); have HO332 := Aside0.mk (Kd.R_lower (Kd.R_new' (Kd.R_new' (Kd.R_new' (Kd.R_new' (Kd.R_new' ho1 (Kd.R_lt HO_5.out)) (Kd.R_lt HO_6.out)) (Kd.R_lt HO_7.out)) (Kd.R_lt HO_8.out)) (Kd.R_lt HO326.out)) (below_size HB.out)); replace HO_5 := Aside0.mk (Kd.R_mono (Kd.R_told (Kd.R_told (Kd.R_old HO_5.out hb) (Kd.R_base ho0)) (Kd.R_base ho1)) (fun _ h_ => h_.1)); replace HO_6 := Aside0.mk (Kd.R_mono (Kd.R_told (Kd.R_told (Kd.R_old HO_6.out hb) (Kd.R_base ho0)) (Kd.R_base ho1)) (fun _ h_ => h_.1)); replace HO_7 := Aside0.mk (Kd.R_mono (Kd.R_told (Kd.R_told (Kd.R_old HO_7.out hb) (Kd.R_base ho0)) (Kd.R_base ho1)) (fun _ h_ => h_.1)); replace HO_8 := Aside0.mk (Kd.R_mono (Kd.R_told (Kd.R_told (Kd.R_old HO_8.out hb) (Kd.R_base ho0)) (Kd.R_base ho1)) (fun _ h_ => h_.1)); replace HO326 := Aside0.mk (Kd.R_mono (Kd.R_told (Kd.R_told (Kd.R_old HO326.out hb) (Kd.R_base ho0)) (Kd.R_base ho1)) (fun _ h_ => h_.1)); replace HB := Aside0.mk (below_step HB.out hb); clear hb ho0 ho1; obtain ⟨Ao54, co54, eo54⟩ := Kd.R_slice HO332.out; subst eo54))
       go_ret
       exact ⟨by rfl, HB.out⟩
      ·rw [if_neg c46] at H
       have c46b0 : ((t328.length : Int) == 0) = false := beq_eq_false_iff_ne.mpr c46
       have c46b1 : ((t328.length : Int) != 0) = true := bne_iff_ne.mpr c46
       have c46b2 : ¬ (t328 = []) := fun h_ => c46 (by rw [h_]; rfl)
       replace H := Option.bind_eq_some_iff.mp H
       obtain ⟨t333, A550, H⟩ := H
       replace H : ((clepsydraref03_cmp.f t333 y296).bind fun t336 => (if t336 = 0 then (some false) else (clepsydraref03_Tells.l1 k1 t293 t308 x9_1 t333 0))) = some r := H
       have A55 := Aside0.mk A550
       clear A550
       replace H := Option.bind_eq_some_iff.mp H
       obtain ⟨t336, A560, H⟩ := H
       replace H : (if t336 = 0 then (some false) else (clepsydraref03_Tells.l1 k1 t293 t308 x9_1 t333 0)) = some r := H
       have A56 := Aside0.mk A560
       clear A560
       by_cases c57 : t336 = 0
       ·rw [if_pos c57] at H
        have c57b0 : (t336 == 0) = true := beq_iff_eq.mpr c57
        have c57b1 : (t336 != 0) = false := bne_eq_false_iff_eq.mpr c57
        clear c57
        obtain rfl := Option.some.inj H
        simp only [Option.some.injEq, Prod.mk.injEq] at H
        obtain ⟨rfl⟩ := H
        obtain ⟨Ao58, co58, eo58⟩ := Kd.R_slice HO_8.out
        subst eo58
        go_wp2_with (first | ((with_reducible refine gate_callee (f := 180) rfl ?_); refine goesL_ (some 33) rfl rfl Tryz.func180 (by kernel_rfl) rfl #[.slice Ao58 x8_1.length co58, .int .i64 0] rfl (by (try simp only [List.map_toArray, List.map_cons, List.map_nil]); rfl) ?_; (with_reducible refine (clepsydraref03_bit.calls _ _ x8_1 0 t311 _ ?side1 ?side2 A36.out).mono ?_); (case side1 => exact (Kd.R_reads' HO_8.out).2.2); (case side2 => exact (Kd.R_reads' HO_8.out).2.1); rintro e w' ⟨rfl, ⟨nd, rfl⟩⟩; refine ⟨_, rfl, ?_⟩) | ((with_reducible refine gate_dst (N := 45) rfl ?_); refine Kd.R_lit (Kd.int .u64) _ 23 ?hg (N := 45) ?hd (xs := ([a1] : List Int)) (inner := [.int .u64 a1]) (ok := fun _ => True) (okp := fun _ => True) ?hr ?hp (fun _ hk => hk) trivial (Below.refl _ _) (Nat.le_refl _) (by simp) ?_; (case hd => rfl); (case hg => rfl); (case hr => (go_simp; done)); (case hp => exact (Reps.one (show Kd.M (Kd.int .u64) _ _ _ a1 [.int .u64 a1] from rfl) (Reps.none _ _))); intro v322 w59 ho60 hb hg_ hnew_; clear hg_ hnew_; ((rw [← Ny321.out] at ho60)); replace HO_5 := Aside0.mk (Kd.R_below (by (with_reducible repeat ((apply Kd.R_drewN))); exact HO_5.out) hb); replace HO_6 := Aside0.mk (Kd.R_below (by (with_reducible repeat ((apply Kd.R_drewN))); exact HO_6.out) hb); replace HO_7 := Aside0.mk (Kd.R_below (by (with_reducible repeat ((apply Kd.R_drewN))); exact HO_7.out) hb); replace HO_8 := Aside0.mk (Kd.R_below (by (with_reducible repeat ((apply Kd.R_drewN))); exact HO_8.out) hb); have HO323 := Aside0.mk (Kd.R_lower ho60 (below_size (by repeat ((with_reducible first | exact HB.out | apply pw_below_drewN))))); replace HB := Aside0.mk (below_step (by repeat ((with_reducible first | exact HB.out | apply pw_below_drewN))) hb); clear hb ho60; obtain ⟨Ao61, co61, eo61⟩ := Kd.R_slice HO323.out; subst eo61) | ((with_reducible refine gate_callee (f := 137) rfl ?_); refine goesL_ (some 46) rfl rfl Tryz.func137 (by kernel_rfl) rfl #[.slice Ao61 y321.length co61] rfl (by (try simp only [List.map_toArray, List.map_cons, List.map_nil]); rfl) ?_; (with_reducible refine (clepsydraref03_Digits.calls k1 _ _ y321 t324 _ ?side1 ?side2 A44.out).mono ?_); (case side1 => exact (Kd.R_reads' HO323.out).2.2); (case side2 => exact (Kd.R_reads' HO323.out).2.1); rintro e w62 ⟨v325, rfl, ho0, hb⟩; refine ⟨_, rfl, ?_⟩; replace HO323 := Aside0.mk (Kd.R_below HO323.out hb); have HO326 := Aside0.mk (Kd.R_lower (Kd.R_new' (Kd.R_new' (Kd.R_new' (Kd.R_new' ho0 (Kd.R_lt HO_5.out)) (Kd.R_lt HO_6.out)) (Kd.R_lt HO_7.out)) (Kd.R_lt HO_8.out)) (below_size HB.out)); replace HO_5 := Aside0.mk (Kd.R_elder' HO_5.out (Kd.R_base ho0) hb); replace HO_6 := Aside0.mk (Kd.R_elder' HO_6.out (Kd.R_base ho0) hb); replace HO_7 := Aside0.mk (Kd.R_elder' HO_7.out (Kd.R_base ho0) hb); replace HO_8 := Aside0.mk (Kd.R_elder' HO_8.out (Kd.R_base ho0) hb); replace HB := Aside0.mk (below_step HB.out hb); clear hb ho0; obtain ⟨Ao63, co63, eo63⟩ := Kd.R_slice HO326.out; subst eo63) | ((with_reducible refine gate_callee (f := 139) rfl ?_); refine goesL_ (some 48) rfl rfl Tryz.func139 (by kernel_rfl) rfl #[.slice Ao63 t324.length co63, .slice Ao32 t293.length co32] rfl (by (try simp only [List.map_toArray, List.map_cons, List.map_nil]); rfl) ?_; (with_reducible refine (clepsydraref03_parted.calls _ _ t324 _ _ t293 t327 t328 _ ?side1 ?side2 ?side3 ?side4 A45.out).mono ?_); (case side1 => exact (Kd.R_reads' HO326.out).2.2); (case side2 => exact (Kd.R_reads' HO326.out).2.1); (case side3 => exact (Kd.R_reads' HO_5.out).2.2); (case side4 => exact (Kd.R_reads' HO_5.out).2.1); rintro e w64 ⟨v329, v331, rfl, ho0, ho1, hb⟩; refine ⟨_, rfl, ?_⟩; replace HO323 := Aside0.mk (Kd.R_below HO323.out hb); have HO330 := Aside0.mk (Kd.R_lower (Kd.R_new' (Kd.R_new' (Kd.R_new' (Kd.R_new' (Kd.R_new' ho0 (Kd.R_lt HO_5.out)) (Kd.R_lt HO_6.out)) (Kd.R_lt HO_7.out)) (Kd.R_lt HO_8.out)) (Kd.R_lt HO326.out)) (below_size HB.out)); have HO332 := Aside0.mk (Kd.R_lower (Kd.R_new' (Kd.R_new' (Kd.R_new' (Kd.R_new' (Kd.R_new' ho1 (Kd.R_lt HO_5.out)) (Kd.R_lt HO_6.out)) (Kd.R_lt HO_7.out)) (Kd.R_lt HO_8.out)) (Kd.R_lt HO326.out)) (below_size HB.out)); replace HO_5 := Aside0.mk (Kd.R_mono (Kd.R_told (Kd.R_told (Kd.R_old HO_5.out hb) (Kd.R_base ho0)) (Kd.R_base ho1)) (fun _ h_ => h_.1)); replace HO_6 := Aside0.mk (Kd.R_mono (Kd.R_told (Kd.R_told (Kd.R_old HO_6.out hb) (Kd.R_base ho0)) (Kd.R_base ho1)) (fun _ h_ => h_.1)); replace HO_7 := Aside0.mk (Kd.R_mono (Kd.R_told (Kd.R_told (Kd.R_old HO_7.out hb) (Kd.R_base ho0)) (Kd.R_base ho1)) (fun _ h_ => h_.1)); replace HO_8 := Aside0.mk (Kd.R_mono (Kd.R_told (Kd.R_told (Kd.R_old HO_8.out hb) (Kd.R_base ho0)) (Kd.R_base ho1)) (fun _ h_ => h_.1)); replace HO326 := Aside0.mk (Kd.R_mono (Kd.R_told (Kd.R_told (Kd.R_old HO326.out hb) (Kd.R_base ho0)) (Kd.R_base ho1)) (fun _ h_ => h_.1)); replace HB := Aside0.mk (below_step HB.out hb); clear hb ho0 ho1; obtain ⟨Ao65, co65, eo65⟩ := Kd.R_slice HO332.out; subst eo65) | ((with_reducible refine gate_callee (f := 161) rfl ?_); refine goesL_ (some 57) rfl rfl Tryz.func161 (by kernel_rfl) rfl #[.slice Ao65 t328.length co65, .slice Ao58 x8_1.length co58, .slice Ao32 t293.length co32] rfl (by (try simp only [List.map_toArray, List.map_cons, List.map_nil]); rfl) ?_; (with_reducible refine (clepsydraref03_power.calls k1 _ _ t328 _ _ x8_1 _ _ t293 t333 _ ?side1 ?side2 ?side3 ?side4 ?side5 ?side6 A55.out).mono ?_); (case side1 => exact (Kd.R_reads' HO332.out).2.2); (case side2 => exact (Kd.R_reads' HO332.out).2.1); (case side3 => exact (Kd.R_reads' HO_8.out).2.2); (case side4 => exact (Kd.R_reads' HO_8.out).2.1); (case side5 => exact (Kd.R_reads' HO_5.out).2.2); (case side6 => exact (Kd.R_reads' HO_5.out).2.1); rintro e w66 ⟨v334, rfl, ho0, hb⟩; refine ⟨_, rfl, ?_⟩; replace HO323 := Aside0.mk (Kd.R_below HO323.out hb); have HO335 := Aside0.mk (Kd.R_lower (Kd.R_new' (Kd.R_new' (Kd.R_new' (Kd.R_new' (Kd.R_new' (Kd.R_new' (Kd.R_new' ho0 (Kd.R_lt HO_5.out)) (Kd.R_lt HO_6.out)) (Kd.R_lt HO_7.out)) (Kd.R_lt HO_8.out)) (Kd.R_lt HO326.out)) (Kd.R_lt HO330.out)) (Kd.R_lt HO332.out)) (below_size HB.out)); replace HO_5 := Aside0.mk (Kd.R_elder' HO_5.out (Kd.R_base ho0) hb); replace HO_6 := Aside0.mk (Kd.R_elder' HO_6.out (Kd.R_base ho0) hb); replace HO_7 := Aside0.mk (Kd.R_elder' HO_7.out (Kd.R_base ho0) hb); replace HO_8 := Aside0.mk (Kd.R_elder' HO_8.out (Kd.R_base ho0) hb); replace HO326 := Aside0.mk (Kd.R_elder' HO326.out (Kd.R_base ho0) hb); replace HO330 := Aside0.mk (Kd.R_elder' HO330.out (Kd.R_base ho0) hb); replace HO332 := Aside0.mk (Kd.R_elder' HO332.out (Kd.R_base ho0) hb); replace HB := Aside0.mk (below_step HB.out hb); clear hb ho0; obtain ⟨Ao67, co67, eo67⟩ := Kd.R_slice HO335.out; subst eo67) | ((with_reducible refine gate_callee (f := 136) rfl ?_); refine goesL_ (some 60) rfl rfl Tryz.func136 (by kernel_rfl) rfl #[.slice Ao67 t333.length co67, .slice Ao34 y296.length co34] rfl (by (try simp only [List.map_toArray, List.map_cons, List.map_nil]); rfl) ?_; (with_reducible refine (clepsydraref03_cmp.calls _ _ t333 _ _ y296 t336 _ ?side1 ?side2 ?side3 ?side4 A56.out).mono ?_); (case side1 => exact (Kd.R_reads' HO335.out).2.2); (case side2 => exact (Kd.R_reads' HO335.out).2.1); (case side3 => exact (Kd.R_reads' HO_6.out).2.2); (case side4 => exact (Kd.R_reads' HO_6.out).2.1); rintro e w' ⟨rfl, ⟨nd, rfl⟩⟩; refine ⟨_, rfl, ?_⟩))
        go_ret
        exact ⟨by rfl, by repeat ((with_reducible first | exact HB.out | apply pw_below_drewN))⟩
       ·rw [if_neg c57] at H
        have c57b0 : (t336 == 0) = false := beq_eq_false_iff_ne.mpr c57
        have c57b1 : (t336 != 0) = true := bne_iff_ne.mpr c57
        have H' := Aside0.mk H
        clear H
        obtain ⟨Ao68, co68, eo68⟩ := Kd.R_slice HO_8.out
        subst eo68
        go_wp2_with (first | ((with_reducible refine gate_callee (f := 180) rfl ?_); refine goesL_ (some 33) rfl rfl Tryz.func180 (by kernel_rfl) rfl #[.slice Ao68 x8_1.length co68, .int .i64 0] rfl (by (try simp only [List.map_toArray, List.map_cons, List.map_nil]); rfl) ?_; (with_reducible refine (clepsydraref03_bit.calls _ _ x8_1 0 t311 _ ?side1 ?side2 A36.out).mono ?_); (case side1 => exact (Kd.R_reads' HO_8.out).2.2); (case side2 => exact (Kd.R_reads' HO_8.out).2.1); rintro e w' ⟨rfl, ⟨nd, rfl⟩⟩; refine ⟨_, rfl, ?_⟩) | ((with_reducible refine gate_dst (N := 45) rfl ?_); refine Kd.R_lit (Kd.int .u64) _ 23 ?hg (N := 45) ?hd (xs := ([a1] : List Int)) (inner := [.int .u64 a1]) (ok := fun _ => True) (okp := fun _ => True) ?hr ?hp (fun _ hk => hk) trivial (Below.refl _ _) (Nat.le_refl _) (by simp) ?_; (case hd => rfl); (case hg => rfl); (case hr => (go_simp; done)); (case hp => exact (Reps.one (show Kd.M (Kd.int .u64) _ _ _ a1 [.int .u64 a1] from rfl) (Reps.none _ _))); intro v322 w69 ho70 hb hg_ hnew_; clear hg_ hnew_; ((rw [← Ny321.out] at ho70)); replace HO_5 := Aside0.mk (Kd.R_below (by (with_reducible repeat ((apply Kd.R_drewN))); exact HO_5.out) hb); replace HO_6 := Aside0.mk (Kd.R_below (by (with_reducible repeat ((apply Kd.R_drewN))); exact HO_6.out) hb); replace HO_7 := Aside0.mk (Kd.R_below (by (with_reducible repeat ((apply Kd.R_drewN))); exact HO_7.out) hb); replace HO_8 := Aside0.mk (Kd.R_below (by (with_reducible repeat ((apply Kd.R_drewN))); exact HO_8.out) hb); have HO323 := Aside0.mk (Kd.R_lower ho70 (below_size (by repeat ((with_reducible first | exact HB.out | apply pw_below_drewN))))); replace HB := Aside0.mk (below_step (by repeat ((with_reducible first | exact HB.out | apply pw_below_drewN))) hb); clear hb ho70; obtain ⟨Ao71, co71, eo71⟩ := Kd.R_slice HO323.out; subst eo71) | ((with_reducible refine gate_callee (f := 137) rfl ?_); refine goesL_ (some 46) rfl rfl Tryz.func137 (by kernel_rfl) rfl #[.slice Ao71 y321.length co71] rfl (by (try simp only [List.map_toArray, List.map_cons, List.map_nil]); rfl) ?_; (with_reducible refine (clepsydraref03_Digits.calls k1 _ _ y321 t324 _ ?side1 ?side2 A44.out).mono ?_); (case side1 => exact (Kd.R_reads' HO323.out).2.2); (case side2 => exact (Kd.R_reads' HO323.out).2.1); rintro e w72 ⟨v325, rfl, ho0, hb⟩; refine ⟨_, rfl, ?_⟩; replace HO323 := Aside0.mk (Kd.R_below HO323.out hb); have HO326 := Aside0.mk (Kd.R_lower (Kd.R_new' (Kd.R_new' (Kd.R_new' (Kd.R_new' ho0 (Kd.R_lt HO_5.out)) (Kd.R_lt HO_6.out)) (Kd.R_lt HO_7.out)) (Kd.R_lt HO_8.out)) (below_size HB.out)); replace HO_5 := Aside0.mk (Kd.R_elder' HO_5.out (Kd.R_base ho0) hb); replace HO_6 := Aside0.mk (Kd.R_elder' HO_6.out (Kd.R_base ho0) hb); replace HO_7 := Aside0.mk (Kd.R_elder' HO_7.out (Kd.R_base ho0) hb); replace HO_8 := Aside0.mk (Kd.R_elder' HO_8.out (Kd.R_base ho0) hb); replace HB := Aside0.mk (below_step HB.out hb); clear hb ho0; obtain ⟨Ao73, co73, eo73⟩ := Kd.R_slice HO326.out; subst eo73) | ((with_reducible refine gate_callee (f := 139) rfl ?_); refine goesL_ (some 48) rfl rfl Tryz.func139 (by kernel_rfl) rfl #[.slice Ao73 t324.length co73, .slice Ao32 t293.length co32] rfl (by (try simp only [List.map_toArray, List.map_cons, List.map_nil]); rfl) ?_; (with_reducible refine (clepsydraref03_parted.calls _ _ t324 _ _ t293 t327 t328 _ ?side1 ?side2 ?side3 ?side4 A45.out).mono ?_); (case side1 => exact (Kd.R_reads' HO326.out).2.2); (case side2 => exact (Kd.R_reads' HO326.out).2.1); (case side3 => exact (Kd.R_reads' HO_5.out).2.2); (case side4 => exact (Kd.R_reads' HO_5.out).2.1); rintro e w74 ⟨v329, v331, rfl, ho0, ho1, hb⟩; refine ⟨_, rfl, ?_⟩; replace HO323 := Aside0.mk (Kd.R_below HO323.out hb); have HO330 := Aside0.mk (Kd.R_lower (Kd.R_new' (Kd.R_new' (Kd.R_new' (Kd.R_new' (Kd.R_new' ho0 (Kd.R_lt HO_5.out)) (Kd.R_lt HO_6.out)) (Kd.R_lt HO_7.out)) (Kd.R_lt HO_8.out)) (Kd.R_lt HO326.out)) (below_size HB.out)); have HO332 := Aside0.mk (Kd.R_lower (Kd.R_new' (Kd.R_new' (Kd.R_new' (Kd.R_new' (Kd.R_new' ho1 (Kd.R_lt HO_5.out)) (Kd.R_lt HO_6.out)) (Kd.R_lt HO_7.out)) (Kd.R_lt HO_8.out)) (Kd.R_lt HO326.out)) (below_size HB.out)); replace HO_5 := Aside0.mk (Kd.R_mono (Kd.R_told (Kd.R_told (Kd.R_old HO_5.out hb) (Kd.R_base ho0)) (Kd.R_base ho1)) (fun _ h_ => h_.1)); replace HO_6 := Aside0.mk (Kd.R_mono (Kd.R_told (Kd.R_told (Kd.R_old HO_6.out hb) (Kd.R_base ho0)) (Kd.R_base ho1)) (fun _ h_ => h_.1)); replace HO_7 := Aside0.mk (Kd.R_mono (Kd.R_told (Kd.R_told (Kd.R_old HO_7.out hb) (Kd.R_base ho0)) (Kd.R_base ho1)) (fun _ h_ => h_.1)); replace HO_8 := Aside0.mk (Kd.R_mono (Kd.R_told (Kd.R_told (Kd.R_old HO_8.out hb) (Kd.R_base ho0)) (Kd.R_base ho1)) (fun _ h_ => h_.1)); replace HO326 := Aside0.mk (Kd.R_mono (Kd.R_told (Kd.R_told (Kd.R_old HO326.out hb) (Kd.R_base ho0)) (Kd.R_base ho1)) (fun _ h_ => h_.1)); replace HB := Aside0.mk (below_step HB.out hb); clear hb ho0 ho1; obtain ⟨Ao75, co75, eo75⟩ := Kd.R_slice HO332.out; subst eo75) | ((with_reducible refine gate_callee (f := 161) rfl ?_); refine goesL_ (some 57) rfl rfl Tryz.func161 (by kernel_rfl) rfl #[.slice Ao75 t328.length co75, .slice Ao68 x8_1.length co68, .slice Ao32 t293.length co32] rfl (by (try simp only [List.map_toArray, List.map_cons, List.map_nil]); rfl) ?_; (with_reducible refine (clepsydraref03_power.calls k1 _ _ t328 _ _ x8_1 _ _ t293 t333 _ ?side1 ?side2 ?side3 ?side4 ?side5 ?side6 A55.out).mono ?_); (case side1 => exact (Kd.R_reads' HO332.out).2.2); (case side2 => exact (Kd.R_reads' HO332.out).2.1); (case side3 => exact (Kd.R_reads' HO_8.out).2.2); (case side4 => exact (Kd.R_reads' HO_8.out).2.1); (case side5 => exact (Kd.R_reads' HO_5.out).2.2); (case side6 => exact (Kd.R_reads' HO_5.out).2.1); rintro e w76 ⟨v334, rfl, ho0, hb⟩; refine ⟨_, rfl, ?_⟩; replace HO323 := Aside0.mk (Kd.R_below HO323.out hb); have HO335 := Aside0.mk (Kd.R_lower (Kd.R_new' (Kd.R_new' (Kd.R_new' (Kd.R_new' (Kd.R_new' (Kd.R_new' (Kd.R_new' ho0 (Kd.R_lt HO_5.out)) (Kd.R_lt HO_6.out)) (Kd.R_lt HO_7.out)) (Kd.R_lt HO_8.out)) (Kd.R_lt HO326.out)) (Kd.R_lt HO330.out)) (Kd.R_lt HO332.out)) (below_size HB.out)); replace HO_5 := Aside0.mk (Kd.R_elder' HO_5.out (Kd.R_base ho0) hb); replace HO_6 := Aside0.mk (Kd.R_elder' HO_6.out (Kd.R_base ho0) hb); replace HO_7 := Aside0.mk (Kd.R_elder' HO_7.out (Kd.R_base ho0) hb); replace HO_8 := Aside0.mk (Kd.R_elder' HO_8.out (Kd.R_base ho0) hb); replace HO326 := Aside0.mk (Kd.R_elder' HO326.out (Kd.R_base ho0) hb); replace HO330 := Aside0.mk (Kd.R_elder' HO330.out (Kd.R_base ho0) hb); replace HO332 := Aside0.mk (Kd.R_elder' HO332.out (Kd.R_base ho0) hb); replace HB := Aside0.mk (below_step HB.out hb); clear hb ho0; obtain ⟨Ao77, co77, eo77⟩ := Kd.R_slice HO335.out; subst eo77) | ((with_reducible refine gate_callee (f := 136) rfl ?_); refine goesL_ (some 60) rfl rfl Tryz.func136 (by kernel_rfl) rfl #[.slice Ao77 t333.length co77, .slice Ao34 y296.length co34] rfl (by (try simp only [List.map_toArray, List.map_cons, List.map_nil]); rfl) ?_; (with_reducible refine (clepsydraref03_cmp.calls _ _ t333 _ _ y296 t336 _ ?side1 ?side2 ?side3 ?side4 A56.out).mono ?_); (case side1 => exact (Kd.R_reads' HO335.out).2.2); (case side2 => exact (Kd.R_reads' HO335.out).2.1); (case side3 => exact (Kd.R_reads' HO_6.out).2.2); (case side4 => exact (Kd.R_reads' HO_6.out).2.1); rintro e w' ⟨rfl, ⟨nd, rfl⟩⟩; refine ⟨_, rfl, ?_⟩))
        go_loopg [12, 13] k1 (fun kq v12 v13 w' => ∃ (x12_2 : List Int) (x13_2 : Int), v13 = .int .i64 x13_2 ∧ Aside0 (clepsydraref03_Tells.l1 kq t293 t308 x9_1 x12_2 x13_2 = some r) ∧ Aside0 (kq ≤ k1) ∧ Aside0 (Kd.R (Kd.int .i64) 3 w' w.heap.size (fun k_ => some k_ ≠ (v309 : Value).ownBlock ∧ some k_ ≠ (v12 : Value).ownBlock) (.slice Ao32 t293.length co32) t293) ∧ Aside0 (Kd.R (Kd.int .i64) 3 w' w.heap.size (fun k_ => some k_ ≠ ((.slice Ao32 t293.length co32) : Value).ownBlock ∧ some k_ ≠ (v12 : Value).ownBlock) v309 t308) ∧ Aside0 (Kd.R (Kd.int .i64) 3 w' w.heap.size (fun k_ => some k_ ≠ ((.slice Ao32 t293.length co32) : Value).ownBlock ∧ some k_ ≠ (v309 : Value).ownBlock) v12 x12_2) ∧ Aside0 (Below w.heap.size w w'))
        case atStart => exact ⟨(t333), (0), (by rfl), H', ⟨Nat.le_refl _⟩, ⟨by (with_reducible repeat ((apply Kd.R_drewN))); exact Kd.R_mono HO_5.out (fun _ hk => by (exact ⟨hk.1.1.1.1.2.1, hk.2⟩))⟩, ⟨by (with_reducible repeat ((apply Kd.R_drewN))); exact Kd.R_mono HO_7.out (fun _ hk => by (exact ⟨hk.1.1.1.1.1, hk.2⟩))⟩, ⟨by (with_reducible repeat ((apply Kd.R_drewN))); exact Kd.R_mono HO335.out (fun _ hk => by (exact ⟨hk.1.1.1.1.1.1.2, hk.1.1.1.1.2⟩))⟩, ⟨by repeat ((with_reducible first | exact HB.out | apply pw_below_drewN))⟩⟩
        case round =>
         clear H'
         try clear c1
         try clear p2
         try clear c3
         try clear c4
         try clear c5
         try clear c5b0
         try clear p6
         try clear c13
         try clear c14
         try clear c16
         try clear c18
         try clear c18b0
         try clear c18b1
         try clear c37
         try clear c37b0
         try clear c37b1
         try clear c46
         try clear c46b0
         try clear c46b1
         try clear c46b2
         try clear c57
         try clear c57b0
         try clear c57b1
         try clear p64
         try clear p2
         obtain ⟨x12_2, x13_2, rfl, HA, HK2, HO_5, HO_7, HO_12, HB⟩ := hrel
         cases gk with
         | zero => exact absurd HA.out (by simp [clepsydraref03_Tells.l1])
         | succ k2 =>
          have H := HA.out
          clear HA
          simp only [clepsydraref03_Tells.l1] at H
          by_cases c78 : x13_2 < x9_1
          ·rw [if_pos c78] at H
           have c78b0 : decide (x13_2 < x9_1) = true := decide_eq_true c78
           clear c78
           replace H := Option.bind_eq_some_iff.mp H
           obtain ⟨t337, A790, H⟩ := H
           replace H : (if t337 = 0 then (some false) else ((clepsydraref03_times.f x12_2 x12_2 t293).bind fun t338 => (clepsydraref03_Tells.l1 k2 t293 t308 x9_1 t338 (wrap64 (x13_2 + 1))))) = some r := H
           have A79 := Aside0.mk A790
           clear A790
           by_cases c80 : t337 = 0
           ·rw [if_pos c80] at H
            have c80b0 : (t337 == 0) = true := beq_iff_eq.mpr c80
            have c80b1 : (t337 != 0) = false := bne_eq_false_iff_eq.mpr c80
            clear c80
            obtain rfl := Option.some.inj H
            simp only [Option.some.injEq, Prod.mk.injEq] at H
            obtain ⟨rfl⟩ := H
            obtain ⟨Ao81, co81, eo81⟩ := Kd.R_slice HO_12.out
            subst eo81
            obtain ⟨Ao82, co82, eo82⟩ := Kd.R_slice HO_7.out
            subst eo82
            go_wp2_with ((((with_reducible refine gate_callee (f := 136) rfl ?_); refine goesL_ (some 69) rfl rfl Tryz.func136 (by kernel_rfl) rfl #[.slice Ao81 x12_2.length co81, .slice Ao82 t308.length co82] rfl (by (try simp only [List.map_toArray, List.map_cons, List.map_nil]); rfl) ?_; (with_reducible refine (clepsydraref03_cmp.calls _ _ x12_2 _ _ t308 t337 _ ?side1 ?side2 ?side3 ?side4 A79.out).mono ?_); (case side1 => exact (Kd.R_reads' HO_12.out).2.2); (case side2 => exact (Kd.R_reads' HO_12.out).2.1); (case side3 => exact (Kd.R_reads' HO_7.out).2.2); (case side4 => exact (Kd.R_reads' HO_7.out).2.1); rintro e w' ⟨rfl, ⟨nd, rfl⟩⟩; refine ⟨_, rfl, ?_⟩)))
            go_ret
            exact ⟨by rfl, by repeat ((with_reducible first | exact HB.out | apply pw_below_drewN))⟩
           ·rw [if_neg c80] at H
            have c80b0 : (t337 == 0) = false := beq_eq_false_iff_ne.mpr c80
            have c80b1 : (t337 != 0) = true := bne_iff_ne.mpr c80
            replace H := Option.bind_eq_some_iff.mp H
            obtain ⟨t338, A830, H⟩ := H
            replace H : (clepsydraref03_Tells.l1 k2 t293 t308 x9_1 t338 (wrap64 (x13_2 + 1))) = some r := H
            have A83 := Aside0.mk A830
            clear A830
            have H' := Aside0.mk H
            clear H
            obtain ⟨Ao84, co84, eo84⟩ := Kd.R_slice HO_12.out
            subst eo84
            obtain ⟨Ao85, co85, eo85⟩ := Kd.R_slice HO_7.out
            subst eo85
            go_wp2_with (first | ((with_reducible refine gate_callee (f := 136) rfl ?_); refine goesL_ (some 69) rfl rfl Tryz.func136 (by kernel_rfl) rfl #[.slice Ao84 x12_2.length co84, .slice Ao85 t308.length co85] rfl (by (try simp only [List.map_toArray, List.map_cons, List.map_nil]); rfl) ?_; (with_reducible refine (clepsydraref03_cmp.calls _ _ x12_2 _ _ t308 t337 _ ?side1 ?side2 ?side3 ?side4 A79.out).mono ?_); (case side1 => exact (Kd.R_reads' HO_12.out).2.2); (case side2 => exact (Kd.R_reads' HO_12.out).2.1); (case side3 => exact (Kd.R_reads' HO_7.out).2.2); (case side4 => exact (Kd.R_reads' HO_7.out).2.1); rintro e w' ⟨rfl, ⟨nd, rfl⟩⟩; refine ⟨_, rfl, ?_⟩) | ((with_reducible refine gate_callee (f := 142) rfl ?_); refine goesL_ (some 74) rfl rfl Tryz.func142 (by kernel_rfl) rfl #[.slice Ao84 x12_2.length co84, .slice Ao84 x12_2.length co84, .slice Ao32 t293.length co32] rfl (by (try simp only [List.map_toArray, List.map_cons, List.map_nil]); rfl) ?_; (with_reducible refine (clepsydraref03_times.calls _ _ x12_2 _ _ x12_2 _ _ t293 t338 _ ?side1 ?side2 ?side3 ?side4 ?side5 ?side6 A83.out).mono ?_); (case side1 => exact (Kd.R_reads' HO_12.out).2.2); (case side2 => exact (Kd.R_reads' HO_12.out).2.1); (case side3 => exact (Kd.R_reads' HO_12.out).2.2); (case side4 => exact (Kd.R_reads' HO_12.out).2.1); (case side5 => exact (Kd.R_reads' HO_5.out).2.2); (case side6 => exact (Kd.R_reads' HO_5.out).2.1); rintro e w86 ⟨v339, rfl, ho0, hb⟩; refine ⟨_, rfl, ?_⟩; have HO340 := Aside0.mk (Kd.R_lower (Kd.R_new' (Kd.R_new' (Kd.R_new' ho0 (Kd.R_lt (by (with_reducible repeat ((apply Kd.R_drewN))); exact HO_5.out))) (Kd.R_lt (by (with_reducible repeat ((apply Kd.R_drewN))); exact HO_7.out))) (Kd.R_lt (by (with_reducible repeat ((apply Kd.R_drewN))); exact HO_12.out))) (below_size (by repeat ((with_reducible first | exact HB.out | apply pw_below_drewN))))); replace HO_5 := Aside0.mk (Kd.R_elder' (by (with_reducible repeat ((apply Kd.R_drewN))); exact HO_5.out) (Kd.R_base ho0) hb); replace HO_7 := Aside0.mk (Kd.R_elder' (by (with_reducible repeat ((apply Kd.R_drewN))); exact HO_7.out) (Kd.R_base ho0) hb); replace HO_12 := Aside0.mk (Kd.R_elder' (by (with_reducible repeat ((apply Kd.R_drewN))); exact HO_12.out) (Kd.R_base ho0) hb); replace HB := Aside0.mk (below_step (by repeat ((with_reducible first | exact HB.out | apply pw_below_drewN))) hb); clear hb ho0))
            go_roundg k2
            case measure => have := HK1.out; have := HK2.out; omega
            case rel => exact ⟨(t338), (wrap64 (x13_2 + 1)), (by rfl), H', ⟨by have := HK1.out; have := HK2.out; omega⟩, ⟨by exact Kd.R_mono HO_5.out (fun _ hk => by (exact ⟨hk.1.1, hk.2⟩))⟩, ⟨by exact Kd.R_mono HO_7.out (fun _ hk => by (exact ⟨hk.1.1, hk.2⟩))⟩, ⟨by exact Kd.R_mono HO340.out (fun _ hk => by (exact ⟨hk.1.1.2, hk.1.2⟩))⟩, ⟨HB.out⟩⟩
          ·rw [if_neg c78] at H
           have c78b0 : decide (x13_2 < x9_1) = false := decide_eq_false c78
           clear c78
           obtain rfl := Option.some.inj H
           simp only [Option.some.injEq, Prod.mk.injEq] at H
           obtain ⟨rfl⟩ := H
           go_wp2
           go_ret
           exact ⟨by rfl, HB.out⟩
def clepsydraref03_Prime.l0 : Nat → List Int → List Int → Int → Option (Bool)
 | 0, _, _, _ => none
 | k + 1, x0, x1, x5 => if x5 < (x1.length : Int) then (if 0 ≤ x5 then ((clepsydraref03_Tells.f k x0 (rd x1 x5)).bind fun t349 => (if t349 = true then (some false) else (clepsydraref03_Prime.l0 k x0 x1 (wrap64 (x5 + 1))))) else (none)) else (some true)
def clepsydraref03_Prime.f (k : Nat) (l0 : List Int) (l1 : List Int) : Option (Bool) := (clepsydraref03_Digits.f k l0).bind fun t341 => ((clepsydraref03_cmp.f t341 (([2] : List Int))).bind fun t347 => (if t347 < 0 then (some false) else (clepsydraref03_Prime.l0 k l0 l1 0)))
set_option maxHeartbeats 8000000 in
set_option maxRecDepth 100000 in
theorem clepsydraref03_Prime.calls (k : Nat) (A0 : Option Addr) (c0 : Nat) (l0 : List Int) (A1 : Option Addr) (c1 : Nat) (l1 : List Int) (r : Bool) (w : World) (hr0 : Kd.C (Kd.int .u64) w A0 l0.length l0) (hc0 : l0.length ≤ c0) (hr1 : Kd.C (Kd.int .u64) w A1 l1.length l1) (hc1 : l1.length ≤ c1) (h : clepsydraref03_Prime.f k l0 l1 = some r) :
  Calls Tryz.prog 67 #[.slice A0 l0.length c0, .slice A1 l1.length c1] w fun e w' => e = .returned (.bool r) ∧ Below w.heap.size w w' := by
 have HR0 := Aside0.mk hr0
 have HC0 := Aside0.mk hc0
 clear hr0 hc0
 have HR1 := Aside0.mk hr1
 have HC1 := Aside0.mk hc1
 clear hr1 hc1
 have HB := Aside0.mk (Below.refl w.heap.size w)
 have H : ((clepsydraref03_Digits.f k l0).bind fun t341 => ((clepsydraref03_cmp.f t341 (([2] : List Int))).bind fun t347 => (if t347 < 0 then (some false) else (clepsydraref03_Prime.l0 k l0 l1 0)))) = some r := h
 clear h
 replace H := Option.bind_eq_some_iff.mp H
 obtain ⟨t341, A30, H⟩ := H
 replace H : ((clepsydraref03_cmp.f t341 (([2] : List Int))).bind fun t347 => (if t347 < 0 then (some false) else (clepsydraref03_Prime.l0 k l0 l1 0))) = some r := H
 have A3 := Aside0.mk A30
 clear A30
 obtain ⟨y344, hy344⟩ : ∃ y_ : List Int, y_ = (([2] : List Int)) := ⟨_, rfl⟩
 replace H : ((clepsydraref03_cmp.f t341 y344).bind fun t347 => (if t347 < 0 then (some false) else (clepsydraref03_Prime.l0 k l0 l1 0))) = some r := by (rw [hy344]; with_reducible exact H)
 have Ny344 := Aside0.mk hy344
 clear hy344
 replace H := Option.bind_eq_some_iff.mp H
 obtain ⟨t347, A40, H⟩ := H
 replace H : (if t347 < 0 then (some false) else (clepsydraref03_Prime.l0 k l0 l1 0)) = some r := H
 have A4 := Aside0.mk A40
 clear A40
 by_cases c5 : t347 < 0
 ·rw [if_pos c5] at H
  have c5b0 : decide (t347 < 0) = true := decide_eq_true c5
  clear c5
  obtain rfl := Option.some.inj H
  simp only [Option.some.injEq, Prod.mk.injEq] at H
  obtain ⟨rfl⟩ := H
  go_enter Tryz.func67, Tryz.ntmps67
  go_wp2_with (first | ((with_reducible refine gate_callee (f := 137) rfl ?_); refine goesL_ (some 7) rfl rfl Tryz.func137 (by kernel_rfl) rfl #[.slice A0 l0.length c0] rfl (by (try simp only [List.map_toArray, List.map_cons, List.map_nil]); rfl) ?_; (with_reducible refine (clepsydraref03_Digits.calls k _ _ l0 t341 _ ?side1 ?side2 A3.out).mono ?_); (case side1 => exact HR0.out); (case side2 => exact HC0.out); rintro e w6 ⟨v342, rfl, ho0, hb⟩; refine ⟨_, rfl, ?_⟩; have HO343 := Aside0.mk (Kd.R_lower ho0 (below_size HB.out)); replace HB := Aside0.mk (below_step HB.out hb); clear hb ho0) | ((with_reducible refine gate_dst (N := 8) rfl ?_); refine Kd.R_lit (Kd.int .i64) _ 3 ?hg (N := 8) ?hd (xs := ([2] : List Int)) (inner := [.int .i64 2]) (ok := fun _ => True) (okp := fun _ => True) ?hr ?hp (fun _ hk => hk) trivial (Below.refl _ _) (Nat.le_refl _) (by simp) ?_; (case hd => rfl); (case hg => rfl); (case hr => (go_simp; done)); (case hp => exact (Reps.one (show Kd.M (Kd.int .i64) _ _ _ 2 [.int .i64 2] from rfl) (Reps.none _ _))); intro v345 w7 ho8 hb hg_ hnew_; clear hg_ hnew_; ((rw [← Ny344.out] at ho8)); have HO346 := Aside0.mk (Kd.R_lower (Kd.R_new' ho8 (Kd.R_lt HO343.out)) (below_size HB.out)); replace HO343 := Aside0.mk (Kd.R_elder' HO343.out (Kd.R_base ho8) hb); replace HB := Aside0.mk (below_step HB.out hb); clear hb ho8; obtain ⟨Ao9, co9, eo9⟩ := Kd.R_slice HO343.out; subst eo9; obtain ⟨Ao10, co10, eo10⟩ := Kd.R_slice HO346.out; subst eo10) | ((with_reducible refine gate_callee (f := 136) rfl ?_); refine goesL_ (some 9) rfl rfl Tryz.func136 (by kernel_rfl) rfl #[.slice Ao9 t341.length co9, .slice Ao10 y344.length co10] rfl (by (try simp only [List.map_toArray, List.map_cons, List.map_nil]); rfl) ?_; (with_reducible refine (clepsydraref03_cmp.calls _ _ t341 _ _ y344 t347 _ ?side1 ?side2 ?side3 ?side4 A4.out).mono ?_); (case side1 => exact (Kd.R_reads' HO343.out).2.2); (case side2 => exact (Kd.R_reads' HO343.out).2.1); (case side3 => exact (Kd.R_reads' HO346.out).2.2); (case side4 => exact (Kd.R_reads' HO346.out).2.1); rintro e w' ⟨rfl, ⟨nd, rfl⟩⟩; refine ⟨_, rfl, ?_⟩))
  go_ret
  exact ⟨by rfl, by repeat ((with_reducible first | exact HB.out | apply pw_below_drewN))⟩
 ·rw [if_neg c5] at H
  have c5b0 : decide (t347 < 0) = false := decide_eq_false c5
  clear c5
  have H' := Aside0.mk H
  clear H
  go_enter Tryz.func67, Tryz.ntmps67
  go_wp2_with (first | ((with_reducible refine gate_callee (f := 137) rfl ?_); refine goesL_ (some 7) rfl rfl Tryz.func137 (by kernel_rfl) rfl #[.slice A0 l0.length c0] rfl (by (try simp only [List.map_toArray, List.map_cons, List.map_nil]); rfl) ?_; (with_reducible refine (clepsydraref03_Digits.calls k _ _ l0 t341 _ ?side1 ?side2 A3.out).mono ?_); (case side1 => exact HR0.out); (case side2 => exact HC0.out); rintro e w11 ⟨v342, rfl, ho0, hb⟩; refine ⟨_, rfl, ?_⟩; have HO343 := Aside0.mk (Kd.R_lower ho0 (below_size HB.out)); replace HB := Aside0.mk (below_step HB.out hb); clear hb ho0) | ((with_reducible refine gate_dst (N := 8) rfl ?_); refine Kd.R_lit (Kd.int .i64) _ 3 ?hg (N := 8) ?hd (xs := ([2] : List Int)) (inner := [.int .i64 2]) (ok := fun _ => True) (okp := fun _ => True) ?hr ?hp (fun _ hk => hk) trivial (Below.refl _ _) (Nat.le_refl _) (by simp) ?_; (case hd => rfl); (case hg => rfl); (case hr => (go_simp; done)); (case hp => exact (Reps.one (show Kd.M (Kd.int .i64) _ _ _ 2 [.int .i64 2] from rfl) (Reps.none _ _))); intro v345 w12 ho13 hb hg_ hnew_; clear hg_ hnew_; ((rw [← Ny344.out] at ho13)); have HO346 := Aside0.mk (Kd.R_lower (Kd.R_new' ho13 (Kd.R_lt HO343.out)) (below_size HB.out)); replace HO343 := Aside0.mk (Kd.R_elder' HO343.out (Kd.R_base ho13) hb); replace HB := Aside0.mk (below_step HB.out hb); clear hb ho13; obtain ⟨Ao14, co14, eo14⟩ := Kd.R_slice HO343.out; subst eo14; obtain ⟨Ao15, co15, eo15⟩ := Kd.R_slice HO346.out; subst eo15) | ((with_reducible refine gate_callee (f := 136) rfl ?_); refine goesL_ (some 9) rfl rfl Tryz.func136 (by kernel_rfl) rfl #[.slice Ao14 t341.length co14, .slice Ao15 y344.length co15] rfl (by (try simp only [List.map_toArray, List.map_cons, List.map_nil]); rfl) ?_; (with_reducible refine (clepsydraref03_cmp.calls _ _ t341 _ _ y344 t347 _ ?side1 ?side2 ?side3 ?side4 A4.out).mono ?_); (case side1 => exact (Kd.R_reads' HO343.out).2.2); (case side2 => exact (Kd.R_reads' HO343.out).2.1); (case side3 => exact (Kd.R_reads' HO346.out).2.2); (case side4 => exact (Kd.R_reads' HO346.out).2.1); rintro e w' ⟨rfl, ⟨nd, rfl⟩⟩; refine ⟨_, rfl, ?_⟩))
  go_loopg [5] k (fun kq v5 w' => ∃ (x5_1 : Int), v5 = .int .i64 x5_1 ∧ Aside0 (clepsydraref03_Prime.l0 kq l0 l1 x5_1 = some r) ∧ Aside0 (kq ≤ k) ∧ Aside0 (Below w.heap.size w w'))
  case atStart => exact ⟨(0), (by rfl), H', ⟨Nat.le_refl _⟩, ⟨by repeat ((with_reducible first | exact HB.out | apply pw_below_drewN))⟩⟩
  case round =>
   clear H'
   try clear c1
   try clear p2
   try clear c5
   try clear c5b0
   try clear c6
   try clear c13
   obtain ⟨x5_1, rfl, HA, HK1, HB⟩ := hrel
   cases gk with
   | zero => exact absurd HA.out (by simp [clepsydraref03_Prime.l0])
   | succ k1 =>
    have H := HA.out
    clear HA
    simp only [clepsydraref03_Prime.l0] at H
    by_cases c16 : x5_1 < (l1.length : Int)
    ·rw [if_pos c16] at H
     have c16b0 : decide (x5_1 < (l1.length : Int)) = true := decide_eq_true c16
     clear c16
     by_cases c17 : 0 ≤ x5_1
     ·rw [if_pos c17] at H
      have c17b0 : decide (0 ≤ x5_1) = true := decide_eq_true c17
      clear c17
      replace H := Option.bind_eq_some_iff.mp H
      obtain ⟨t349, A180, H⟩ := H
      replace H : (if t349 = true then (some false) else (clepsydraref03_Prime.l0 k1 l0 l1 (wrap64 (x5_1 + 1)))) = some r := H
      have A18 := Aside0.mk A180
      clear A180
      by_cases c19 : t349 = true
      ·subst c19
       have H1 : (some false) = some r := by rw [if_pos rfl] at H; exact H
       clear H
       have H := H1
       clear H1
       obtain rfl := Option.some.inj H
       simp only [Option.some.injEq, Prod.mk.injEq] at H
       obtain ⟨rfl⟩ := H
       have p348 : 0 ≤ (x5_1 : Int) := of_decide_eq_true (by (with_reducible assumption))
       have q348 : x5_1 < (l1.length : Int) := of_decide_eq_true (by (with_reducible assumption))
       obtain ⟨ad348, e348, hx348_0⟩ := Kd.at_int HR1.out x5_1 p348 q348
       cases e348
       replace hx348_0 := (HB.out.cell (World.block_lt_of_cell? w _ hx348_0)).trans hx348_0
       replace p348 := eq_true p348
       replace q348 := eq_true q348
       go_wp2_with ((((with_reducible refine gate_callee (f := 138) rfl ?_); refine goesL_ (some 22) rfl rfl Tryz.func138 (by kernel_rfl) rfl #[.slice A0 l0.length c0, .int .u64 (rd l1 x5_1)] rfl (by (try simp only [List.map_toArray, List.map_cons, List.map_nil]); rfl) ?_; (with_reducible refine (clepsydraref03_Tells.calls k1 _ _ l0 (rd l1 x5_1) true _ ?side1 ?side2 A18.out).mono ?_); (case side1 => exact (Kd.C_below HR0.out HB.out)); (case side2 => exact HC0.out); rintro e w20 ⟨rfl, hb⟩; refine ⟨_, rfl, ?_⟩; replace HB := Aside0.mk (below_step HB.out hb); clear hb)))
       go_ret
       exact ⟨by rfl, HB.out⟩
      ·replace c19 := Bool.eq_false_iff.mpr c19
       subst c19
       have H1 : (clepsydraref03_Prime.l0 k1 l0 l1 (wrap64 (x5_1 + 1))) = some r := by rw [if_neg (show ¬ (false = true) by decide)] at H; exact H
       clear H
       have H := H1
       clear H1
       have H' := Aside0.mk H
       clear H
       have p348 : 0 ≤ (x5_1 : Int) := of_decide_eq_true (by (with_reducible assumption))
       have q348 : x5_1 < (l1.length : Int) := of_decide_eq_true (by (with_reducible assumption))
       obtain ⟨ad348, e348, hx348_0⟩ := Kd.at_int HR1.out x5_1 p348 q348
       cases e348
       replace hx348_0 := (HB.out.cell (World.block_lt_of_cell? w _ hx348_0)).trans hx348_0
       replace p348 := eq_true p348
       replace q348 := eq_true q348
       go_wp2_with ((((with_reducible refine gate_callee (f := 138) rfl ?_); refine goesL_ (some 22) rfl rfl Tryz.func138 (by kernel_rfl) rfl #[.slice A0 l0.length c0, .int .u64 (rd l1 x5_1)] rfl (by (try simp only [List.map_toArray, List.map_cons, List.map_nil]); rfl) ?_; (with_reducible refine (clepsydraref03_Tells.calls k1 _ _ l0 (rd l1 x5_1) false _ ?side1 ?side2 A18.out).mono ?_); (case side1 => exact (Kd.C_below HR0.out HB.out)); (case side2 => exact HC0.out); rintro e w21 ⟨rfl, hb⟩; refine ⟨_, rfl, ?_⟩; replace HB := Aside0.mk (below_step HB.out hb); clear hb)))
       go_roundg k1
       case measure => have := HK1.out; omega
       case rel => exact ⟨(wrap64 (x5_1 + 1)), (by rfl), H', ⟨by have := HK1.out; omega⟩, ⟨HB.out⟩⟩
     ·rw [if_neg c17] at H
      exact absurd H (by simp)
    ·rw [if_neg c16] at H
     have c16b0 : decide (x5_1 < (l1.length : Int)) = false := decide_eq_false c16
     clear c16
     obtain rfl := Option.some.inj H
     simp only [Option.some.injEq, Prod.mk.injEq] at H
     obtain ⟨rfl⟩ := H
     go_wp2
     go_ret
     exact ⟨by rfl, HB.out⟩
end Go.Proofs.YtdmglajfmfjmlaaGreat.Cr
namespace Go.Proofs.YtdmglajfmfjmlaaGreat.Cr
open Go.RowKit Go.Proofs.YtdmglajfmfjmlaaGreatW.PrintWords Go.Proofs.YtdmglajfmfjmlaaGreatW.PrintLast Go.Proofs.YtdmglajfmfjmlaaGreatW.PrintMore
attribute [local go_sem] max2_int min2_int max_two min_two max_three min_three max_four min_four   -- for this text's walks alone
set_option linter.unusedVariables false
set_option linter.unusedSimpArgs false
end Go.Proofs.YtdmglajfmfjmlaaGreat.Cr
namespace Go.Proofs.YtdmglajfmfjmlaaGreat
set_option linter.unusedSimpArgs false
set_option linter.unusedVariables false
set_option maxRecDepth 100000
open Go.RowKit Go.Proofs.YtdmglajfmfjmlaaGreatW.PrintWords Go.Proofs.YtdmglajfmfjmlaaGreatW.PrintLast Go.Proofs.YtdmglajfmfjmlaaGreatW.PrintMore
theorem rd_cI (xs : List Nat) (i : Nat) : rd (cI xs) (i : Int) = ((gd xs i : Nat) : Int) := by
  unfold rd
  rw [Int.toNat_natCast, List.getD_eq_getElem?_getD]
  unfold cI gd
  rw [List.getElem?_map]
  cases xs[i]? <;> rfl
theorem cI_append3 (xs ys : List Nat) : cI (xs ++ ys) = cI xs ++ cI ys := by simp [cI]
theorem cI_one3 (x : Nat) : cI [x] = [(x : Int)] := rfl
theorem cI_take (xs : List Nat) (m : Nat) : (cI xs).take m = cI (xs.take m) := by simp [cI, List.map_take]
theorem cI_set (xs : List Nat) (j y : Nat) : (cI xs).set j (y : Int) = cI (xs.set j y) := by simp [cI, List.map_set]
theorem ofD_eq (n : Nat) : ofD n = cI (D.dgs n) := rfl
theorem ofN_eq (n : Nat) : ofN n = cI (limbs n) := rfl
theorem w64 {x : Nat} (h : x < 9223372036854775808) : wrap64 (x : Int) = (x : Int) := by unfold wrap64; omega
theorem w64p {x : Nat} (h : x < 9223372036854775807) : wrap64 ((x : Int) + 1) = ((x + 1 : Nat) : Int) := by unfold wrap64; omega
theorem w64m {x : Nat} (h : x < 9223372036854775807) : wrap64 (((x + 1 : Nat) : Int) - 1) = (x : Int) := by unfold wrap64; omega
theorem cut_l0R {ds : List Nat} (hd : D.D16 ds) (hl : ds.length < 1099511627776) : ∀ (m k : Nat), m ≤ ds.length → D.nv (ds.take m) = D.nv ds → m < k → Cr.clepsydraref03_cut.l0 k (cI ds) (m : Int) = some (ofD (D.nv ds)) := by
  intro m
  induction m with
  | zero =>
    intro k _ h hk
    obtain ⟨k, rfl⟩ : ∃ q, k = q + 1 := ⟨k - 1, by omega⟩
    have h0 : D.nv ds = 0 := by rw [← h]; rfl
    simp only [Cr.clepsydraref03_cut.l0]
    rw [if_neg (by omega), if_pos (by omega), if_pos (by omega), h0, ofD_zero]; rfl
  | succ m ih =>
    intro k hm h hk
    obtain ⟨k, rfl⟩ : ∃ q, k = q + 1 := ⟨k - 1, by omega⟩
    simp only [Cr.clepsydraref03_cut.l0]
    rw [w64m (by omega), cI_length, rd_cI, if_pos (by omega), if_pos (by omega), if_pos (by omega)]
    by_cases h0 : gd ds m = 0
    · rw [if_pos (by omega)]
      exact ih k (by omega) (D.trim_more h0 h) (by omega)
    · rw [if_neg (by omega), if_pos (by omega), if_pos (by omega), Int.toNat_natCast, cI_take, ofD_eq, D.trim_done hd (by omega) h0 h]
theorem cut_pureR {ds : List Nat} (hd : D.D16 ds) (hl : ds.length < 1099511627776) (k : Nat) (hk : ds.length < k) : Cr.clepsydraref03_cut.f k (cI ds) = some (ofD (D.nv ds)) := by
  unfold Cr.clepsydraref03_cut.f
  rw [cI_length]
  exact cut_l0R hd hl ds.length k (Nat.le_refl _) (by rw [List.take_of_length_le (Nat.le_refl _)]) hk
theorem dnv_snoc (ds : List Nat) (x : Nat) : D.nv (ds ++ [x]) = D.nv ds + 65536 ^ ds.length * x := by rw [D.nv_append]; simp [D.nv]
theorem d16_snoc {ds : List Nat} (h : D.D16 ds) {x : Nat} (hx : x < 65536) : D.D16 (ds ++ [x]) := h.append (D.D16.cons hx D.D16.nil)
theorem mod_snoc (N t : Nat) : N % 2 ^ (16 * (t + 1)) = N % 2 ^ (16 * t) + 65536 ^ t * (N / 2 ^ (16 * t) % 65536) := by
  rw [show 16 * (t + 1) = 16 * t + 16 by omega, Nat.pow_add, D.wpow, show (2 : Nat) ^ 16 = 65536 from rfl, Nat.mod_mul]
theorem dig16 {x j : Nat} (hx : x < 18446744073709551616) (hj : j < 4) : wrap64 (Go.bits .and .u64 (shr .u64 (x : Int) (IntKind.u64.wrap (wrap64 (16 * (j : Int))))) 65535) = ((x / 2 ^ (16 * j) % 65536 : Nat) : Int) := by
  have e1 : wrap64 (16 * (j : Int)) = ((16 * j : Nat) : Int) := by unfold wrap64; omega
  rw [e1, u64w3 (by omega)]
  have es : shr .u64 (x : Int) ((16 * j : Nat) : Int) = ((x / 2 ^ (16 * j) : Nat) : Int) := by
    unfold shr
    rw [Int.toNat_natCast, show min (16 * j) IntKind.u64.bits = 16 * j from Nat.min_eq_left (by have : IntKind.u64.bits = 64 := rfl; omega)]
    push_cast; rfl
  have hq : x / 2 ^ (16 * j) < 18446744073709551616 := Nat.lt_of_le_of_lt (Nat.div_le_self _ _) hx
  rw [es]
  have := and_u64 (a := x / 2 ^ (16 * j)) (b := 65535) hq (by omega)
  rw [show ((65535 : Nat) : Int) = 65535 from rfl] at this
  rw [this, show (65535 : Nat) = 2 ^ 16 - 1 from rfl, Nat.and_two_pow_sub_one_eq_mod, show (2 : Nat) ^ 16 = 65536 from rfl]
  exact w64 (by have := Nat.mod_lt (x / 2 ^ (16 * j)) (show 0 < 65536 by omega); omega)
theorem digits_l1R {xs : List Nat} (hb : B64 xs) (hx : xs.length ≤ 262144) {i F : Nat} (hi : i < xs.length) {r : List Int}
    (ih : ∀ ds, D.D16 ds → ds.length = 4 * (i + 1) → D.nv ds = nv xs % 2 ^ (16 * (4 * (i + 1))) → ∀ k, F ≤ k → Cr.clepsydraref03_Digits.l0 k (cI xs) (cI ds) ((i + 1 : Nat) : Int) = some r) :
    ∀ (e j : Nat), j + e = 4 → ∀ ds, D.D16 ds → ds.length = 4 * i + j → D.nv ds = nv xs % 2 ^ (16 * (4 * i + j)) → ∀ k, F + e + 1 ≤ k → Cr.clepsydraref03_Digits.l1 k (cI xs) (cI ds) (i : Int) (j : Int) = some r := by
  intro e
  induction e with
  | zero =>
    intro j hj ds hd hl hv k hk
    obtain ⟨k, rfl⟩ : ∃ q, k = q + 1 := ⟨k - 1, by omega⟩
    obtain rfl : j = 4 := by omega
    simp only [Cr.clepsydraref03_Digits.l1]
    rw [if_neg (by omega), w64p (by omega)]
    exact ih ds hd (by omega) (by rw [show 4 * (i + 1) = 4 * i + 4 by omega]; exact hv) k (by omega)
  | succ e ihe =>
    intro j hj ds hd hl hv k hk
    obtain ⟨k, rfl⟩ : ∃ q, k = q + 1 := ⟨k - 1, by omega⟩
    have hg := hb.gd i
    have hp : (0 : Int) ≤ IntKind.u64.wrap (wrap64 (16 * (j : Int))) := by
      have e1 : wrap64 (16 * (j : Int)) = ((16 * j : Nat) : Int) := by unfold wrap64; omega
      rw [e1, u64w3 (by omega)]; omega
    simp only [Cr.clepsydraref03_Digits.l1]
    rw [rd_cI, cI_length, cI_length, if_pos (by omega), if_pos (by omega), if_pos (by omega), if_pos hp, if_pos (by omega), dig16 hg (by omega), w64p (by omega), ← cI_one3, ← cI_append3]
    have hm := Nat.mod_lt (gd xs i / 2 ^ (16 * j)) (show 0 < 65536 by omega)
    refine ihe (j + 1) (by omega) _ (d16_snoc hd hm) (by rw [List.length_append, hl]; rfl) ?_ k (by omega)
    rw [dnv_snoc, hv, hl, show 4 * i + (j + 1) = 4 * i + j + 1 by omega, mod_snoc]
    congr 2
    have := limb_part xs hb i (16 * j) 16 (by omega)
    rw [show (2 : Nat) ^ 16 = 65536 from rfl] at this
    rw [this, show 16 * (4 * i + j) = 64 * i + 16 * j by omega]
theorem digits_l0R {xs : List Nat} (hb : B64 xs) (hx : xs.length ≤ 262144) : ∀ (d i : Nat), i + d = xs.length → ∀ ds, D.D16 ds → ds.length = 4 * i → D.nv ds = nv xs % 2 ^ (16 * (4 * i)) → ∀ k, 6 * d + 4 * xs.length + 3 ≤ k →
    Cr.clepsydraref03_Digits.l0 k (cI xs) (cI ds) (i : Int) = some (ofD (nv xs)) := by
  intro d
  induction d with
  | zero =>
    intro i hi ds hd hl hv k hk
    obtain ⟨k, rfl⟩ : ∃ q, k = q + 1 := ⟨k - 1, by omega⟩
    obtain rfl : i = xs.length := by omega
    have hN : D.nv ds = nv xs := by
      have := nv_lt hb
      rw [hv, Nat.mod_eq_of_lt]
      rwa [show 16 * (4 * xs.length) = 64 * xs.length by omega, Nat.pow_mul, show (2 : Nat) ^ 64 = 18446744073709551616 from rfl]
    simp only [Cr.clepsydraref03_Digits.l0]
    rw [cI_length, if_neg (by omega), cut_pureR hd (by omega) k (by omega), Option.bind_some, hN]
  | succ d ih =>
    intro i hi ds hd hl hv k hk
    obtain ⟨k, rfl⟩ : ∃ q, k = q + 1 := ⟨k - 1, by omega⟩
    simp only [Cr.clepsydraref03_Digits.l0]
    rw [cI_length, if_pos (by omega)]
    exact digits_l1R hb hx (by omega) (F := 6 * d + 4 * xs.length + 3) (fun es he hle hve k hk => ih (i + 1) (by omega) es he hle hve k hk) 4 0 rfl ds hd hl hv k (by omega)
theorem digits_pureR {l : List Int} {m : Nat} (h : okN m l) (hm : m ≤ 65536) (k : Nat) (hk : 10 * m + 3 ≤ k) : Cr.clepsydraref03_Digits.f k l = some (ofD (nI l)) := by
  have hl := h.1
  have hb : cI (toN l) = l := cI_toN fun x hx => (h.2 x hx).1
  unfold Cr.clepsydraref03_Digits.f
  have := digits_l0R (xs := toN l) h.b64 (by rw [toN_length]; omega) (toN l).length 0 (by omega) [] D.D16.nil rfl (by simp [D.nv, Nat.mod_one]) k (by rw [toN_length]; omega)
  rw [hb] at this
  exact this
theorem limbs_of_top {zs : List Nat} (h : B64 zs) (hz : zs = [] ∨ 18446744073709551616 ^ (zs.length - 1) ≤ nv zs) : limbs (nv zs) = zs := by
  refine limbs_nv h fun x hx h0 => ?_
  subst h0
  obtain ⟨ys, rfl⟩ : ∃ ys, zs = ys ++ [0] := by
    rw [List.getLast?_eq_some_iff] at hx
    exact hx
  rcases hz with hz | hz
  · simp at hz
  · rw [nv_append, List.length_append] at hz
    have hlt := nv_lt (xs := ys) (fun x hx => h x (List.mem_append_left _ hx))
    simp only [nv, List.length_cons, List.length_nil, Nat.add_sub_cancel] at hz
    omega
theorem num_step {ys : List Nat} (hb : B64 ys) {i d : Nat} (hl : ys.length = i / 4 + 1) (hv : nv ys < 65536 ^ i) (hd : d < 65536) :
    gd ys (i / 4) + d * 2 ^ (16 * (i % 4)) < 18446744073709551616 ∧ nv (ys.set (i / 4) (gd ys (i / 4) + d * 2 ^ (16 * (i % 4)))) = nv ys + 65536 ^ i * d := by
  have e0 : 65536 ^ i = 18446744073709551616 ^ (i / 4) * 2 ^ (16 * (i % 4)) := by
    rw [D.wpow, show (18446744073709551616 : Nat) = 2 ^ 64 from rfl, ← Nat.pow_mul, ← Nat.pow_add, show 64 * (i / 4) + 16 * (i % 4) = 16 * i by omega]
  have hr : i % 4 < 4 := Nat.mod_lt _ (by omega)
  have hg : gd ys (i / 4) < 2 ^ (16 * (i % 4)) := gd_small (by rw [← e0]; exact hv)
  refine ⟨?_, ?_⟩
  · have e1 : 2 ^ (16 * (i % 4)) * 65536 ≤ 18446744073709551616 := by
      rw [show (65536 : Nat) = 2 ^ 16 from rfl, ← Nat.pow_add, show (18446744073709551616 : Nat) = 2 ^ 64 from rfl]
      exact Nat.pow_le_pow_right (by omega) (by omega)
    have e2 : 2 ^ (16 * (i % 4)) * (d + 1) ≤ 2 ^ (16 * (i % 4)) * 65536 := Nat.mul_le_mul_left _ hd
    rw [Nat.mul_add, Nat.mul_comm _ d] at e2
    omega
  · have h1 := nv_set (zs := ys) (j := i / 4) (gd ys (i / 4) + d * 2 ^ (16 * (i % 4))) (by omega)
    rw [Nat.mul_add, Nat.mul_comm d, ← Nat.mul_assoc, ← e0] at h1
    rw [Nat.mul_comm d]
    omega
theorem shl16 {d r : Nat} (hd : d < 65536) (hr : r < 4) : shl .u64 (IntKind.u64.wrap (d : Int)) (IntKind.u64.wrap (wrap64 (16 * (r : Int)))) = ((d * 2 ^ (16 * r) : Nat) : Int) := by
  have e1 : wrap64 (16 * (r : Int)) = ((16 * r : Nat) : Int) := by unfold wrap64; omega
  have hlt : d * 2 ^ (16 * r) < 18446744073709551616 := by
    have e2 : d * 2 ^ (16 * r) < 65536 * 2 ^ (16 * r) := Nat.mul_lt_mul_of_pos_right hd (Nat.pow_pos (by omega))
    have e3 : 65536 * 2 ^ (16 * r) ≤ 18446744073709551616 := by
      rw [show (65536 : Nat) = 2 ^ 16 from rfl, ← Nat.pow_add, show (18446744073709551616 : Nat) = 2 ^ 64 from rfl]
      exact Nat.pow_le_pow_right (by omega) (by omega)
    omega
  rw [e1, u64w3 (by omega), u64w3 (by omega)]
  unfold shl
  rw [Int.toNat_natCast, show min (16 * r) IntKind.u64.bits = 16 * r from Nat.min_eq_left (by have : IntKind.u64.bits = 64 := rfl; omega)]
  rw [← u64w3 hlt]
  congr 1
theorem num_l0R {es : List Nat} (he : D.D16 es) (hl : es.length ≤ 4194304) : ∀ (d i : Nat), i + d = es.length → ∀ zs, B64 zs → zs.length = (i + 3) / 4 → nv zs = D.nv (es.take i) → ∀ k, d < k →
    ∃ ys, Cr.clepsydraref03_Number.l0 k (cI es) (cI zs) (i : Int) = some (cI ys) ∧ B64 ys ∧ ys.length = (es.length + 3) / 4 ∧ nv ys = D.nv es := by
  intro d
  induction d with
  | zero =>
    intro i hi zs hz hlz hv k hk
    obtain ⟨k, rfl⟩ : ∃ q, k = q + 1 := ⟨k - 1, by omega⟩
    obtain rfl : i = es.length := by omega
    simp only [Cr.clepsydraref03_Number.l0]
    rw [cI_length, if_neg (by omega)]
    exact ⟨zs, rfl, hz, hlz, by rw [hv, List.take_of_length_le (Nat.le_refl _)]⟩
  | succ d ih =>
    intro i hi zs hz hlz hv k hk
    obtain ⟨k, rfl⟩ : ∃ q, k = q + 1 := ⟨k - 1, by omega⟩
    have hr : i % 4 < 4 := Nat.mod_lt _ (by omega)
    have e : Int.tdiv (i : Int) 4 = ((i / 4 : Nat) : Int) := by rw [Int.tdiv_eq_ediv_of_nonneg (by omega)]; omega
    have e2 : Int.tmod (i : Int) 4 = ((i % 4 : Nat) : Int) := by rw [Int.tmod_eq_emod_of_nonneg (by omega)]; omega
    have hg := he.gd i
    have hlt : D.nv (es.take i) < 65536 ^ i := D.nv_take_lt he i
    have hp : (0 : Int) ≤ IntKind.u64.wrap (wrap64 (16 * ((i % 4 : Nat) : Int))) := by
      have e1 : wrap64 (16 * ((i % 4 : Nat) : Int)) = ((16 * (i % 4) : Nat) : Int) := by unfold wrap64; omega
      rw [e1, u64w3 (by omega)]; omega
    have step : ∀ ys, B64 ys → ys.length = i / 4 + 1 → nv ys = D.nv (es.take i) →
        ∃ zs', Cr.clepsydraref03_Number.l0 k (cI es) ((cI ys).set (((i / 4 : Nat) : Int)).toNat (IntKind.u64.wrap (rd (cI ys) ((i / 4 : Nat) : Int) + shl .u64 (IntKind.u64.wrap (rd (cI es) (i : Int))) (IntKind.u64.wrap (wrap64 (16 * ((i % 4 : Nat) : Int))))))) ((i + 1 : Nat) : Int) = some (cI zs') ∧ B64 zs' ∧ zs'.length = (es.length + 3) / 4 ∧ nv zs' = D.nv es := by
      intro ys hb hly hvy
      obtain ⟨s1, s2⟩ := num_step hb hly (by rw [hvy]; exact hlt) hg
      rw [rd_cI, rd_cI, shl16 hg hr, ← Int.natCast_add, u64w3 s1, Int.toNat_natCast, cI_set]
      exact ih (i + 1) (by omega) _ (hb.set s1) (by rw [List.length_set]; omega) (by rw [s2, hvy, D.nv_take]) k (by omega)
    simp only [Cr.clepsydraref03_Number.l0]
    rw [e, e2, cI_length, if_pos (by omega), cI_length, w64 (by omega), w64p (by omega)]
    by_cases h0 : i % 4 = 0
    · rw [if_pos (by omega), if_pos (by omega), Option.bind_some, show (cI zs ++ [(0 : Int)]) = cI (zs ++ [0]) from (cI_append3 zs [0]).symm, cI_length, List.length_append, if_pos (by omega), if_pos (by simp only [List.length_cons, List.length_nil]; omega), if_pos (by omega), if_pos hp]
      refine step _ (hz.append (B64.cons (by omega) B64.nil)) (by rw [List.length_append]; simp only [List.length_cons, List.length_nil]; omega) (by rw [nv_append, hv]; simp [nv])
    · rw [if_neg (by omega), if_pos (by omega), if_pos (by omega), if_pos (by omega), if_pos hp]
      exact step zs hz (by omega) hv
theorem number_pureR (n : Nat) (hl : D.ln n ≤ 1048576) (k : Nat) (hk : D.ln n < k) : Cr.clepsydraref03_Number.f k (ofD n) = some (ofN n) := by
  have hd := D.dgs_b64 n
  unfold Cr.clepsydraref03_Number.f
  rw [ofD_eq, cut_pureR hd (by have : (D.dgs n).length ≤ 1048576 := hl
                               omega) k hk, Option.bind_some, D.nv_dgs, ofD_eq]
  obtain ⟨ys, h1, h2, h3, h4⟩ := num_l0R hd (by have : (D.dgs n).length ≤ 1048576 := hl
                                                omega) (D.dgs n).length 0 (by omega) [] B64.nil rfl (by simp [nv, D.nv]) k hk
  rw [show cI [] = [] from rfl] at h1
  rw [show ((0 : Nat) : Int) = 0 from rfl] at h1
  rw [h1, ofN_eq]
  rw [D.nv_dgs] at h4
  rw [← h4, limbs_of_top h2 ?_]
  rcases Nat.eq_zero_or_pos (D.ln n) with h0 | h0
  · left
    have : ys.length = 0 := by rw [h3]; unfold D.ln at h0; rw [h0]
    exact List.eq_nil_of_length_eq_zero this
  · right
    have hle : ¬ D.ln n ≤ D.ln n - 1 := by omega
    rw [D.ln_le] at hle
    rw [h4]
    refine Nat.le_trans ?_ (Nat.le_of_not_lt hle)
    have e4 : (18446744073709551616 : Nat) = 65536 ^ 4 := rfl
    rw [e4, ← Nat.pow_mul]
    refine Nat.pow_le_pow_right (by omega) ?_
    unfold D.ln
    omega
theorem wadd {x y : Nat} (h : x + y < 9223372036854775808) : wrap64 ((x : Int) + (y : Int)) = ((x + y : Nat) : Int) := by unfold wrap64; omega
theorem div16 (x : Nat) : (x : Int) / 65536 = ((x / 65536 : Nat) : Int) := by omega
theorem wsub3 {x y c : Nat} (h : x < 65536) (h' : y < 65536) (hc : c ≤ 1) : wrap64 (wrap64 ((x : Int) - (y : Int)) - (c : Int)) = (x : Int) - (y : Int) - (c : Int) := by unfold wrap64; omega
theorem wsub2 {x y c : Nat} (h : x < 65536) (h' : y < 65536) (hc : c ≤ 1) (hn : x < y + c) : wrap64 ((x : Int) - (y : Int) - (c : Int) + 65536) = ((x + 65536 - y - c : Nat) : Int) := by unfold wrap64; omega
theorem plus_l0R {a b : List Nat} (ha : D.D16 a) (hb : D.D16 b) {M : Nat} (hla : a.length ≤ M) (hlb : b.length ≤ M) (hM : M ≤ 1048576) : ∀ (d i : Nat), i + d = M + 1 → ∀ (ds : List Nat) (c : Nat), c ≤ 1 → D.D16 ds → ds.length = i → D.nv ds + 65536 ^ i * c = D.nv (a.take i) + D.nv (b.take i) → ∀ k, 2 * d + 2 ≤ k →
    ∃ r, Cr.clepsydraref03_plus.l0 k (cI a) (cI b) (cI ds) (c : Int) (i : Int) = some (cI r) ∧ D.D16 r ∧ r.length ≤ M + 1 ∧ D.nv r = D.nv a + D.nv b := by
  intro d
  induction d with
  | zero =>
    intro i hi ds c hc hd hl hv k hk
    obtain ⟨k, rfl⟩ : ∃ q, k = q + 2 := ⟨k - 2, by omega⟩
    have hta : a.take i = a := List.take_of_length_le (by omega)
    have htb : b.take i = b := List.take_of_length_le (by omega)
    rw [hta, htb] at hv
    have hA := D.nv_lt ha
    have hB := D.nv_lt hb
    have hA' : D.nv a < 65536 ^ M := Nat.lt_of_lt_of_le hA (Nat.pow_le_pow_right (by omega) hla)
    have hB' : D.nv b < 65536 ^ M := Nat.lt_of_lt_of_le hB (Nat.pow_le_pow_right (by omega) hlb)
    have hc0 : c = 0 := top_cy (W := 0) hv (by rw [show i = M + 1 by omega, Nat.pow_succ]; omega) (Nat.pow_pos (by omega))
    subst hc0
    simp only [Cr.clepsydraref03_plus.l0]
    rw [cI_length, cI_length, if_neg (by omega), if_neg (by omega)]
    simp only [Cr.clepsydraref03_plus.j1]
    rw [decide_eq_false (by omega), if_neg (by decide)]
    exact ⟨ds, rfl, hd, by omega, by omega⟩
  | succ d ih =>
    intro i hi ds c hc hd hl hv k hk
    obtain ⟨k, rfl⟩ : ∃ q, k = q + 2 := ⟨k - 2, by omega⟩
    have hga := ha.gd i
    have hgb := hb.gd i
    have hat : ∀ (x : List Nat), Cr.clepsydraref03_at.f (cI x) (i : Int) = some ((gd x i : Nat) : Int) := by
      intro x
      unfold Cr.clepsydraref03_at.f
      rw [cI_length]
      by_cases h : i < x.length
      · rw [if_neg (by omega), if_pos (by omega), if_pos (by omega), rd_cI]
      · rw [if_pos (by omega), gd_ge (by omega)]; rfl
    have go : ∃ r, Cr.clepsydraref03_plus.j1 (k + 1) (cI a) (cI b) (cI ds) (c : Int) (i : Int) true = some (cI r) ∧ D.D16 r ∧ r.length ≤ M + 1 ∧ D.nv r = D.nv a + D.nv b := by
      simp only [Cr.clepsydraref03_plus.j1]
      rw [if_pos trivial, hat, hat, Option.bind_some, Option.bind_some, cI_length, if_pos (by omega)]
      have hs : gd a i + gd b i + c < 9223372036854775808 := by omega
      have hq : (gd a i + gd b i + c) / 65536 ≤ 1 := by omega
      rw [wadd (by omega), wadd hs, low16 hs, div16, w64p (by omega), ← cI_one3, ← cI_append3]
      have hm := Nat.mod_lt (gd a i + gd b i + c) (show 0 < 65536 by omega)
      refine ih (i + 1) (by omega) _ _ hq (d16_snoc hd hm) (by rw [List.length_append, hl]; rfl) ?_ k (by omega)
      rw [dnv_snoc, hl, D.nv_take, D.nv_take, Nat.pow_succ]
      have e := congrArg (65536 ^ i * ·) (Nat.mod_add_div (gd a i + gd b i + c) 65536)
      simp only [Nat.mul_add] at e
      rw [← Nat.mul_assoc] at e
      omega
    simp only [Cr.clepsydraref03_plus.l0]
    rw [cI_length, cI_length]
    by_cases h1 : i < a.length
    · rw [if_pos (by omega)]; exact go
    · rw [if_neg (by omega)]
      by_cases h2 : i < b.length
      · rw [if_pos (by omega)]; exact go
      · rw [if_neg (by omega)]
        by_cases h3 : 0 < c
        · rw [decide_eq_true (by omega)]; exact go
        · rw [decide_eq_false (by omega)]
          simp only [Cr.clepsydraref03_plus.j1]
          rw [if_neg (by decide)]
          obtain rfl : c = 0 := by omega
          rw [List.take_of_length_le (by omega), List.take_of_length_le (by omega)] at hv
          exact ⟨ds, rfl, hd, by omega, by omega⟩
theorem plus_pureR {a b : List Nat} (ha : D.D16 a) (hb : D.D16 b) {M : Nat} (hla : a.length ≤ M) (hlb : b.length ≤ M) (hM : M ≤ 1048576) (k : Nat) (hk : 2 * M + 4 ≤ k) :
    ∃ r, Cr.clepsydraref03_plus.f k (cI a) (cI b) = some (cI r) ∧ D.D16 r ∧ r.length ≤ M + 1 ∧ D.nv r = D.nv a + D.nv b := by
  unfold Cr.clepsydraref03_plus.f
  exact plus_l0R ha hb hla hlb hM (M + 1) 0 (by omega) [] 0 (by omega) D.D16.nil rfl (by simp [D.nv]) k (by omega)
theorem minus_l0R {a b : List Nat} (ha : D.D16 a) (hb : D.D16 b) (hla : a.length ≤ 1048576) (hle : D.nv b ≤ D.nv a) (hbw : D.nv (b.take a.length) = D.nv b) : ∀ (d i : Nat), i + d = a.length → ∀ (ds : List Nat) (c : Nat), c ≤ 1 → D.D16 ds → ds.length = i → D.nv ds + D.nv (b.take i) = D.nv (a.take i) + 65536 ^ i * c → ∀ k, d + a.length + 2 ≤ k →
    Cr.clepsydraref03_minus.l0 k (cI a) (cI b) (cI ds) (c : Int) (i : Int) = some (ofD (D.nv a - D.nv b)) := by
  intro d
  induction d with
  | zero =>
    intro i hi ds c hc hd hl hv k hk
    obtain ⟨k, rfl⟩ : ∃ q, k = q + 1 := ⟨k - 1, by omega⟩
    obtain rfl : i = a.length := by omega
    rw [hbw, List.take_of_length_le (Nat.le_refl _)] at hv
    have hc0 : c = 0 := top_owed hv (by have := D.nv_lt hd; rwa [hl] at this) hle
    subst hc0
    simp only [Cr.clepsydraref03_minus.l0]
    rw [cI_length, if_neg (by omega), cut_pureR hd (by omega) k (by omega), Option.bind_some]
    congr 2; omega
  | succ d ih =>
    intro i hi ds c hc hd hl hv k hk
    obtain ⟨k, rfl⟩ : ∃ q, k = q + 1 := ⟨k - 1, by omega⟩
    have hga := ha.gd i
    have hgb := hb.gd i
    have hat : Cr.clepsydraref03_at.f (cI b) (i : Int) = some ((gd b i : Nat) : Int) := by
      unfold Cr.clepsydraref03_at.f
      rw [cI_length]
      by_cases h : i < b.length
      · rw [if_neg (by omega), if_pos (by omega), if_pos (by omega), rd_cI]
      · rw [if_pos (by omega), gd_ge (by omega)]; rfl
    simp only [Cr.clepsydraref03_minus.l0]
    rw [cI_length, if_pos (by omega), if_pos (by omega), hat, Option.bind_some, rd_cI, cI_length, w64p (by omega)]
    rw [wsub3 hga hgb hc]
    by_cases hneg : gd a i < gd b i + c
    · have e3 := wsub2 hga hgb hc hneg
      rw [e3]
      clear e3
      rw [if_pos (by omega), if_pos (by omega), ← cI_one3, ← cI_append3]
      refine ih (i + 1) (by omega) _ 1 (by omega) (d16_snoc hd (by omega)) (by rw [List.length_append, hl]; rfl) ?_ k (by omega)
      rw [dnv_snoc, hl, D.nv_take, D.nv_take, Nat.pow_succ]
      have e : gd a i + 65536 - gd b i - c + gd b i + c = gd a i + 65536 := by omega
      have := congrArg (65536 ^ i * ·) e
      simp only [Nat.mul_add] at this
      omega
    · have e3 : ((gd a i : Nat) : Int) - ((gd b i : Nat) : Int) - (c : Int) = ((gd a i - gd b i - c : Nat) : Int) := by omega
      rw [if_neg (by omega), if_pos (by omega), e3, ← cI_one3, ← cI_append3]
      refine ih (i + 1) (by omega) _ 0 (by omega) (d16_snoc hd (by omega)) (by rw [List.length_append, hl]; rfl) ?_ k (by omega)
      rw [dnv_snoc, hl, D.nv_take, D.nv_take, Nat.pow_succ]
      have e : gd a i - gd b i - c + gd b i + c = gd a i := by omega
      have := congrArg (65536 ^ i * ·) e
      simp only [Nat.mul_add] at this
      omega
theorem D.nv_take_all {b : List Nat} (hb : D.D16 b) {n : Nat} (h : D.nv b < 65536 ^ n) : D.nv (b.take n) = D.nv b := by
  rcases Nat.lt_or_ge n b.length with hn | hn
  · have h1 := D.nv_split b n (by omega)
    have h0 : D.nv (b.drop n) = 0 := by
      rcases Nat.eq_zero_or_pos (D.nv (b.drop n)) with h0 | h0
      · exact h0
      · have := Nat.mul_le_mul_left (65536 ^ n) h0; omega
    rw [h0] at h1; omega
  · rw [List.take_of_length_le hn]
theorem minus_pureR {a b : List Nat} (ha : D.D16 a) (hb : D.D16 b) (hla : a.length ≤ 1048576) (hle : D.nv b ≤ D.nv a) (k : Nat) (hk : 2 * a.length + 2 ≤ k) : Cr.clepsydraref03_minus.f k (cI a) (cI b) = some (ofD (D.nv a - D.nv b)) := by
  unfold Cr.clepsydraref03_minus.f
  exact minus_l0R ha hb hla hle (D.nv_take_all hb (Nat.lt_of_le_of_lt hle (D.nv_lt ha))) a.length 0 (by omega) [] 0 (by omega) D.D16.nil rfl (by simp [D.nv]) k (by omega)
end Go.Proofs.YtdmglajfmfjmlaaGreat
namespace Go.Proofs.YtdmglajfmfjmlaaGreat
set_option linter.unusedSimpArgs false
set_option linter.unusedVariables false
set_option maxRecDepth 100000
open Go.RowKit Go.Proofs.YtdmglajfmfjmlaaGreatW.PrintWords Go.Proofs.YtdmglajfmfjmlaaGreatW.PrintLast Go.Proofs.YtdmglajfmfjmlaaGreatW.PrintMore
theorem dl_of_ln {n m : Nat} (h : ln n ≤ m) : D.ln n ≤ 4 * m := by
  rw [D.ln_le, D.wpow, show 16 * (4 * m) = 64 * m by omega, ← wpow]
  exact ln_le.1 h
theorem dl_mono {a b : Nat} (h : a ≤ b) : D.ln a ≤ D.ln b := D.ln_mono h
theorem dl_mod {a b k : Nat} (h0 : 0 < b) (h : D.ln b ≤ k) : D.ln (a % b) ≤ k := Nat.le_trans (D.ln_mono (Nat.le_of_lt (Nat.mod_lt a h0))) h
theorem ofD_small {n : Nat} (h0 : 0 < n) (h : n < 65536) : ofD n = [(n : Int)] := by
  unfold ofD
  rw [D.dgs_pos (by omega), Nat.div_eq_of_lt h, D.dgs_zero, Nat.mod_eq_of_lt h]; rfl
theorem ofD_one : ofD 1 = [1] := ofD_small (by omega) (by omega)
theorem ofD_two : ofD 2 = [2] := ofD_small (by omega) (by omega)
theorem dl_small {n : Nat} (h : n < 65536) : D.ln n ≤ 1 := D.ln_small h
theorem rp {a b : Nat} (ha : D.ln a ≤ 65536) (hb : D.ln b ≤ 65536) (h : 0 < b) : Cr.clepsydraref03_parted.f (ofD a) (ofD b) = some (ofD (a / b), ofD (a % b)) := by
  unfold Cr.clepsydraref03_parted.f
  rw [if_pos ⟨okD_ofD ha, okD_ofD hb, by rw [dI_ofD]; exact h⟩, dI_ofD, dI_ofD]
theorem rt {a b n : Nat} (hb : D.ln b ≤ 65536) (hn : D.ln n ≤ 65536) (h : a < n) : Cr.clepsydraref03_times.f (ofD a) (ofD b) (ofD n) = some (ofD (a * b % n)) := by
  have hl := dl_mono (Nat.le_of_lt h)
  unfold Cr.clepsydraref03_times.f
  rw [if_pos ⟨okD_ofD (by omega), okD_ofD hb, okD_ofD hn, by rw [dI_ofD, dI_ofD]; exact h, by rw [ofD_length, ofD_length]; omega⟩, dI_ofD, dI_ofD, dI_ofD]
theorem rb {a : Nat} (ha : D.ln a ≤ 65536) (i : Nat) (hi : i ≤ 4611686018427387904) : Cr.clepsydraref03_bit.f (ofD a) (i : Int) = some ((a / 2 ^ i % 2 : Nat) : Int) := by
  unfold Cr.clepsydraref03_bit.f
  rw [if_pos ⟨okD_ofD (by omega), by omega, by omega⟩, dI_ofD, Int.toNat_natCast]
theorem rc {a b : Nat} (ha : D.ln a ≤ 65536) (hb : D.ln b ≤ 65536) : Cr.clepsydraref03_cmp.f (ofD a) (ofD b) = some (cmpN a b) := by
  unfold Cr.clepsydraref03_cmp.f
  rw [if_pos ⟨okD_ofD (by omega), okD_ofD (by omega)⟩, dI_ofD, dI_ofD]
theorem len0 (n : Nat) : ((ofD n).length : Int) = 0 ↔ n = 0 := by
  rw [ofD_length]
  constructor
  · intro h
    rcases Nat.eq_zero_or_pos n with h0 | h0
    · exact h0
    · have := D.ln_pos (show n ≠ 0 by omega); omega
  · rintro rfl; rw [D.ln_zero]; rfl
theorem power_l0R {m x e : Nat} (hm : 0 < m) (hx : x < m) (hl : D.ln m ≤ 65536) (he : D.ln e ≤ 65536) : ∀ (j k : Nat), j < k → j ≤ 16777216 →
    Cr.clepsydraref03_power.l0 k (ofD x) (ofD e) (ofD m) (ofD (powM x (e / 2 ^ j) m)) ((j : Int) - 1) = some (ofD (powM x e m)) := by
  intro j
  induction j with
  | zero =>
    intro k hk _
    obtain ⟨k, rfl⟩ : ∃ q, k = q + 1 := ⟨k - 1, by omega⟩
    simp only [Cr.clepsydraref03_power.l0]
    rw [if_neg (by omega), Nat.pow_zero, Nat.div_one]
  | succ j ih =>
    intro k hk hj
    obtain ⟨k, rfl⟩ : ∃ q, k = q + 1 := ⟨k - 1, by omega⟩
    have lp : ∀ f, D.ln (powM x f m) ≤ 65536 := fun f => dl_mod hm hl
    have lx : D.ln x ≤ 65536 := Nat.le_trans (dl_mono (Nat.le_of_lt hx)) hl
    have ej : ((j + 1 : Nat) : Int) - 1 = (j : Int) := by omega
    have hw : wrap64 ((j : Int) - 1) = (j : Int) - 1 := wr (by omega) (by omega)
    simp only [Cr.clepsydraref03_power.l0]
    rw [ej, if_pos (by omega), rt (lp _) hl (powM_lt hm), Option.bind_some, powM_sq, rb he j (by omega), Option.bind_some, hw]
    have hs := half_split e j
    have hb := Nat.mod_lt (e / 2 ^ j) (show 0 < 2 by omega)
    clear hw
    by_cases h1 : e / 2 ^ j % 2 = 1
    · rw [if_pos (by rw [h1]; rfl), rt lx hl (powM_lt hm), Option.bind_some]
      have e1 : powM x (2 * (e / 2 ^ (j + 1))) m * x % m = powM x (e / 2 ^ j) m := by
        have := powM_add x (2 * (e / 2 ^ (j + 1))) 1 m
        rw [powM_one, Nat.mod_eq_of_lt hx] at this
        rw [this, hs, h1]
      rw [e1]
      exact ih k (by omega) (by omega)
    · have h0 : e / 2 ^ j % 2 = 0 := by omega
      rw [if_neg (by rw [h0]; decide)]
      have e1 : powM x (2 * (e / 2 ^ (j + 1))) m = powM x (e / 2 ^ j) m := by rw [hs, h0]; rfl
      rw [e1]
      exact ih k (by omega) (by omega)
theorem power_pureR {m x e : Nat} (hm : 0 < m) (hx : x < m) (hl : D.ln m ≤ 65536) (he : D.ln e ≤ 65536) (k : Nat) (hk : 16 * D.ln e < k) : Cr.clepsydraref03_power.f k (ofD x) (ofD e) (ofD m) = some (ofD (powM x e m)) := by
  unfold Cr.clepsydraref03_power.f
  have h1 : 1 < 65536 := by omega
  rw [← ofD_one, rp (Nat.le_trans (dl_small h1) (by omega)) hl hm, Option.bind_some, ofD_length]
  have e1 : wrap64 (16 * ((D.ln e : Nat) : Int)) = ((16 * D.ln e : Nat) : Int) := by unfold wrap64; omega
  have e2 : wrap64 (((16 * D.ln e : Nat) : Int) - 1) = ((16 * D.ln e : Nat) : Int) - 1 := by unfold wrap64; omega
  rw [e1, e2]
  clear e1 e2
  have h := power_l0R (e := e) hm hx hl he (16 * D.ln e) k hk (by omega)
  have hlt : e < 2 ^ (16 * D.ln e) := by rw [← D.wpow]; exact D.lt_ln e
  rw [Nat.div_eq_of_lt hlt] at h
  simp only
  rw [show powM x 0 m = 1 % m by unfold powM; rw [Nat.pow_zero]] at h
  exact h
theorem subM_mod {l s m : Nat} (hl : l < m) (hs : s < m) : (l + m - s) % m = subM l s m := by
  unfold subM
  split
  · exact Nat.mod_eq_of_lt (by omega)
  · rw [Nat.mod_eq_sub_mod (by omega), show l + m - s - m = l - s by omega]; exact Nat.mod_eq_of_lt (by omega)
theorem inverse_l0R {n a G K : Nat} (hn : 0 < n) (hK : K ≤ 16384) (hl : D.ln n ≤ K) : ∀ (r o l x : Nat), D.ln o ≤ K → D.ln r ≤ K → l < n → x < n → Cong n a l o → Cong n a x r → Nat.gcd o r = G →
    ∃ k0, ∀ k, k0 ≤ k → Cr.clepsydraref03_Inverse.l0 k (ofD n) (ofD r) (ofD o) (ofD l) (ofD x) = some (if G = 1 then (ofN (invN a n), 0) else ([], 30)) := by
  intro r
  induction r using Nat.strongRecOn with
  | ind r ih =>
    intro o l x ho hr hlt hxt c1 c2 hg
    have hln : ∀ y, y < n → D.ln y ≤ K := fun y hy => Nat.le_trans (D.ln_mono (Nat.le_of_lt hy)) hl
    by_cases h0 : r = 0
    · refine ⟨D.ln l + 2, fun k hk => ?_⟩
      obtain ⟨k, rfl⟩ : ∃ q, k = q + 1 := ⟨k - 1, by omega⟩
      rw [h0, Nat.gcd_zero_right] at hg
      have hlen : ¬ ((ofD r).length : Int) > 0 := by rw [ofD_length, h0, D.ln_zero]; decide
      have hL := hln l hlt
      simp only [Cr.clepsydraref03_Inverse.l0]
      rw [if_neg hlen, ← ofD_one, rc (by omega) (Nat.le_trans (dl_small (by omega)) (by omega)), Option.bind_some]
      by_cases h1 : o = 1
      · rw [cmpN_eq h1, if_pos rfl, number_pureR _ (by omega) k (by omega), Option.bind_some, if_pos (by omega), invN_eq hlt (cong_gcd c1 h1)]
      · have : cmpN o 1 ≠ 0 := by
          unfold cmpN; split
          · omega
          · rw [if_pos (by omega)]; omega
        rw [if_neg this, if_neg (by omega)]
    · have hp : 0 < r := by omega
      have hm : o / r * x % n < n := Nat.mod_lt _ hn
      have hs := subM_lt hlt hm
      obtain ⟨k0, h⟩ := ih (o % r) (Nat.mod_lt o hp) r x (subM l (o / r * x % n) n) hr (dl_mod hp hr) hxt hs c2 (c1.next c2 hp hn)
        (by rw [← hg, Nat.gcd_comm o r, Nat.gcd_rec r o, Nat.gcd_comm r])
      refine ⟨k0 + 100000, fun k hk => ?_⟩
      obtain ⟨k, rfl⟩ : ∃ q, k = q + 1 := ⟨k - 1, by omega⟩
      have hlen : ((ofD r).length : Int) > 0 := by rw [ofD_length]; have := D.ln_pos h0; omega
      have lq : D.ln (o / r) ≤ K := Nat.le_trans (D.ln_div o r) ho
      have hL := hln l hlt
      have hX := hln x hxt
      have hM := hln _ hm
      obtain ⟨p, hp1, hp2, hp3, hp4⟩ := plus_pureR (D.dgs_b64 l) (D.dgs_b64 n) (M := K) hL hl (by omega) k (by omega)
      rw [D.nv_dgs, D.nv_dgs] at hp4
      simp only [Cr.clepsydraref03_Inverse.l0]
      rw [if_pos hlen, rp (by omega) (by omega) hp, Option.bind_some, rp (by omega) (by omega) hn, Option.bind_some, ofD_eq l, ofD_eq n, hp1, Option.bind_some, ← ofD_eq n]
      simp only
      rw [rt (by omega) (by omega) (Nat.mod_lt _ hn), Option.bind_some, Nat.mod_mul_mod, ofD_eq (o / r * x % n), minus_pureR hp2 (D.dgs_b64 _) (by omega) (by rw [hp4, D.nv_dgs]; omega) k (by omega), Option.bind_some, hp4, D.nv_dgs]
      have lsum : D.ln (l + n - o / r * x % n) ≤ K + 1 := Nat.le_trans (D.ln_mono (Nat.sub_le _ _)) (D.ln_add l n K hL hl)
      rw [rp (by omega) (by omega) hn, Option.bind_some, subM_mod hlt hm]
      exact h k (by omega)
theorem inverse_pureR {a n : List Int} (ha : okN 4096 a) (hn : okN 4096 n) : ∃ k0, ∀ k, k0 ≤ k → Cr.clepsydraref03_Inverse.f k a n = some (invR (nI a) (nI n)) := by
  have la := dl_of_ln (ln_nI ha)
  have lb := dl_of_ln (ln_nI hn)
  obtain ⟨m, hm⟩ : ∃ m, nI n = m := ⟨_, rfl⟩
  obtain ⟨x, hx⟩ : ∃ x, nI a = x := ⟨_, rfl⟩
  rw [hm] at lb
  rw [hx] at la
  rcases Nat.eq_zero_or_pos m with h0 | h0
  · refine ⟨50000, fun k hk => ?_⟩
    unfold Cr.clepsydraref03_Inverse.f invR
    rw [digits_pureR hn (by omega) k (by omega), Option.bind_some, hm, if_pos ((len0 _).2 h0), if_pos h0]
  · obtain ⟨k0, h⟩ := inverse_l0R (a := x) (G := Nat.gcd x m) h0 (K := 16384) (by omega) lb (x % m) m 0 (1 % m) lb (dl_mod h0 lb) h0 (Nat.mod_lt _ h0) (cong_start1 m x) (cong_start2 m x)
      (by rw [Nat.gcd_comm x m, Nat.gcd_rec m x, Nat.gcd_comm m])
    refine ⟨k0 + 50000, fun k hk => ?_⟩
    unfold Cr.clepsydraref03_Inverse.f invR
    rw [digits_pureR hn (by omega) k (by omega), Option.bind_some, hm, if_neg (fun h => by have := (len0 _).1 h; omega), digits_pureR ha (by omega) k (by omega), Option.bind_some, hx, rp (by omega) (by omega) h0, Option.bind_some, ← ofD_one, rp (Nat.le_trans (dl_small (by omega)) (by omega)) (by omega) h0, Option.bind_some, if_neg (show ¬ m = 0 by omega)]
    simp only
    rw [ofD_zero] at h
    exact h k (by omega)
end Go.Proofs.YtdmglajfmfjmlaaGreat
namespace Go.Proofs.YtdmglajfmfjmlaaGreat
set_option linter.unusedSimpArgs false
set_option linter.unusedVariables false
set_option maxRecDepth 100000
open Go.RowKit Go.Proofs.YtdmglajfmfjmlaaGreatW.PrintWords Go.Proofs.YtdmglajfmfjmlaaGreatW.PrintLast Go.Proofs.YtdmglajfmfjmlaaGreatW.PrintMore
theorem cmp_ne0 {a b : Nat} (h : a ≠ b) : cmpN a b ≠ 0 := by
  unfold cmpN; split
  · omega
  · rw [if_pos (by omega)]; omega
theorem tells_l1R {m b : Nat} (hm : 1 < m) (hl : D.ln m ≤ 65536) : ∀ (s e i S : Nat), i + s = S → S ≤ 1048576 → ∀ k, s < k →
    Cr.clepsydraref03_Tells.l1 k (ofD m) (ofD (m - 1)) (S : Int) (ofD (powM b e m)) (i : Int) = some (!sqs b m s e) := by
  intro s
  induction s with
  | zero =>
    intro e i S hi _ k hk
    obtain ⟨k, rfl⟩ : ∃ q, k = q + 1 := ⟨k - 1, by omega⟩
    simp only [Cr.clepsydraref03_Tells.l1]
    rw [if_neg (by omega)]; rfl
  | succ s ih =>
    intro e i S hi hS k hk
    obtain ⟨k, rfl⟩ : ∃ q, k = q + 1 := ⟨k - 1, by omega⟩
    have hm0 : 0 < m := by omega
    have lp : ∀ f, D.ln (powM b f m) ≤ 65536 := fun f => dl_mod hm0 hl
    have l1 : D.ln (m - 1) ≤ 65536 := Nat.le_trans (dl_mono (by omega)) hl
    simp only [Cr.clepsydraref03_Tells.l1]
    rw [if_pos (by omega), rc (lp e) l1, Option.bind_some]
    unfold sqs
    by_cases h : powM b e m = m - 1
    · rw [cmpN_eq h, if_pos rfl, h]; simp
    · have hb : (powM b e m == m - 1) = false := by simpa using h
      rw [if_neg (cmp_ne0 h), rt (lp e) hl (powM_lt hm0), Option.bind_some, powM_sq, w64p (by omega), ih (2 * e) (i + 1) S (by omega) hS k (by omega), hb, Bool.false_or]
theorem digits_one {b : Nat} (hb : b < 18446744073709551616) (k : Nat) (hk : 20 ≤ k) : Cr.clepsydraref03_Digits.f k [(b : Int)] = some (ofD b) := by
  have h : okN 1 [(b : Int)] := ⟨by simp, fun x hx => by rw [List.mem_singleton] at hx; subst hx; omega⟩
  have e : nI [(b : Int)] = b := by unfold nI toN; simp [nv]
  rw [digits_pureR h (by omega) k (by omega), e]
theorem twos_bound {m K : Nat} (h0 : m ≠ 0) (h : D.ln m ≤ K) : twos m < 16 * K := by
  have h1 := twos_lt h0
  have h2 := D.ln_le.1 h
  rw [D.wpow] at h2
  exact (Nat.pow_lt_pow_iff_right (show 1 < 2 by omega)).1 (Nat.lt_of_le_of_lt h1 h2)
theorem tells_l0R {m b : Nat} (hb64 : b < 18446744073709551616) (hm : 2 < m) (ho : m % 2 = 1) (hl : D.ln m ≤ 4096) : ∀ (d j : Nat), j + d = twos (m - 1) → ∃ k0, ∀ k, k0 ≤ k →
    Cr.clepsydraref03_Tells.l0 k (b : Int) (ofD m) (ofD 1) (ofD (m - 1)) (ofD ((m - 1) / 2 ^ j)) (j : Int) = some (if b % m = 0 then false else if powM b ((m - 1) / 2 ^ twos (m - 1)) m = 1 then false else !sqs b m (twos (m - 1)) ((m - 1) / 2 ^ twos (m - 1))) := by
  have hm0 : 0 < m := by omega
  have h0 : m - 1 ≠ 0 := by omega
  have l1 : D.ln (m - 1) ≤ 4096 := Nat.le_trans (dl_mono (by omega)) hl
  have lsh : ∀ j, D.ln ((m - 1) / 2 ^ j) ≤ 4096 := fun j => Nat.le_trans (D.ln_div _ _) l1
  have ts : twos (m - 1) ≤ 65536 := by have := twos_bound h0 l1; omega
  intro d
  induction d with
  | zero =>
    intro j hj
    obtain rfl : j = twos (m - 1) := by omega
    have hbit := (twos_spec h0).2
    refine ⟨16 * 4096 + twos (m - 1) + 100, fun k hk => ?_⟩
    obtain ⟨k, rfl⟩ : ∃ q, k = q + 1 := ⟨k - 1, by omega⟩
    have hbz := rb (a := (m - 1) / 2 ^ twos (m - 1)) (by have := lsh (twos (m - 1)); omega) 0 (by omega)
    rw [Nat.pow_zero, Nat.div_one, hbit] at hbz
    have lb : D.ln b ≤ 65536 := Nat.le_trans (dl_of_ln (ln_small hb64)) (by omega)
    have lsh' := lsh (twos (m - 1))
    simp only [Cr.clepsydraref03_Tells.l0]
    rw [show ((0 : Nat) : Int) = 0 from rfl] at hbz
    rw [hbz, Option.bind_some, if_neg (by decide), digits_one hb64 k (by omega), Option.bind_some, rp lb (by omega) hm0, Option.bind_some]
    simp only
    by_cases hb : b % m = 0
    · rw [if_pos ((len0 _).2 hb), if_pos hb]
    · have lpw : D.ln (powM b ((m - 1) / 2 ^ twos (m - 1)) m) ≤ 4096 := dl_mod hm0 hl
      rw [if_neg (fun h => hb ((len0 _).1 h)), if_neg hb, power_pureR hm0 (Nat.mod_lt _ hm0) (by omega) (by omega) k (by omega), Option.bind_some, powM_mod, rc (by omega) (Nat.le_trans (dl_small (by omega)) (by omega)), Option.bind_some]
      by_cases h1 : powM b ((m - 1) / 2 ^ twos (m - 1)) m = 1
      · rw [cmpN_eq h1, if_pos rfl, if_pos h1]
      · rw [if_neg (cmp_ne0 h1), if_neg h1]
        exact tells_l1R (by omega) (by omega) _ _ 0 _ (by omega) (by omega) k (by omega)
  | succ d ih =>
    intro j hj
    obtain ⟨k0, h⟩ := ih (j + 1) (by omega)
    refine ⟨k0 + 1, fun k hk => ?_⟩
    obtain ⟨k, rfl⟩ : ∃ q, k = q + 1 := ⟨k - 1, by omega⟩
    have hj2 : j < twos (m - 1) := by omega
    have hkk : k0 ≤ k := by omega
    have hj3 : j < 9223372036854775807 := by omega
    have lj := lsh j
    have hbz := rb (a := (m - 1) / 2 ^ j) (by omega) 0 (by omega)
    rw [Nat.pow_zero, Nat.div_one, twos_bit h0 hj2] at hbz
    have hdd : (m - 1) / 2 ^ j / 2 = (m - 1) / 2 ^ (j + 1) := by rw [Nat.div_div_eq_div_mul, ← Nat.pow_succ]
    simp only [Cr.clepsydraref03_Tells.l0]
    rw [show ((0 : Nat) : Int) = 0 from rfl] at hbz
    rw [hbz, Option.bind_some, if_pos rfl, ← ofD_two, rp (by omega) (Nat.le_trans (dl_small (by omega)) (by omega)) (by omega), Option.bind_some, hdd, w64p hj3]
    exact h k hkk
theorem tells_pureR {n : List Int} (hn : okN 1024 n) {b : Nat} (hb : b < 18446744073709551616) : ∃ k0, ∀ k, k0 ≤ k → Cr.clepsydraref03_Tells.f k n (b : Int) = some (tellsN (nI n) b) := by
  have lb := dl_of_ln (ln_nI hn)
  obtain ⟨m, hm⟩ : ∃ m, nI n = m := ⟨_, rfl⟩
  rw [hm] at lb
  have l2 : D.ln 2 ≤ 65536 := Nat.le_trans (dl_small (by omega)) (by omega)
  rcases Nat.lt_trichotomy m 2 with h | h | h
  · refine ⟨50000, fun k hk => ?_⟩
    unfold Cr.clepsydraref03_Tells.f tellsN
    rw [digits_pureR hn (by omega) k (by omega), hm, Option.bind_some, Option.bind_some, ← ofD_two, rc (by omega) l2, Option.bind_some, cmpN_lt h, if_pos (by decide), Option.bind_some, if_pos h]
    rfl
  · refine ⟨50000, fun k hk => ?_⟩
    unfold Cr.clepsydraref03_Tells.f tellsN
    rw [digits_pureR hn (by omega) k (by omega), hm, Option.bind_some, Option.bind_some, ← ofD_two, rc (by omega) l2, Option.bind_some, cmpN_eq h, if_pos (by decide), Option.bind_some, if_neg (by omega), if_pos h]
    rfl
  · have hb0 := rb (a := m) (by omega) 0 (by omega)
    rw [Nat.pow_zero, Nat.div_one, show ((0 : Nat) : Int) = 0 from rfl] at hb0
    by_cases ho : m % 2 = 1
    · obtain ⟨k0, hk⟩ := tells_l0R hb h ho lb (twos (m - 1)) 0 (by omega)
      refine ⟨k0 + 50000, fun k hk0 => ?_⟩
      have hk' := hk k (by omega)
      rw [Nat.pow_zero, Nat.div_one, show ((0 : Nat) : Int) = 0 from rfl] at hk'
      have hmin := minus_pureR (D.dgs_b64 m) (D.dgs_b64 1) (by have : (D.dgs m).length ≤ 4096 := lb
                                                               omega) (by rw [D.nv_dgs, D.nv_dgs]; omega) k (by have : (D.dgs m).length ≤ 4096 := lb
                                                                                                                omega)
      rw [← ofD_eq, ← ofD_eq, D.nv_dgs, D.nv_dgs] at hmin
      unfold Cr.clepsydraref03_Tells.f tellsN
      rw [digits_pureR hn (by omega) k (by omega), hm, Option.bind_some, Option.bind_some, ← ofD_two, ← ofD_one, rc (by omega) l2, Option.bind_some, cmpN_gt h, if_neg (by decide), hb0, ho, Option.bind_some, if_neg (by decide), hmin, Option.bind_some, hk', if_neg (show ¬ m < 2 by omega), if_neg (show ¬ m = 2 by omega), if_neg (show ¬ (1 : Nat) = 0 by decide)]
    · refine ⟨50000, fun k hk => ?_⟩
      unfold Cr.clepsydraref03_Tells.f tellsN
      rw [digits_pureR hn (by omega) k (by omega), hm, Option.bind_some, Option.bind_some, ← ofD_two, ← ofD_one, rc (by omega) l2, Option.bind_some, cmpN_gt h, if_neg (by decide), hb0, show m % 2 = 0 by omega, Option.bind_some, if_pos (show ((0 : Nat) : Int) = 0 from rfl), if_neg (show ¬ m < 2 by omega), if_neg (show ¬ m = 2 by omega), if_pos rfl]
theorem prime_l0R {n bs : List Int} (hn : okN 1024 n) (hb : ∀ x ∈ bs, 0 ≤ x ∧ x < 18446744073709551616) (hl : bs.length < 1099511627776) : ∀ (d i : Nat), i + d = bs.length → ∃ k0, ∀ k, k0 ≤ k →
    Cr.clepsydraref03_Prime.l0 k n bs (i : Int) = some (((toN bs).drop i).all fun b => !tellsN (nI n) b) := by
  intro d
  induction d with
  | zero =>
    intro i hi
    refine ⟨1, fun k hk => ?_⟩
    obtain ⟨k, rfl⟩ : ∃ q, k = q + 1 := ⟨k - 1, by omega⟩
    simp only [Cr.clepsydraref03_Prime.l0]
    rw [if_neg (by omega), List.drop_eq_nil_of_le (by rw [toN_length]; omega)]; rfl
  | succ d ih =>
    intro i hi
    obtain ⟨k0, h⟩ := ih (i + 1) (by omega)
    have hil : i < (toN bs).length := by rw [toN_length]; omega
    have hx : rd bs (i : Int) = (((toN bs)[i] : Nat) : Int) := by
      have h1 := cI_toN (l := bs) (fun x hx => (hb x hx).1)
      conv => lhs; rw [← h1]
      rw [rd_cI, gd_lt hil]
    have hlt : (toN bs)[i] < 18446744073709551616 := by
      have := List.getElem_mem hil
      simp only [toN, List.mem_map] at this
      obtain ⟨y, hy, e⟩ := this
      have := hb y hy
      simp only [toN, ← e]; omega
    obtain ⟨k1, h1⟩ := tells_pureR hn hlt
    refine ⟨k0 + k1 + 1, fun k hk => ?_⟩
    obtain ⟨k, rfl⟩ : ∃ q, k = q + 1 := ⟨k - 1, by omega⟩
    simp only [Cr.clepsydraref03_Prime.l0]
    rw [if_pos (by omega), if_pos (by omega), hx, h1 k (by omega), Option.bind_some, w64p (by omega), List.drop_eq_getElem_cons hil, List.all_cons, h k (by omega)]
    cases tellsN (nI n) ((toN bs)[i]) <;> simp
theorem prime_pureR {n bs : List Int} (hn : okN 1024 n) (hb : ∀ x ∈ bs, 0 ≤ x ∧ x < 18446744073709551616) (hl : bs.length < 1099511627776) : ∃ k0, ∀ k, k0 ≤ k → Cr.clepsydraref03_Prime.f k n bs = some (primeN (nI n) (toN bs)) := by
  obtain ⟨k0, h⟩ := prime_l0R hn hb hl bs.length 0 (by omega)
  have lb := dl_of_ln (ln_nI hn)
  refine ⟨k0 + 50000, fun k hk => ?_⟩
  have hk' := h k (by omega)
  rw [show ((0 : Nat) : Int) = 0 from rfl, List.drop_zero] at hk'
  unfold Cr.clepsydraref03_Prime.f primeN
  rw [digits_pureR hn (by omega) k (by omega), Option.bind_some, ← ofD_two, rc (by omega) (Nat.le_trans (dl_small (by omega)) (by omega)), Option.bind_some, hk']
  by_cases h2 : nI n < 2
  · rw [cmpN_lt h2, if_pos (by decide), if_pos h2]
  · have : ¬ cmpN (nI n) 2 < 0 := by
      unfold cmpN; rw [if_neg h2]; split <;> omega
    rw [if_neg this, if_neg h2]
section
variable {A0 A1 A2 : Option Addr} {c0 c1 c2 : Nat} {l0 l1 l2 : List Int} {w : World}
theorem inverse3_giv {r1 : List Int} {r2 : Int} (hr0 : Kd.C (Kd.int .u64) w A0 l0.length l0) (hc0 : l0.length ≤ c0) (hr1 : Kd.C (Kd.int .u64) w A1 l1.length l1) (hc1 : l1.length ≤ c1) (h : (if okN 4096 l0 ∧ okN 4096 l1 then some (invR (nI l0) (nI l1)) else none) = some (r1, r2)) :
    Calls Tryz.prog 69 #[.slice A0 l0.length c0, .slice A1 l1.length c1] w fun e w' => ∃ v0_ : Value, e = .returned (.tuple #[v0_, .int .i64 r2]) ∧ Kd.R (Kd.int .u64) 23 w' w.heap.size (fun _ => True) v0_ r1 ∧ Below w.heap.size w w' := by
  obtain ⟨⟨h0, h1⟩, h⟩ := of_ite h
  obtain ⟨k, hk⟩ := inverse_pureR h0 h1
  exact Cr.clepsydraref03_Inverse.calls k _ _ _ _ _ _ _ _ _ hr0 hc0 hr1 hc1 ((hk k (Nat.le_refl _)).trans (congrArg some h))
theorem prime3_giv {r : Bool} (hr0 : Kd.C (Kd.int .u64) w A0 l0.length l0) (hc0 : l0.length ≤ c0) (hr1 : Kd.C (Kd.int .u64) w A1 l1.length l1) (hc1 : l1.length ≤ c1) (h : (if okN 1024 l0 ∧ okN 1048576 l1 then some (primeN (nI l0) (toN l1)) else none) = some r) :
    Calls Tryz.prog 67 #[.slice A0 l0.length c0, .slice A1 l1.length c1] w fun e w' => e = .returned (.bool r) ∧ Below w.heap.size w w' := by
  obtain ⟨⟨h0, h1⟩, rfl⟩ := of_ite h
  obtain ⟨k, hk⟩ := prime_pureR h0 h1.2 (by have := h1.1; omega)
  exact Cr.clepsydraref03_Prime.calls k _ _ _ _ _ _ _ _ hr0 hc0 hr1 hc1 (hk k (Nat.le_refl _))
end
end Go.Proofs.YtdmglajfmfjmlaaGreat
namespace Go.Proofs.YtdmglajfmfjmlaaGreat.Cz
open Go.RowKit Go.Proofs.YtdmglajfmfjmlaaGreatW.PrintWords Go.Proofs.YtdmglajfmfjmlaaGreatW.PrintLast Go.Proofs.YtdmglajfmfjmlaaGreatW.PrintMore
attribute [local go_sem] max2_int min2_int max_two min_two max_three min_three max_four min_four   -- for this text's walks alone
set_option linter.unusedVariables false
set_option linter.unusedSimpArgs false
theorem info23 : (Tryz.prog.info? 23).map (fun i => (i.zero, i.size, i.bytes)) = some (some (.int .u64 0), 1, 8) := by kernel_rfl
end Go.Proofs.YtdmglajfmfjmlaaGreat.Cz
namespace Go.Proofs.YtdmglajfmfjmlaaGreat.Cz
open Go.RowKit Go.Proofs.YtdmglajfmfjmlaaGreatW.PrintWords Go.Proofs.YtdmglajfmfjmlaaGreatW.PrintLast Go.Proofs.YtdmglajfmfjmlaaGreatW.PrintMore
attribute [local go_sem] max2_int min2_int max_two min_two max_three min_three max_four min_four   -- for this text's walks alone
set_option linter.unusedVariables false
set_option linter.unusedSimpArgs false
def clepsydraref01_Bits.f (l0 : List Int) : Option (Int) := if okN 262144 l0 then some ((blen (nI l0) : Nat) : Int) else none
theorem clepsydraref01_Bits.calls (A0 : Option Addr) (c0 : Nat) (l0 : List Int) (r : Int) (w : World) (hr0 : Kd.C (Kd.int .u64) w A0 l0.length l0) (hc0 : l0.length ≤ c0) (h : clepsydraref01_Bits.f l0 = some r) :
  Calls Tryz.prog 65 #[.slice A0 l0.length c0] w fun e w' => e = .returned (.int .i64 r) ∧ Below w.heap.size w w' := by
 exact rbits_giv hr0 hc0 h
def clepsydraref01_Cmp.f (l0 : List Int) (l1 : List Int) : Option (Int) := if okN 262144 l0 ∧ okN 262144 l1 then some (cmpN (nI l0) (nI l1)) else none
theorem clepsydraref01_Cmp.calls (A0 : Option Addr) (c0 : Nat) (l0 : List Int) (A1 : Option Addr) (c1 : Nat) (l1 : List Int) (r : Int) (w : World) (hr0 : Kd.C (Kd.int .u64) w A0 l0.length l0) (hc0 : l0.length ≤ c0) (hr1 : Kd.C (Kd.int .u64) w A1 l1.length l1) (hc1 : l1.length ≤ c1) (h : clepsydraref01_Cmp.f l0 l1 = some r) :
  Calls Tryz.prog 66 #[.slice A0 l0.length c0, .slice A1 l1.length c1] w fun e w' => e = .returned (.int .i64 r) ∧ Below w.heap.size w w' := by
 exact rcmp_giv hr0 hc0 hr1 hc1 h
def clepsydraref03_Prime.f (l0 : List Int) (l1 : List Int) : Option (Bool) := if okN 1024 l0 ∧ okN 1048576 l1 then some (primeN (nI l0) (toN l1)) else none
theorem clepsydraref03_Prime.calls (A0 : Option Addr) (c0 : Nat) (l0 : List Int) (A1 : Option Addr) (c1 : Nat) (l1 : List Int) (r : Bool) (w : World) (hr0 : Kd.C (Kd.int .u64) w A0 l0.length l0) (hc0 : l0.length ≤ c0) (hr1 : Kd.C (Kd.int .u64) w A1 l1.length l1) (hc1 : l1.length ≤ c1) (h : clepsydraref03_Prime.f l0 l1 = some r) :
  Calls Tryz.prog 67 #[.slice A0 l0.length c0, .slice A1 l1.length c1] w fun e w' => e = .returned (.bool r) ∧ Below w.heap.size w w' := by
 exact prime3_giv hr0 hc0 hr1 hc1 h
def clepsydraref05_Bases.f  : Option (List Int) := some (([2, 3, 5, 7, 11, 13, 17, 19, 23, 29, 31, 37] : List Int))
set_option maxHeartbeats 8000000 in
set_option maxRecDepth 100000 in
theorem clepsydraref05_Bases.calls  (r : List Int) (w : World) (h : clepsydraref05_Bases.f  = some r) :
  Calls Tryz.prog 68 #[] w fun e w' => ∃ v0_ : Value, e = .returned (v0_) ∧ Kd.R (Kd.int .u64) 23 w' w.heap.size (fun _ => True) v0_ r ∧ Below w.heap.size w w' := by
 have HB := Aside0.mk (Below.refl w.heap.size w)
 have H : (some (([2, 3, 5, 7, 11, 13, 17, 19, 23, 29, 31, 37] : List Int))) = some r := h
 clear h
 obtain ⟨y101, hy101⟩ : ∃ y_ : List Int, y_ = (([2, 3, 5, 7, 11, 13, 17, 19, 23, 29, 31, 37] : List Int)) := ⟨_, rfl⟩
 rw [← hy101] at H
 have Ny101 := Aside0.mk hy101
 clear hy101
 obtain rfl := Option.some.inj H
 simp only [Option.some.injEq, Prod.mk.injEq] at H
 obtain ⟨rfl⟩ := H
 go_enter Tryz.func68, Tryz.ntmps68
 go_wp2_with ((((with_reducible refine gate_dst (N := 1) rfl ?_); refine Kd.R_lit (Kd.int .u64) _ 23 ?hg (N := 1) ?hd (xs := ([2, 3, 5, 7, 11, 13, 17, 19, 23, 29, 31, 37] : List Int)) (inner := [.int .u64 2, .int .u64 3, .int .u64 5, .int .u64 7, .int .u64 11, .int .u64 13, .int .u64 17, .int .u64 19, .int .u64 23, .int .u64 29, .int .u64 31, .int .u64 37]) (ok := fun _ => True) (okp := fun _ => True) ?hr ?hp (fun _ hk => hk) trivial (Below.refl _ _) (Nat.le_refl _) (by simp) ?_; (case hd => rfl); (case hg => rfl); (case hr => (go_simp; done)); (case hp => exact (Reps.one (show Kd.M (Kd.int .u64) _ _ _ 2 [.int .u64 2] from rfl) (Reps.one (show Kd.M (Kd.int .u64) _ _ _ 3 [.int .u64 3] from rfl) (Reps.one (show Kd.M (Kd.int .u64) _ _ _ 5 [.int .u64 5] from rfl) (Reps.one (show Kd.M (Kd.int .u64) _ _ _ 7 [.int .u64 7] from rfl) (Reps.one (show Kd.M (Kd.int .u64) _ _ _ 11 [.int .u64 11] from rfl) (Reps.one (show Kd.M (Kd.int .u64) _ _ _ 13 [.int .u64 13] from rfl) (Reps.one (show Kd.M (Kd.int .u64) _ _ _ 17 [.int .u64 17] from rfl) (Reps.one (show Kd.M (Kd.int .u64) _ _ _ 19 [.int .u64 19] from rfl) (Reps.one (show Kd.M (Kd.int .u64) _ _ _ 23 [.int .u64 23] from rfl) (Reps.one (show Kd.M (Kd.int .u64) _ _ _ 29 [.int .u64 29] from rfl) (Reps.one (show Kd.M (Kd.int .u64) _ _ _ 31 [.int .u64 31] from rfl) (Reps.one (show Kd.M (Kd.int .u64) _ _ _ 37 [.int .u64 37] from rfl) (Reps.none _ _)))))))))))))); intro v102 w1 ho2 hb hg_ hnew_; clear hg_ hnew_; ((rw [← Ny101.out] at ho2)); have HO103 := Aside0.mk (Kd.R_lower ho2 (below_size HB.out)); replace HB := Aside0.mk (below_step HB.out hb); clear hb ho2)))
 go_ret
 exact ⟨_, by rfl, by exact HO103.out, HB.out⟩
def clepsydraref03_Inverse.f (l0 : List Int) (l1 : List Int) : Option (List Int × Int) := if okN 4096 l0 ∧ okN 4096 l1 then some (invR (nI l0) (nI l1)) else none
theorem clepsydraref03_Inverse.calls (A0 : Option Addr) (c0 : Nat) (l0 : List Int) (A1 : Option Addr) (c1 : Nat) (l1 : List Int) (r1 : List Int) (r2 : Int) (w : World) (hr0 : Kd.C (Kd.int .u64) w A0 l0.length l0) (hc0 : l0.length ≤ c0) (hr1 : Kd.C (Kd.int .u64) w A1 l1.length l1) (hc1 : l1.length ≤ c1) (h : clepsydraref03_Inverse.f l0 l1 = some (r1, r2)) :
  Calls Tryz.prog 69 #[.slice A0 l0.length c0, .slice A1 l1.length c1] w fun e w' => ∃ v0_ : Value, e = .returned (.tuple #[v0_, .int .i64 r2]) ∧ Kd.R (Kd.int .u64) 23 w' w.heap.size (fun _ => True) v0_ r1 ∧ Below w.heap.size w w' := by
 exact inverse3_giv hr0 hc0 hr1 hc1 h
def clepsydraref01_Trim.f (l0 : List Int) : Option (List Int) := if okN 262144 l0 then some (ofN (nI l0)) else none
theorem clepsydraref01_Trim.calls (A0 : Option Addr) (c0 : Nat) (l0 : List Int) (r : List Int) (w : World) (hr0 : Kd.C (Kd.int .u64) w A0 l0.length l0) (hc0 : l0.length ≤ c0) (h : clepsydraref01_Trim.f l0 = some r) :
  Calls Tryz.prog 185 #[.slice A0 l0.length c0] w fun e w' => ∃ v0_ : Value, e = .returned (v0_) ∧ Kd.R (Kd.int .u64) 23 w' w.heap.size (fun _ => True) v0_ r ∧ Below w.heap.size w w' := by
 exact rtrim_giv hr0 hc0 h
def clepsydraref01_Of.f (a0 : Int) : Option (List Int) := if ([] : List Int).length < 17592186044416 then ((clepsydraref01_Trim.f (([] : List Int) ++ [a0])).bind fun t107 => (some t107)) else (none)
set_option maxHeartbeats 8000000 in
set_option maxRecDepth 100000 in
theorem clepsydraref01_Of.calls (a0 : Int) (r : List Int) (w : World) (h : clepsydraref01_Of.f a0 = some r) :
  Calls Tryz.prog 144 #[.int .u64 a0] w fun e w' => ∃ v0_ : Value, e = .returned (v0_) ∧ Kd.R (Kd.int .u64) 23 w' w.heap.size (fun _ => True) v0_ r ∧ Below w.heap.size w w' := by
 have HB := Aside0.mk (Below.refl w.heap.size w)
 have H : (if ([] : List Int).length < 17592186044416 then ((clepsydraref01_Trim.f (([] : List Int) ++ [a0])).bind fun t107 => (some t107)) else (none)) = some r := h
 clear h
 by_cases c2 : ([] : List Int).length < 17592186044416
 ·rw [if_pos c2] at H
  have LMc2 := Aside0.mk c2
  clear c2
  obtain ⟨y104, hy104⟩ : ∃ y_ : List Int, y_ = (([] : List Int) ++ [a0]) := ⟨_, rfl⟩
  rw [← hy104] at H
  have Ny104 := Aside0.mk hy104
  clear hy104
  replace H := Option.bind_eq_some_iff.mp H
  obtain ⟨t107, A30, H⟩ := H
  try dsimp only at H
  have A3 := Aside0.mk A30
  clear A30
  obtain rfl := Option.some.inj H
  simp only [Option.some.injEq, Prod.mk.injEq] at H
  obtain ⟨rfl⟩ := H
  go_enter Tryz.func144, Tryz.ntmps144
  go_wp2_with (first | ((with_reducible refine gate_builtin (b := .append) (xs := #[.tmp 4, .tmp 6]) rfl ?_); at_builtin; refine Kd.R_append (Kd.int .u64) (w0 := w) w.heap.size rfl (.tmp 4) (.tmp 6) 22 23 (.int .u64 0) 8 rfl Tryz.underlying22 info23 rfl (by decide) (by omega) (.slice none 0 0) ([] : List Int) a0 [.int .u64 a0] (fun _ => True) (fun _ => False) rfl rfl ?aP (fun _ hk => hk.elim) ?aF ?aO ?aB ?aS ?aL ?_; (case aP => exact rfl); (case aB => exact HB.out); (case aF => exact (fun _ _ => trivial)); (case aO => exact ((Kd.R_nil _ _ _ _ (fun _ => True)))); (case aS => exact (below_size HB.out)); (case aL => have := LMc2.out; omega); intro v105 w4 ho hb hg hat; rw [← Ny104.out] at ho; replace HB := Aside0.mk (hb); have HO106 := Aside0.mk (ho); clear ho hb hg hat; obtain ⟨Ao5, co5, eo5⟩ := Kd.R_slice HO106.out; subst eo5) | ((with_reducible refine gate_callee (f := 185) rfl ?_); refine goesL_ (some 9) rfl rfl Tryz.func185 (by kernel_rfl) rfl #[.slice Ao5 y104.length co5] rfl (by (try simp only [List.map_toArray, List.map_cons, List.map_nil]); rfl) ?_; (with_reducible refine (clepsydraref01_Trim.calls _ _ y104 t107 _ ?side1 ?side2 A3.out).mono ?_); (case side1 => exact (Kd.R_reads' HO106.out).2.2); (case side2 => exact (Kd.R_reads' HO106.out).2.1); rintro e w6 ⟨v108, rfl, ho0, hb⟩; refine ⟨_, rfl, ?_⟩; have HO109 := Aside0.mk (Kd.R_lower (Kd.R_new' ho0 (Kd.R_lt HO106.out)) (below_size HB.out)); replace HO106 := Aside0.mk (Kd.R_elder' HO106.out (Kd.R_base ho0) hb); replace HB := Aside0.mk (below_step HB.out hb); clear hb ho0))
  go_ret
  exact ⟨_, by rfl, by exact Kd.R_mono HO109.out (fun _ hk => trivial), HB.out⟩
 ·rw [if_neg c2] at H
  exact absurd H (by simp)
def clepsydraref05_small.f (a0 : Int) : Option (List Int) := (clepsydraref01_Of.f a0).bind fun t110 => (some t110)
set_option maxHeartbeats 8000000 in
set_option maxRecDepth 100000 in
theorem clepsydraref05_small.calls (a0 : Int) (r : List Int) (w : World) (h : clepsydraref05_small.f a0 = some r) :
  Calls Tryz.prog 70 #[.int .u64 a0] w fun e w' => ∃ v0_ : Value, e = .returned (v0_) ∧ Kd.R (Kd.int .u64) 23 w' w.heap.size (fun _ => True) v0_ r ∧ Below w.heap.size w w' := by
 have HB := Aside0.mk (Below.refl w.heap.size w)
 have H : ((clepsydraref01_Of.f a0).bind fun t110 => (some t110)) = some r := h
 clear h
 replace H := Option.bind_eq_some_iff.mp H
 obtain ⟨t110, A20, H⟩ := H
 try dsimp only at H
 have A2 := Aside0.mk A20
 clear A20
 obtain rfl := Option.some.inj H
 simp only [Option.some.injEq, Prod.mk.injEq] at H
 obtain ⟨rfl⟩ := H
 go_enter Tryz.func70, Tryz.ntmps70
 go_wp2_with ((((with_reducible refine gate_callee (f := 144) rfl ?_); refine goesL_ (some 4) rfl rfl Tryz.func144 (by kernel_rfl) rfl #[.int .u64 a0] rfl (by (try simp only [List.map_toArray, List.map_cons, List.map_nil]); rfl) ?_; (with_reducible refine (clepsydraref01_Of.calls a0 t110 _ A2.out).mono ?_); rintro e w3 ⟨v111, rfl, ho0, hb⟩; refine ⟨_, rfl, ?_⟩; have HO112 := Aside0.mk (Kd.R_lower ho0 (below_size HB.out)); replace HB := Aside0.mk (below_step HB.out hb); clear hb ho0)))
 go_ret
 exact ⟨_, by rfl, by exact HO112.out, HB.out⟩
def clepsydraref01_Mul.f (l0 : List Int) (l1 : List Int) : Option (List Int) := if okN 262144 l0 ∧ okN 262144 l1 then some (ofN (nI l0 * nI l1)) else none
theorem clepsydraref01_Mul.calls (A0 : Option Addr) (c0 : Nat) (l0 : List Int) (A1 : Option Addr) (c1 : Nat) (l1 : List Int) (r : List Int) (w : World) (hr0 : Kd.C (Kd.int .u64) w A0 l0.length l0) (hc0 : l0.length ≤ c0) (hr1 : Kd.C (Kd.int .u64) w A1 l1.length l1) (hc1 : l1.length ≤ c1) (h : clepsydraref01_Mul.f l0 l1 = some r) :
  Calls Tryz.prog 71 #[.slice A0 l0.length c0, .slice A1 l1.length c1] w fun e w' => ∃ v0_ : Value, e = .returned (v0_) ∧ Kd.R (Kd.int .u64) 23 w' w.heap.size (fun _ => True) v0_ r ∧ Below w.heap.size w w' := by
 exact rmul_giv hr0 hc0 hr1 hc1 h
def clepsydraref01_Sub.f (l0 : List Int) (l1 : List Int) : Option (List Int × Int) := if okN 262144 l0 ∧ okN 262144 l1 then some (ofN (nI l0 - nI l1), (if nI l0 < nI l1 then 10 else 0 : Int)) else none
theorem clepsydraref01_Sub.calls (A0 : Option Addr) (c0 : Nat) (l0 : List Int) (A1 : Option Addr) (c1 : Nat) (l1 : List Int) (r1 : List Int) (r2 : Int) (w : World) (hr0 : Kd.C (Kd.int .u64) w A0 l0.length l0) (hc0 : l0.length ≤ c0) (hr1 : Kd.C (Kd.int .u64) w A1 l1.length l1) (hc1 : l1.length ≤ c1) (h : clepsydraref01_Sub.f l0 l1 = some (r1, r2)) :
  Calls Tryz.prog 113 #[.slice A0 l0.length c0, .slice A1 l1.length c1] w fun e w' => ∃ v0_ : Value, e = .returned (.tuple #[v0_, .int .i64 r2]) ∧ Kd.R (Kd.int .u64) 23 w' w.heap.size (fun _ => True) v0_ r1 ∧ Below w.heap.size w w' := by
 exact rsub_giv hr0 hc0 hr1 hc1 h
def clepsydraref05_less.f (l0 : List Int) : Option (List Int) := (clepsydraref05_small.f 1).bind fun t113 => ((clepsydraref01_Sub.f l0 t113).bind fun bt116 => (some bt116.1))
set_option maxHeartbeats 8000000 in
set_option maxRecDepth 100000 in
theorem clepsydraref05_less.calls (A0 : Option Addr) (c0 : Nat) (l0 : List Int) (r : List Int) (w : World) (hr0 : Kd.C (Kd.int .u64) w A0 l0.length l0) (hc0 : l0.length ≤ c0) (h : clepsydraref05_less.f l0 = some r) :
  Calls Tryz.prog 72 #[.slice A0 l0.length c0] w fun e w' => ∃ v0_ : Value, e = .returned (v0_) ∧ Kd.R (Kd.int .u64) 23 w' w.heap.size (fun _ => True) v0_ r ∧ Below w.heap.size w w' := by
 have HR0 := Aside0.mk hr0
 have HC0 := Aside0.mk hc0
 clear hr0 hc0
 have HB := Aside0.mk (Below.refl w.heap.size w)
 have H : ((clepsydraref05_small.f 1).bind fun t113 => ((clepsydraref01_Sub.f l0 t113).bind fun bt116 => (some bt116.1))) = some r := h
 clear h
 replace H := Option.bind_eq_some_iff.mp H
 obtain ⟨t113, A20, H⟩ := H
 try dsimp only at H
 have A2 := Aside0.mk A20
 clear A20
 replace H := Option.bind_eq_some_iff.mp H
 obtain ⟨⟨t116, t117⟩, A30, H⟩ := H
 try dsimp only at H
 have A3 := Aside0.mk A30
 clear A30
 obtain rfl := Option.some.inj H
 simp only [Option.some.injEq, Prod.mk.injEq] at H
 obtain ⟨rfl⟩ := H
 go_enter Tryz.func72, Tryz.ntmps72
 go_wp2_with (first | ((with_reducible refine gate_callee (f := 70) rfl ?_); refine goesL_ (some 7) rfl rfl Tryz.func70 (by kernel_rfl) rfl #[.int .u64 1] rfl (by (try simp only [List.map_toArray, List.map_cons, List.map_nil]); rfl) ?_; (with_reducible refine (clepsydraref05_small.calls 1 t113 _ A2.out).mono ?_); rintro e w4 ⟨v114, rfl, ho0, hb⟩; refine ⟨_, rfl, ?_⟩; have HO115 := Aside0.mk (Kd.R_lower ho0 (below_size HB.out)); replace HB := Aside0.mk (below_step HB.out hb); clear hb ho0; obtain ⟨Ao5, co5, eo5⟩ := Kd.R_slice HO115.out; subst eo5) | ((with_reducible refine gate_callee (f := 113) rfl ?_); refine goesL_ (some 8) rfl rfl Tryz.func113 (by kernel_rfl) rfl #[.slice A0 l0.length c0, .slice Ao5 t113.length co5] rfl (by (try simp only [List.map_toArray, List.map_cons, List.map_nil]); rfl) ?_; (with_reducible refine (clepsydraref01_Sub.calls _ _ l0 _ _ t113 t116 t117 _ ?side1 ?side2 ?side3 ?side4 A3.out).mono ?_); (case side1 => exact (Kd.C_below HR0.out HB.out)); (case side2 => exact HC0.out); (case side3 => exact (Kd.R_reads' HO115.out).2.2); (case side4 => exact (Kd.R_reads' HO115.out).2.1); rintro e w6 ⟨v118, rfl, ho0, hb⟩; refine ⟨_, rfl, ?_⟩; have HO119 := Aside0.mk (Kd.R_lower (Kd.R_new' ho0 (Kd.R_lt HO115.out)) (below_size HB.out)); replace HO115 := Aside0.mk (Kd.R_elder' HO115.out (Kd.R_base ho0) hb); replace HB := Aside0.mk (below_step HB.out hb); clear hb ho0))
 go_ret
 exact ⟨_, by rfl, by exact Kd.R_mono HO119.out (fun _ hk => trivial), HB.out⟩
def clepsydraref01_Bit.f (l0 : List Int) (a1 : Int) : Option (Int) := if okN 262144 l0 then some (if a1 < 0 then 0 else ((nI l0 / 2 ^ a1.toNat % 2 : Nat) : Int)) else none
theorem clepsydraref01_Bit.calls (A0 : Option Addr) (c0 : Nat) (l0 : List Int) (a1 : Int) (r : Int) (w : World) (hr0 : Kd.C (Kd.int .u64) w A0 l0.length l0) (hc0 : l0.length ≤ c0) (h : clepsydraref01_Bit.f l0 a1 = some r) :
  Calls Tryz.prog 148 #[.slice A0 l0.length c0, .int .i64 a1] w fun e w' => e = .returned (.int .i64 r) ∧ Below w.heap.size w w' := by
 exact rbit_giv hr0 hc0 h
end Go.Proofs.YtdmglajfmfjmlaaGreat.Cz
namespace Go.Proofs.YtdmglajfmfjmlaaGreat.Cz
open Go.RowKit Go.Proofs.YtdmglajfmfjmlaaGreatW.PrintWords Go.Proofs.YtdmglajfmfjmlaaGreatW.PrintLast Go.Proofs.YtdmglajfmfjmlaaGreatW.PrintMore
attribute [local go_sem] max2_int min2_int max_two min_two max_three min_three max_four min_four   -- for this text's walks alone
set_option linter.unusedVariables false
set_option linter.unusedSimpArgs false
mutual
def clepsydraref05_Right.j0 : Nat → Bool → List Int → List Int → List Int → Option (Int)
 | 0, _, _, _, _ => none
 | k + 1, x18, x121000, x121001, x121002 => if x18 = true then (some 50) else ((clepsydraref01_Bit.f x121001 0).bind fun t123 => (if t123 = 0 then (clepsydraref05_Right.j1 k true x121000 x121001 x121002) else ((clepsydraref05_small.f 1).bind fun t124 => ((clepsydraref01_Cmp.f x121001 t124).bind fun t127 => (if t127 = 0 then (clepsydraref05_Right.j1 k true x121000 x121001 x121002) else ((clepsydraref01_Cmp.f x121001 x121000).bind fun t128 => (clepsydraref05_Right.j1 k (decide (t128 ≥ 0)) x121000 x121001 x121002)))))))
def clepsydraref05_Right.j1 : Nat → Bool → List Int → List Int → List Int → Option (Int)
 | 0, _, _, _, _ => none
 | k + 1, x37, x121000, x121001, x121002 => if x37 = true then (some 50) else ((clepsydraref01_Cmp.f x121002 x121000).bind fun t129 => (if t129 ≥ 0 then (some 50) else (some 0)))
end
def clepsydraref05_Right.f (k : Nat) (l0_0 : List Int) (l0_1 : List Int) (l0_2 : List Int) : Option (Int) := (clepsydraref01_Bits.f l0_0).bind fun t121 => (if t121 < 16 then (clepsydraref05_Right.j0 k true l0_0 l0_1 l0_2) else (if t121 > 1024 then (clepsydraref05_Right.j0 k true l0_0 l0_1 l0_2) else ((clepsydraref01_Bit.f l0_0 0).bind fun t122 => (clepsydraref05_Right.j0 k (t122 == 0) l0_0 l0_1 l0_2))))
def clepsydraref05_Right.T4 : Bool × List (List Nat × List Nat) := (true, [([], []), ([0], [0]), ([1], [1]), ([2], [2]), ([3, 2], [3]), ([4], [4]), ([5, 4], [4, 5]), ([4, 4], [4]), ([6, 7, 7, 4], [4, 6, 7]), ([8, 4], [4, 8]), ([4, 9], [4, 9]), ([10, 8], [10]), ([11], [11]), ([12, 11], [11, 12]), ([11], [11]), ([14, 11], [11, 14]), ([13, 15, 11, 11], [11, 13, 15]), ([16, 11], [11, 16]), ([11, 17], [11, 17])])
def clepsydraref05_Right.B4 : List Nat := [0, 1, 3, 7, 15, 31, 63, 31, 255, 511, 1023, 2047, 4095, 8191, 4095, 20479, 65535, 131071, 262143]
theorem clepsydraref05_Right.tab4 : rtab .any (opsOf Tryz.f73 4) = clepsydraref05_Right.T4 := by kernel_rfl
theorem clepsydraref05_Right.bits4 : waitsOk clepsydraref05_Right.T4.2 clepsydraref05_Right.B4 = true := by kernel_rfl
set_option maxHeartbeats 8000000 in
set_option maxRecDepth 100000 in
theorem clepsydraref05_Right.calls (k : Nat) (A0_0 : Option Addr) (c0_0 : Nat) (l0_0 : List Int) (A0_1 : Option Addr) (c0_1 : Nat) (l0_1 : List Int) (A0_2 : Option Addr) (c0_2 : Nat) (l0_2 : List Int) (r : Int) (w : World) (hr0_0 : Kd.C (Kd.int .u64) w A0_0 l0_0.length l0_0) (hc0_0 : l0_0.length ≤ c0_0) (hr0_1 : Kd.C (Kd.int .u64) w A0_1 l0_1.length l0_1) (hc0_1 : l0_1.length ≤ c0_1) (hr0_2 : Kd.C (Kd.int .u64) w A0_2 l0_2.length l0_2) (hc0_2 : l0_2.length ≤ c0_2) (h : clepsydraref05_Right.f k l0_0 l0_1 l0_2 = some r) :
  Calls Tryz.prog 73 #[.agg #[.slice A0_0 l0_0.length c0_0, .slice A0_1 l0_1.length c0_1, .slice A0_2 l0_2.length c0_2]] w fun e w' => e = .returned (.int .i64 r) ∧ Below w.heap.size w w' := by
 have hu26 := Tryz.underlying26
 have HR0_0 := Aside0.mk hr0_0
 have HC0_0 := Aside0.mk hc0_0
 clear hr0_0 hc0_0
 have HR0_1 := Aside0.mk hr0_1
 have HC0_1 := Aside0.mk hc0_1
 clear hr0_1 hc0_1
 have HR0_2 := Aside0.mk hr0_2
 have HC0_2 := Aside0.mk hc0_2
 clear hr0_2 hc0_2
 have HB := Aside0.mk (Below.refl w.heap.size w)
 have H : ((clepsydraref01_Bits.f l0_0).bind fun t121 => (if t121 < 16 then (clepsydraref05_Right.j0 k true l0_0 l0_1 l0_2) else (if t121 > 1024 then (clepsydraref05_Right.j0 k true l0_0 l0_1 l0_2) else ((clepsydraref01_Bit.f l0_0 0).bind fun t122 => (clepsydraref05_Right.j0 k (t122 == 0) l0_0 l0_1 l0_2))))) = some r := h
 clear h
 replace H := Option.bind_eq_some_iff.mp H
 obtain ⟨t121, A20, H⟩ := H
 try dsimp only at H
 have A2 := Aside0.mk A20
 clear A20
 have HC3 := Aside0.mk H
 clear H
 go_enter Tryz.func73, Tryz.ntmps73
 go_upto_region 2 with (first | ((with_reducible refine gate_dst (N := 1) rfl ?_); refine box_event ?hg (N := 1) ?hd (cs := #[.slice A0_0 l0_0.length c0_0, .slice A0_1 l0_1.length c0_1, .slice A0_2 l0_2.length c0_2]) (t := 26) ?hr ?_; (case hd => rfl); (case hg => rfl); (case hr => (go_simp; done)); intro gb120 hg w4 hbox hb; have BK120 := Aside0.mk (hbox); have GW120 := Aside0.mk ((by rw [hg]; exact (below_size HB.out) : w.heap.size ≤ gb120)); have GE120 := Aside0.mk ((by rw [hg]; exact (below_size HB.out) : w.heap.size ≤ gb120)); replace HB := Aside0.mk (below_step HB.out hb); clear hb hbox hg; have hcz5_0 : w4.cell? ⟨gb120, 0, none⟩ = some (.slice A0_0 l0_0.length c0_0) := (blk_cell BK120.out 0).trans rfl; have hcz5_1 : w4.cell? ⟨gb120, 1, none⟩ = some (.slice A0_1 l0_1.length c0_1) := (blk_cell BK120.out 1).trans rfl; have hcz5_2 : w4.cell? ⟨gb120, 2, none⟩ = some (.slice A0_2 l0_2.length c0_2) := (blk_cell BK120.out 2).trans rfl; have hfz5_0 := blk_frozen BK120.out 0; have hfz5_1 := blk_frozen BK120.out 1; have hfz5_2 := blk_frozen BK120.out 2) | ((with_reducible refine gate_callee (f := 65) rfl ?_); refine goesL_ (some 6) rfl rfl Tryz.func65 (by kernel_rfl) rfl #[.slice A0_0 l0_0.length c0_0] rfl (by (try simp only [List.map_toArray, List.map_cons, List.map_nil]); rfl) ?_; (with_reducible refine (clepsydraref01_Bits.calls _ _ l0_0 t121 _ ?side1 ?side2 A2.out).mono ?_); (case side1 => exact (Kd.C_below HR0_0.out HB.out)); (case side2 => exact HC0_0.out); rintro e w6 ⟨rfl, hb⟩; refine ⟨_, rfl, ?_⟩; replace BK120 := Aside0.mk (blk_below (g := gb120) (o := .cells #[.slice A0_0 l0_0.length c0_0, .slice A0_1 l0_1.length c0_1, .slice A0_2 l0_2.length c0_2] 26 (0, 0)) BK120.out hb); replace HB := Aside0.mk (below_step HB.out hb); clear hb))
 (try simp only [Act.put, List.setIfInBounds_toArray, List.set_cons_zero, List.set_cons_succ])
 go_cut [18] (fun v18 wc => ∃ (kq : Nat) (x18_2 : Bool), v18 = .bool x18_2 ∧ Aside0 (clepsydraref05_Right.j0 kq x18_2 l0_0 l0_1 l0_2 = some r) ∧ Aside0 (kq ≤ k) ∧ Aside0 (wc.heap[gb120]? = some (.cells #[(.slice A0_0 l0_0.length c0_0), (.slice A0_1 l0_1.length c0_1), (.slice A0_2 l0_2.length c0_2)] 26 (0, 0))) ∧ Aside0 (Below w.heap.size w wc))
 case first =>
  have H := HC3.out
  clear HC3
  by_cases c7 : t121 < 16
  ·rw [if_pos c7] at H
   have c7b0 : decide (t121 < 16) = true := decide_eq_true c7
   clear c7
   (skip)
   have H' := Aside0.mk H
   clear H
   go_wp2
   go_meet
   case rel => exact ⟨_, (true), (by rfl), H', ⟨by omega⟩, ⟨by exact BK120.out⟩, ⟨HB.out⟩⟩
  ·rw [if_neg c7] at H
   have c7b0 : decide (t121 < 16) = false := decide_eq_false c7
   clear c7
   (skip)
   by_cases c8 : t121 > 1024
   ·rw [if_pos c8] at H
    have c8b0 : decide (1024 < t121) = true := decide_eq_true c8
    clear c8
    have H' := Aside0.mk H
    clear H
    go_wp2
    go_meet
    case rel => exact ⟨_, (true), (by rfl), H', ⟨by omega⟩, ⟨by exact BK120.out⟩, ⟨HB.out⟩⟩
   ·rw [if_neg c8] at H
    have c8b0 : decide (1024 < t121) = false := decide_eq_false c8
    clear c8
    replace H := Option.bind_eq_some_iff.mp H
    obtain ⟨t122, A90, H⟩ := H
    try dsimp only at H
    have A9 := Aside0.mk A90
    clear A90
    have H' := Aside0.mk H
    clear H
    have hcz10_0 : w6.cell? ⟨gb120, 0, none⟩ = some (.slice A0_0 l0_0.length c0_0) := (blk_cell BK120.out 0).trans rfl
    have hcz10_1 : w6.cell? ⟨gb120, 1, none⟩ = some (.slice A0_1 l0_1.length c0_1) := (blk_cell BK120.out 1).trans rfl
    have hcz10_2 : w6.cell? ⟨gb120, 2, none⟩ = some (.slice A0_2 l0_2.length c0_2) := (blk_cell BK120.out 2).trans rfl
    have hfz10_0 := blk_frozen BK120.out 0
    have hfz10_1 := blk_frozen BK120.out 1
    have hfz10_2 := blk_frozen BK120.out 2
    go_wp2_with (((go_at_call 148; (with_reducible refine (clepsydraref01_Bit.calls _ _ l0_0 0 t122 _ ?side1 ?side2 A9.out).mono ?_); (case side1 => exact (Kd.C_below HR0_0.out HB.out)); (case side2 => exact HC0_0.out); rintro e w11 ⟨rfl, hb⟩; replace BK120 := Aside0.mk (blk_below (g := gb120) (o := .cells #[.slice A0_0 l0_0.length c0_0, .slice A0_1 l0_1.length c0_1, .slice A0_2 l0_2.length c0_2] 26 (0, 0)) BK120.out hb); replace HB := Aside0.mk (below_step HB.out hb); clear hb)))
    go_meet
    case rel => exact ⟨_, ((t122 == 0)), (by rfl), H', ⟨by omega⟩, ⟨by exact BK120.out⟩, ⟨HB.out⟩⟩
 case rest =>
  clear HC3
  try clear p2
  try clear c6
  try clear c7
  try clear c7b0
  try clear c8
  try clear c8b0
  try clear hcz10_0
  try clear hcz10_1
  try clear hcz10_2
  try clear hcz5_0
  try clear hcz5_1
  try clear hcz5_2
  try clear hfz10_0
  try clear hfz10_1
  try clear hfz10_2
  try clear hfz5_0
  try clear hfz5_1
  try clear hfz5_2
  obtain ⟨kq, x18_2, rfl, HA, HJ2, BK120, HB⟩ := hcut
  cases kq with
  | zero => exact absurd HA.out (by simp [clepsydraref05_Right.j0])
  | succ kj2 =>
   have H := HA.out
   clear HA
   simp only [clepsydraref05_Right.j0] at H
   by_cases c12 : x18_2 = true
   ·subst c12
    rw [if_pos rfl] at H
    obtain rfl := Option.some.inj H
    simp only [Option.some.injEq, Prod.mk.injEq] at H
    obtain ⟨rfl⟩ := H
    go_wp2
    go_ret
    exact ⟨by rfl, HB.out⟩
   ·replace c12 := Bool.eq_false_iff.mpr c12
    subst c12
    rw [if_neg (show ¬ (false = true) by decide)] at H
    have HC13 := Aside0.mk H
    clear H
    go_upto_region 4 with (fail)
    go_cut [37] (fun v37 wc => ∃ (kq : Nat) (x37_12 : Bool), v37 = .bool x37_12 ∧ Aside0 (clepsydraref05_Right.j1 kq x37_12 l0_0 l0_1 l0_2 = some r) ∧ Aside0 (kq ≤ kj2) ∧ Aside0 (wc.heap[gb120]? = some (.cells #[(.slice A0_0 l0_0.length c0_0), (.slice A0_1 l0_1.length c0_1), (.slice A0_2 l0_2.length c0_2)] 26 (0, 0))) ∧ Aside0 (Below w.heap.size w wc))
    case first =>
     have H := HC13.out
     clear HC13
     replace H := Option.bind_eq_some_iff.mp H
     obtain ⟨t123, A140, H⟩ := H
     try dsimp only at H
     have A14 := Aside0.mk A140
     clear A140
     by_cases c15 : t123 = 0
     ·rw [if_pos c15] at H
      have c15b0 : (t123 == 0) = true := beq_iff_eq.mpr c15
      have c15b1 : (t123 != 0) = false := bne_eq_false_iff_eq.mpr c15
      clear c15
      (skip)
      have H' := Aside0.mk H
      clear H
      try go_wp2
      have n0_ := Aside0.mk (blk_drew BK120.out)
      have n1_ := Aside0.mk (below_drew1 HB.out)
      clear BK120
      clear HB
      have BK120 := n0_
      have HB := n1_
      clear n0_ n1_
      refine start_ (n := 19) (S := fun w' => w'.cell? ⟨gb120, 0, none⟩ = some (.slice A0_0 l0_0.length c0_0) ∧ w'.cell? ⟨gb120, 1, none⟩ = some (.slice A0_1 l0_1.length c0_1) ∧ w'.cell? ⟨gb120, 2, none⟩ = some (.slice A0_2 l0_2.length c0_2)) (ds := []) #[false, false, false, false, false, false, false, false, false, false, false, false, false, false, false, false, false, false, false] (by kernel_rfl) rfl rfl ⟨(blk_cell BK120.out 0).trans rfl, (blk_cell BK120.out 1).trans rfl, (blk_cell BK120.out 2).trans rfl⟩ (fun hHeld => ?_); refine with_tabW clepsydraref05_Right.tab4 clepsydraref05_Right.bits4 (fun HT_ HW_ => ?_)
      generalize wc.drew = w16 at BK120 HB hHeld ⊢
      refine pure_ (i := 0) (N := some 19) (v := ?_) (a' := ?_) #[true, false, false, false, false, false, false, false, false, false, false, false, false, false, false, false, false, false, false] rfl rfl (any_of HT_.out (by kernel_rfl)) (fun _ _ _ h => h) (Or.inl ⟨by rfl, ?_⟩) ?_ ?_
      rotate_left
      ·intro w'
       go_simp
       with_reducible rfl
      rotate_left
      ·simp only [Act.put, List.setIfInBounds_toArray, List.set_cons_zero, List.set_cons_succ, i64_w, i32_w]
       rfl
      refine take_ (i := 1) (N := some 20) (v := ?_) (a' := ?_) #[true, true, false, false, false, false, false, false, false, false, false, false, false, false, false, false, false, false, false] rfl rfl (take_ofW HT_.out HW_.out (by kernel_rfl)) (fun _ _ _ h => h) (Or.inl ⟨by rfl, ?_⟩) hHeld ?_ ?_
      rotate_left
      ·rintro w' ⟨s0, s1, s2⟩
       go_simp
       with_reducible rfl
      rotate_left
      ·simp only [Act.put, List.setIfInBounds_toArray, List.set_cons_zero, List.set_cons_succ, i64_w, i32_w]
       rfl
      refine one_ (i := 2) (N := some 21) #[true, true, true, false, false, false, false, false, false, false, false, false, false, false, false, false, false, false, false] rfl rfl (one_of HT_.out (by kernel_rfl)) (by decide) (fun K hK => ?_)
      refine goes_ Tryz.func148 (by kernel_rfl) rfl #[.slice A0_1 l0_1.length c0_1, .int .i64 0] (by rfl) rfl rfl (by (try simp only [List.map_toArray, List.map_cons, List.map_nil]); rfl) ?_
      with_reducible refine (clepsydraref01_Bit.calls _ _ l0_1 0 t123 _ ?side1 ?side2 A14.out).mono ?_
      (case side1 => exact (Kd.C_below HR0_1.out HB.out))
      (case side2 => exact HC0_1.out)
      rintro e w17 ⟨rfl, hb⟩
      refine ⟨_, rfl, ?_⟩
      have n0_ := Aside0.mk (blk_below (g := gb120) (o := .cells #[.slice A0_0 l0_0.length c0_0, .slice A0_1 l0_1.length c0_1, .slice A0_2 l0_2.length c0_2] 26 (0, 0)) BK120.out hb)
      have n1_ := Aside0.mk (below_step HB.out hb)
      clear BK120
      clear HB
      have BK120 := n0_
      have HB := n1_
      clear n0_ n1_
      (try clear hb)
      (try clear hb2)
      (try clear hk)
      (try clear hi)
      refine hK.out _ _ ⟨(blk_cell BK120.out 0).trans rfl, (blk_cell BK120.out 1).trans rfl, (blk_cell BK120.out 2).trans rfl⟩ (fun hHeld => ?_)
      clear hK K
      refine norm_ (a' := ?_) ?_ ?_
      rotate_left
      ·show Act.put _ (some 21) _ = _
       simp only [Act.put, List.setIfInBounds_toArray, List.set_cons_zero, List.set_cons_succ, i64_w, i32_w]
       rfl
      refine pure_ (i := 3) (N := some 22) (v := ?_) (a' := ?_) #[true, true, true, true, false, false, false, false, false, false, false, false, false, false, false, false, false, false, false] rfl rfl (any_of HT_.out (by kernel_rfl)) (fun _ _ _ h => h) (Or.inl ⟨by rfl, ?_⟩) ?_ ?_
      rotate_left
      ·intro w'
       go_simp
       with_reducible rfl
      rotate_left
      ·simp only [Act.put, List.setIfInBounds_toArray, List.set_cons_zero, List.set_cons_succ, i64_w, i32_w]
       rfl
      refine pure_ (i := 4) (N := some 23) (v := ?_) (a' := ?_) #[true, true, true, true, true, false, false, false, false, false, false, false, false, false, false, false, false, false, false] rfl rfl (any_of HT_.out (by kernel_rfl)) (fun _ _ _ h => h) (Or.inl ⟨by rfl, ?_⟩) ?_ ?_
      rotate_left
      ·intro w'
       go_simp
       with_reducible rfl
      rotate_left
      ·simp only [Act.put, List.setIfInBounds_toArray, List.set_cons_zero, List.set_cons_succ, i64_w, i32_w]
       rfl
      refine pure_ (i := 5) (N := some 24) (v := undef) (a' := ?_) #[true, true, true, true, true, true, false, false, false, false, false, false, false, false, false, false, false, false, false] rfl rfl (any_of HT_.out (by kernel_rfl)) (fun _ _ _ h => h) (Or.inr ⟨by rfl, rfl⟩) ?_ ?_
      rotate_left
      ·simp only [Act.put, List.setIfInBounds_toArray, List.set_cons_zero, List.set_cons_succ, i64_w, i32_w]
       rfl
      refine pure_ (i := 6) (N := some 25) (v := undef) (a' := ?_) #[true, true, true, true, true, true, true, false, false, false, false, false, false, false, false, false, false, false, false] rfl rfl (any_of HT_.out (by kernel_rfl)) (fun _ _ _ h => h) (Or.inr ⟨by rfl, rfl⟩) ?_ ?_
      rotate_left
      ·simp only [Act.put, List.setIfInBounds_toArray, List.set_cons_zero, List.set_cons_succ, i64_w, i32_w]
       rfl
      refine pure_ (i := 7) (N := some 26) (v := undef) (a' := ?_) #[true, true, true, true, true, true, true, true, false, false, false, false, false, false, false, false, false, false, false] rfl rfl (any_of HT_.out (by kernel_rfl)) (fun _ _ _ h => h) (Or.inr ⟨by rfl, rfl⟩) ?_ ?_
      rotate_left
      ·simp only [Act.put, List.setIfInBounds_toArray, List.set_cons_zero, List.set_cons_succ, i64_w, i32_w]
       rfl
      refine pure_ (i := 8) (N := some 27) (v := undef) (a' := ?_) #[true, true, true, true, true, true, true, true, true, false, false, false, false, false, false, false, false, false, false] rfl rfl (any_of HT_.out (by kernel_rfl)) (fun _ _ _ h => h) (Or.inr ⟨by rfl, rfl⟩) ?_ ?_
      rotate_left
      ·simp only [Act.put, List.setIfInBounds_toArray, List.set_cons_zero, List.set_cons_succ, i64_w, i32_w]
       rfl
      refine pure_ (i := 9) (N := some 28) (v := undef) (a' := ?_) #[true, true, true, true, true, true, true, true, true, true, false, false, false, false, false, false, false, false, false] rfl rfl (any_of HT_.out (by kernel_rfl)) (fun _ _ _ h => h) (Or.inr ⟨by rfl, rfl⟩) ?_ ?_
      rotate_left
      ·simp only [Act.put, List.setIfInBounds_toArray, List.set_cons_zero, List.set_cons_succ, i64_w, i32_w]
       rfl
      refine pure_ (i := 10) (N := some 29) (v := ?_) (a' := ?_) #[true, true, true, true, true, true, true, true, true, true, true, false, false, false, false, false, false, false, false] rfl rfl (any_of HT_.out (by kernel_rfl)) (fun _ _ _ h => h) (Or.inl ⟨by rfl, ?_⟩) ?_ ?_
      rotate_left
      ·intro w'
       go_simp
       with_reducible rfl
      rotate_left
      ·simp only [Act.put, List.setIfInBounds_toArray, List.set_cons_zero, List.set_cons_succ, i64_w, i32_w]
       rfl
      refine pure_ (i := 11) (N := some 30) (v := ?_) (a' := ?_) #[true, true, true, true, true, true, true, true, true, true, true, true, false, false, false, false, false, false, false] rfl rfl (any_of HT_.out (by kernel_rfl)) (fun _ _ _ h => h) (Or.inl ⟨by rfl, ?_⟩) ?_ ?_
      rotate_left
      ·intro w'
       go_simp
       with_reducible rfl
      rotate_left
      ·simp only [Act.put, List.setIfInBounds_toArray, List.set_cons_zero, List.set_cons_succ, i64_w, i32_w]
       rfl
      refine pure_ (i := 12) (N := some 31) (v := undef) (a' := ?_) #[true, true, true, true, true, true, true, true, true, true, true, true, true, false, false, false, false, false, false] rfl rfl (any_of HT_.out (by kernel_rfl)) (fun _ _ _ h => h) (Or.inr ⟨by rfl, rfl⟩) ?_ ?_
      rotate_left
      ·simp only [Act.put, List.setIfInBounds_toArray, List.set_cons_zero, List.set_cons_succ, i64_w, i32_w]
       rfl
      refine pure_ (i := 13) (N := some 32) (v := undef) (a' := ?_) #[true, true, true, true, true, true, true, true, true, true, true, true, true, true, false, false, false, false, false] rfl rfl (any_of HT_.out (by kernel_rfl)) (fun _ _ _ h => h) (Or.inr ⟨by rfl, rfl⟩) ?_ ?_
      rotate_left
      ·simp only [Act.put, List.setIfInBounds_toArray, List.set_cons_zero, List.set_cons_succ, i64_w, i32_w]
       rfl
      refine pure_ (i := 14) (N := some 33) (v := undef) (a' := ?_) #[true, true, true, true, true, true, true, true, true, true, true, true, true, true, true, false, false, false, false] rfl rfl (any_of HT_.out (by kernel_rfl)) (fun _ _ _ h => h) (Or.inr ⟨by rfl, rfl⟩) ?_ ?_
      rotate_left
      ·simp only [Act.put, List.setIfInBounds_toArray, List.set_cons_zero, List.set_cons_succ, i64_w, i32_w]
       rfl
      refine pure_ (i := 15) (N := some 34) (v := undef) (a' := ?_) #[true, true, true, true, true, true, true, true, true, true, true, true, true, true, true, true, false, false, false] rfl rfl (any_of HT_.out (by kernel_rfl)) (fun _ _ _ h => h) (Or.inr ⟨by rfl, rfl⟩) ?_ ?_
      rotate_left
      ·simp only [Act.put, List.setIfInBounds_toArray, List.set_cons_zero, List.set_cons_succ, i64_w, i32_w]
       rfl
      refine pure_ (i := 16) (N := some 35) (v := undef) (a' := ?_) #[true, true, true, true, true, true, true, true, true, true, true, true, true, true, true, true, true, false, false] rfl rfl (any_of HT_.out (by kernel_rfl)) (fun _ _ _ h => h) (Or.inr ⟨by rfl, rfl⟩) ?_ ?_
      rotate_left
      ·simp only [Act.put, List.setIfInBounds_toArray, List.set_cons_zero, List.set_cons_succ, i64_w, i32_w]
       rfl
      refine pure_ (i := 17) (N := some 36) (v := undef) (a' := ?_) #[true, true, true, true, true, true, true, true, true, true, true, true, true, true, true, true, true, true, false] rfl rfl (any_of HT_.out (by kernel_rfl)) (fun _ _ _ h => h) (Or.inr ⟨by rfl, rfl⟩) ?_ ?_
      rotate_left
      ·simp only [Act.put, List.setIfInBounds_toArray, List.set_cons_zero, List.set_cons_succ, i64_w, i32_w]
       rfl
      refine pure_ (i := 18) (N := some 37) (v := ?_) (a' := ?_) #[true, true, true, true, true, true, true, true, true, true, true, true, true, true, true, true, true, true, true] rfl rfl (any_of HT_.out (by kernel_rfl)) (fun _ _ _ h => h) (Or.inl ⟨by rfl, ?_⟩) ?_ ?_
      rotate_left
      ·intro w'
       go_simp
       with_reducible rfl
      rotate_left
      ·simp only [Act.put, List.setIfInBounds_toArray, List.set_cons_zero, List.set_cons_succ, i64_w, i32_w]
       rfl
      refine done_ (done_of HT_.out (by kernel_rfl)) ?_
      try go_wp2
      go_meet
      case rel => exact ⟨_, (true), (by rfl), H', ⟨by have := HJ2.out; omega⟩, ⟨by exact BK120.out⟩, ⟨HB.out⟩⟩
     ·rw [if_neg c15] at H
      have c15b0 : (t123 == 0) = false := beq_eq_false_iff_ne.mpr c15
      have c15b1 : (t123 != 0) = true := bne_iff_ne.mpr c15
      (skip)
      replace H := Option.bind_eq_some_iff.mp H
      obtain ⟨t124, A180, H⟩ := H
      try dsimp only at H
      have A18 := Aside0.mk A180
      clear A180
      replace H := Option.bind_eq_some_iff.mp H
      obtain ⟨t127, A190, H⟩ := H
      try dsimp only at H
      have A19 := Aside0.mk A190
      clear A190
      by_cases c20 : t127 = 0
      ·rw [if_pos c20] at H
       have c20b0 : (t127 == 0) = true := beq_iff_eq.mpr c20
       have c20b1 : (t127 != 0) = false := bne_eq_false_iff_eq.mpr c20
       clear c20
       have H' := Aside0.mk H
       clear H
       try go_wp2
       have n0_ := Aside0.mk (blk_drew BK120.out)
       have n1_ := Aside0.mk (below_drew1 HB.out)
       clear BK120
       clear HB
       have BK120 := n0_
       have HB := n1_
       clear n0_ n1_
       refine start_ (n := 19) (S := fun w' => w'.cell? ⟨gb120, 0, none⟩ = some (.slice A0_0 l0_0.length c0_0) ∧ w'.cell? ⟨gb120, 1, none⟩ = some (.slice A0_1 l0_1.length c0_1) ∧ w'.cell? ⟨gb120, 2, none⟩ = some (.slice A0_2 l0_2.length c0_2)) (ds := []) #[false, false, false, false, false, false, false, false, false, false, false, false, false, false, false, false, false, false, false] (by kernel_rfl) rfl rfl ⟨(blk_cell BK120.out 0).trans rfl, (blk_cell BK120.out 1).trans rfl, (blk_cell BK120.out 2).trans rfl⟩ (fun hHeld => ?_); refine with_tabW clepsydraref05_Right.tab4 clepsydraref05_Right.bits4 (fun HT_ HW_ => ?_)
       generalize wc.drew = w21 at BK120 HB hHeld ⊢
       refine pure_ (i := 0) (N := some 19) (v := ?_) (a' := ?_) #[true, false, false, false, false, false, false, false, false, false, false, false, false, false, false, false, false, false, false] rfl rfl (any_of HT_.out (by kernel_rfl)) (fun _ _ _ h => h) (Or.inl ⟨by rfl, ?_⟩) ?_ ?_
       rotate_left
       ·intro w'
        go_simp
        with_reducible rfl
       rotate_left
       ·simp only [Act.put, List.setIfInBounds_toArray, List.set_cons_zero, List.set_cons_succ, i64_w, i32_w]
        rfl
       refine take_ (i := 1) (N := some 20) (v := ?_) (a' := ?_) #[true, true, false, false, false, false, false, false, false, false, false, false, false, false, false, false, false, false, false] rfl rfl (take_ofW HT_.out HW_.out (by kernel_rfl)) (fun _ _ _ h => h) (Or.inl ⟨by rfl, ?_⟩) hHeld ?_ ?_
       rotate_left
       ·rintro w' ⟨s0, s1, s2⟩
        go_simp
        with_reducible rfl
       rotate_left
       ·simp only [Act.put, List.setIfInBounds_toArray, List.set_cons_zero, List.set_cons_succ, i64_w, i32_w]
        rfl
       refine one_ (i := 2) (N := some 21) #[true, true, true, false, false, false, false, false, false, false, false, false, false, false, false, false, false, false, false] rfl rfl (one_of HT_.out (by kernel_rfl)) (by decide) (fun K hK => ?_)
       refine goes_ Tryz.func148 (by kernel_rfl) rfl #[.slice A0_1 l0_1.length c0_1, .int .i64 0] (by rfl) rfl rfl (by (try simp only [List.map_toArray, List.map_cons, List.map_nil]); rfl) ?_
       with_reducible refine (clepsydraref01_Bit.calls _ _ l0_1 0 t123 _ ?side1 ?side2 A14.out).mono ?_
       (case side1 => exact (Kd.C_below HR0_1.out HB.out))
       (case side2 => exact HC0_1.out)
       rintro e w22 ⟨rfl, hb⟩
       refine ⟨_, rfl, ?_⟩
       have n0_ := Aside0.mk (blk_below (g := gb120) (o := .cells #[.slice A0_0 l0_0.length c0_0, .slice A0_1 l0_1.length c0_1, .slice A0_2 l0_2.length c0_2] 26 (0, 0)) BK120.out hb)
       have n1_ := Aside0.mk (below_step HB.out hb)
       clear BK120
       clear HB
       have BK120 := n0_
       have HB := n1_
       clear n0_ n1_
       (try clear hb)
       (try clear hb2)
       (try clear hk)
       (try clear hi)
       refine hK.out _ _ ⟨(blk_cell BK120.out 0).trans rfl, (blk_cell BK120.out 1).trans rfl, (blk_cell BK120.out 2).trans rfl⟩ (fun hHeld => ?_)
       clear hK K
       refine norm_ (a' := ?_) ?_ ?_
       rotate_left
       ·show Act.put _ (some 21) _ = _
        simp only [Act.put, List.setIfInBounds_toArray, List.set_cons_zero, List.set_cons_succ, i64_w, i32_w]
        rfl
       refine pure_ (i := 3) (N := some 22) (v := ?_) (a' := ?_) #[true, true, true, true, false, false, false, false, false, false, false, false, false, false, false, false, false, false, false] rfl rfl (any_of HT_.out (by kernel_rfl)) (fun _ _ _ h => h) (Or.inl ⟨by rfl, ?_⟩) ?_ ?_
       rotate_left
       ·intro w'
        go_simp
        with_reducible rfl
       rotate_left
       ·simp only [Act.put, List.setIfInBounds_toArray, List.set_cons_zero, List.set_cons_succ, i64_w, i32_w]
        rfl
       refine pure_ (i := 4) (N := some 23) (v := ?_) (a' := ?_) #[true, true, true, true, true, false, false, false, false, false, false, false, false, false, false, false, false, false, false] rfl rfl (any_of HT_.out (by kernel_rfl)) (fun _ _ _ h => h) (Or.inl ⟨by rfl, ?_⟩) ?_ ?_
       rotate_left
       ·intro w'
        go_simp
        with_reducible rfl
       rotate_left
       ·simp only [Act.put, List.setIfInBounds_toArray, List.set_cons_zero, List.set_cons_succ, i64_w, i32_w]
        rfl
       refine pure_ (i := 5) (N := some 24) (v := ?_) (a' := ?_) #[true, true, true, true, true, true, false, false, false, false, false, false, false, false, false, false, false, false, false] rfl rfl (any_of HT_.out (by kernel_rfl)) (fun _ _ _ h => h) (Or.inl ⟨by rfl, ?_⟩) ?_ ?_
       rotate_left
       ·intro w'
        go_simp
        with_reducible rfl
       rotate_left
       ·simp only [Act.put, List.setIfInBounds_toArray, List.set_cons_zero, List.set_cons_succ, i64_w, i32_w]
        rfl
       refine take_ (i := 6) (N := some 25) (v := ?_) (a' := ?_) #[true, true, true, true, true, true, true, false, false, false, false, false, false, false, false, false, false, false, false] rfl rfl (take_ofW HT_.out HW_.out (by kernel_rfl)) (fun _ _ _ h => h) (Or.inl ⟨by rfl, ?_⟩) hHeld ?_ ?_
       rotate_left
       ·rintro w' ⟨s0, s1, s2⟩
        go_simp
        with_reducible rfl
       rotate_left
       ·simp only [Act.put, List.setIfInBounds_toArray, List.set_cons_zero, List.set_cons_succ, i64_w, i32_w]
        rfl
       refine one_ (i := 7) (N := some 26) #[true, true, true, true, true, true, true, true, false, false, false, false, false, false, false, false, false, false, false] rfl rfl (one_of HT_.out (by kernel_rfl)) (by decide) (fun K hK => ?_)
       refine goes_ Tryz.func70 (by kernel_rfl) rfl #[.int .u64 1] (by rfl) rfl rfl (by (try simp only [List.map_toArray, List.map_cons, List.map_nil]); rfl) ?_
       with_reducible refine (clepsydraref05_small.calls 1 t124 _ A18.out).mono ?_
       rintro e w23 ⟨v125, rfl, ho0, hb⟩
       refine ⟨_, rfl, ?_⟩
       have n0_ := Aside0.mk (Kd.R_lower ho0 (below_size HB.out))
       have n1_ := Aside0.mk (blk_below (g := gb120) (o := .cells #[.slice A0_0 l0_0.length c0_0, .slice A0_1 l0_1.length c0_1, .slice A0_2 l0_2.length c0_2] 26 (0, 0)) BK120.out hb)
       have n2_ := Aside0.mk (below_step HB.out hb)
       clear BK120
       clear HB
       have HO126 := n0_
       have BK120 := n1_
       have HB := n2_
       clear n0_ n1_ n2_
       (try clear hb)
       (try clear hb2)
       (try clear hk)
       (try clear hi)
       (try clear ho0)
       obtain ⟨Ao24, co24, eo24⟩ := Kd.R_slice HO126.out
       ((subst eo24))
       refine hK.out _ _ ⟨(blk_cell BK120.out 0).trans rfl, (blk_cell BK120.out 1).trans rfl, (blk_cell BK120.out 2).trans rfl⟩ (fun hHeld => ?_)
       clear hK K
       refine norm_ (a' := ?_) ?_ ?_
       rotate_left
       ·show Act.put _ (some 26) _ = _
        simp only [Act.put, List.setIfInBounds_toArray, List.set_cons_zero, List.set_cons_succ, i64_w, i32_w]
        rfl
       refine one_ (i := 8) (N := some 27) #[true, true, true, true, true, true, true, true, true, false, false, false, false, false, false, false, false, false, false] rfl rfl (one_of HT_.out (by kernel_rfl)) (by decide) (fun K hK => ?_)
       refine goes_ Tryz.func66 (by kernel_rfl) rfl #[.slice A0_1 l0_1.length c0_1, .slice Ao24 t124.length co24] (by rfl) rfl rfl (by (try simp only [List.map_toArray, List.map_cons, List.map_nil]); rfl) ?_
       with_reducible refine (clepsydraref01_Cmp.calls _ _ l0_1 _ _ t124 t127 _ ?side1 ?side2 ?side3 ?side4 A19.out).mono ?_
       (case side1 => exact (Kd.C_below HR0_1.out HB.out))
       (case side2 => exact HC0_1.out)
       (case side3 => exact (Kd.R_reads' HO126.out).2.2)
       (case side4 => exact (Kd.R_reads' HO126.out).2.1)
       rintro e w25 ⟨rfl, hb⟩
       refine ⟨_, rfl, ?_⟩
       have n0_ := Aside0.mk (Kd.R_below HO126.out hb)
       have n1_ := Aside0.mk (blk_below (g := gb120) (o := .cells #[.slice A0_0 l0_0.length c0_0, .slice A0_1 l0_1.length c0_1, .slice A0_2 l0_2.length c0_2] 26 (0, 0)) BK120.out hb)
       have n2_ := Aside0.mk (below_step HB.out hb)
       clear HO126
       clear BK120
       clear HB
       have HO126 := n0_
       have BK120 := n1_
       have HB := n2_
       clear n0_ n1_ n2_
       (try clear hb)
       (try clear hb2)
       (try clear hk)
       (try clear hi)
       refine hK.out _ _ ⟨(blk_cell BK120.out 0).trans rfl, (blk_cell BK120.out 1).trans rfl, (blk_cell BK120.out 2).trans rfl⟩ (fun hHeld => ?_)
       clear hK K
       refine norm_ (a' := ?_) ?_ ?_
       rotate_left
       ·show Act.put _ (some 27) _ = _
        simp only [Act.put, List.setIfInBounds_toArray, List.set_cons_zero, List.set_cons_succ, i64_w, i32_w]
        rfl
       refine pure_ (i := 9) (N := some 28) (v := ?_) (a' := ?_) #[true, true, true, true, true, true, true, true, true, true, false, false, false, false, false, false, false, false, false] rfl rfl (any_of HT_.out (by kernel_rfl)) (fun _ _ _ h => h) (Or.inl ⟨by rfl, ?_⟩) ?_ ?_
       rotate_left
       ·intro w'
        go_simp
        with_reducible rfl
       rotate_left
       ·simp only [Act.put, List.setIfInBounds_toArray, List.set_cons_zero, List.set_cons_succ, i64_w, i32_w]
        rfl
       refine pure_ (i := 10) (N := some 29) (v := ?_) (a' := ?_) #[true, true, true, true, true, true, true, true, true, true, true, false, false, false, false, false, false, false, false] rfl rfl (any_of HT_.out (by kernel_rfl)) (fun _ _ _ h => h) (Or.inl ⟨by rfl, ?_⟩) ?_ ?_
       rotate_left
       ·intro w'
        go_simp
        with_reducible rfl
       rotate_left
       ·simp only [Act.put, List.setIfInBounds_toArray, List.set_cons_zero, List.set_cons_succ, i64_w, i32_w]
        rfl
       refine pure_ (i := 11) (N := some 30) (v := ?_) (a' := ?_) #[true, true, true, true, true, true, true, true, true, true, true, true, false, false, false, false, false, false, false] rfl rfl (any_of HT_.out (by kernel_rfl)) (fun _ _ _ h => h) (Or.inl ⟨by rfl, ?_⟩) ?_ ?_
       rotate_left
       ·intro w'
        go_simp
        with_reducible rfl
       rotate_left
       ·simp only [Act.put, List.setIfInBounds_toArray, List.set_cons_zero, List.set_cons_succ, i64_w, i32_w]
        rfl
       refine pure_ (i := 12) (N := some 31) (v := undef) (a' := ?_) #[true, true, true, true, true, true, true, true, true, true, true, true, true, false, false, false, false, false, false] rfl rfl (any_of HT_.out (by kernel_rfl)) (fun _ _ _ h => h) (Or.inr ⟨by rfl, rfl⟩) ?_ ?_
       rotate_left
       ·simp only [Act.put, List.setIfInBounds_toArray, List.set_cons_zero, List.set_cons_succ, i64_w, i32_w]
        rfl
       refine pure_ (i := 13) (N := some 32) (v := undef) (a' := ?_) #[true, true, true, true, true, true, true, true, true, true, true, true, true, true, false, false, false, false, false] rfl rfl (any_of HT_.out (by kernel_rfl)) (fun _ _ _ h => h) (Or.inr ⟨by rfl, rfl⟩) ?_ ?_
       rotate_left
       ·simp only [Act.put, List.setIfInBounds_toArray, List.set_cons_zero, List.set_cons_succ, i64_w, i32_w]
        rfl
       refine pure_ (i := 14) (N := some 33) (v := undef) (a' := ?_) #[true, true, true, true, true, true, true, true, true, true, true, true, true, true, true, false, false, false, false] rfl rfl (any_of HT_.out (by kernel_rfl)) (fun _ _ _ h => h) (Or.inr ⟨by rfl, rfl⟩) ?_ ?_
       rotate_left
       ·simp only [Act.put, List.setIfInBounds_toArray, List.set_cons_zero, List.set_cons_succ, i64_w, i32_w]
        rfl
       refine pure_ (i := 15) (N := some 34) (v := undef) (a' := ?_) #[true, true, true, true, true, true, true, true, true, true, true, true, true, true, true, true, false, false, false] rfl rfl (any_of HT_.out (by kernel_rfl)) (fun _ _ _ h => h) (Or.inr ⟨by rfl, rfl⟩) ?_ ?_
       rotate_left
       ·simp only [Act.put, List.setIfInBounds_toArray, List.set_cons_zero, List.set_cons_succ, i64_w, i32_w]
        rfl
       refine pure_ (i := 16) (N := some 35) (v := undef) (a' := ?_) #[true, true, true, true, true, true, true, true, true, true, true, true, true, true, true, true, true, false, false] rfl rfl (any_of HT_.out (by kernel_rfl)) (fun _ _ _ h => h) (Or.inr ⟨by rfl, rfl⟩) ?_ ?_
       rotate_left
       ·simp only [Act.put, List.setIfInBounds_toArray, List.set_cons_zero, List.set_cons_succ, i64_w, i32_w]
        rfl
       refine pure_ (i := 17) (N := some 36) (v := undef) (a' := ?_) #[true, true, true, true, true, true, true, true, true, true, true, true, true, true, true, true, true, true, false] rfl rfl (any_of HT_.out (by kernel_rfl)) (fun _ _ _ h => h) (Or.inr ⟨by rfl, rfl⟩) ?_ ?_
       rotate_left
       ·simp only [Act.put, List.setIfInBounds_toArray, List.set_cons_zero, List.set_cons_succ, i64_w, i32_w]
        rfl
       refine pure_ (i := 18) (N := some 37) (v := ?_) (a' := ?_) #[true, true, true, true, true, true, true, true, true, true, true, true, true, true, true, true, true, true, true] rfl rfl (any_of HT_.out (by kernel_rfl)) (fun _ _ _ h => h) (Or.inl ⟨by rfl, ?_⟩) ?_ ?_
       rotate_left
       ·intro w'
        go_simp
        with_reducible rfl
       rotate_left
       ·simp only [Act.put, List.setIfInBounds_toArray, List.set_cons_zero, List.set_cons_succ, i64_w, i32_w]
        rfl
       refine done_ (done_of HT_.out (by kernel_rfl)) ?_
       try go_wp2
       go_meet
       case rel => exact ⟨_, (true), (by rfl), H', ⟨by have := HJ2.out; omega⟩, ⟨by exact BK120.out⟩, ⟨HB.out⟩⟩
      ·rw [if_neg c20] at H
       have c20b0 : (t127 == 0) = false := beq_eq_false_iff_ne.mpr c20
       have c20b1 : (t127 != 0) = true := bne_iff_ne.mpr c20
       replace H := Option.bind_eq_some_iff.mp H
       obtain ⟨t128, A260, H⟩ := H
       try dsimp only at H
       have A26 := Aside0.mk A260
       clear A260
       have H' := Aside0.mk H
       clear H
       try go_wp2
       have n0_ := Aside0.mk (blk_drew BK120.out)
       have n1_ := Aside0.mk (below_drew1 HB.out)
       clear BK120
       clear HB
       have BK120 := n0_
       have HB := n1_
       clear n0_ n1_
       refine start_ (n := 19) (S := fun w' => w'.cell? ⟨gb120, 0, none⟩ = some (.slice A0_0 l0_0.length c0_0) ∧ w'.cell? ⟨gb120, 1, none⟩ = some (.slice A0_1 l0_1.length c0_1) ∧ w'.cell? ⟨gb120, 2, none⟩ = some (.slice A0_2 l0_2.length c0_2)) (ds := []) #[false, false, false, false, false, false, false, false, false, false, false, false, false, false, false, false, false, false, false] (by kernel_rfl) rfl rfl ⟨(blk_cell BK120.out 0).trans rfl, (blk_cell BK120.out 1).trans rfl, (blk_cell BK120.out 2).trans rfl⟩ (fun hHeld => ?_); refine with_tabW clepsydraref05_Right.tab4 clepsydraref05_Right.bits4 (fun HT_ HW_ => ?_)
       generalize wc.drew = w27 at BK120 HB hHeld ⊢
       refine pure_ (i := 0) (N := some 19) (v := ?_) (a' := ?_) #[true, false, false, false, false, false, false, false, false, false, false, false, false, false, false, false, false, false, false] rfl rfl (any_of HT_.out (by kernel_rfl)) (fun _ _ _ h => h) (Or.inl ⟨by rfl, ?_⟩) ?_ ?_
       rotate_left
       ·intro w'
        go_simp
        with_reducible rfl
       rotate_left
       ·simp only [Act.put, List.setIfInBounds_toArray, List.set_cons_zero, List.set_cons_succ, i64_w, i32_w]
        rfl
       refine take_ (i := 1) (N := some 20) (v := ?_) (a' := ?_) #[true, true, false, false, false, false, false, false, false, false, false, false, false, false, false, false, false, false, false] rfl rfl (take_ofW HT_.out HW_.out (by kernel_rfl)) (fun _ _ _ h => h) (Or.inl ⟨by rfl, ?_⟩) hHeld ?_ ?_
       rotate_left
       ·rintro w' ⟨s0, s1, s2⟩
        go_simp
        with_reducible rfl
       rotate_left
       ·simp only [Act.put, List.setIfInBounds_toArray, List.set_cons_zero, List.set_cons_succ, i64_w, i32_w]
        rfl
       refine one_ (i := 2) (N := some 21) #[true, true, true, false, false, false, false, false, false, false, false, false, false, false, false, false, false, false, false] rfl rfl (one_of HT_.out (by kernel_rfl)) (by decide) (fun K hK => ?_)
       refine goes_ Tryz.func148 (by kernel_rfl) rfl #[.slice A0_1 l0_1.length c0_1, .int .i64 0] (by rfl) rfl rfl (by (try simp only [List.map_toArray, List.map_cons, List.map_nil]); rfl) ?_
       with_reducible refine (clepsydraref01_Bit.calls _ _ l0_1 0 t123 _ ?side1 ?side2 A14.out).mono ?_
       (case side1 => exact (Kd.C_below HR0_1.out HB.out))
       (case side2 => exact HC0_1.out)
       rintro e w28 ⟨rfl, hb⟩
       refine ⟨_, rfl, ?_⟩
       have n0_ := Aside0.mk (blk_below (g := gb120) (o := .cells #[.slice A0_0 l0_0.length c0_0, .slice A0_1 l0_1.length c0_1, .slice A0_2 l0_2.length c0_2] 26 (0, 0)) BK120.out hb)
       have n1_ := Aside0.mk (below_step HB.out hb)
       clear BK120
       clear HB
       have BK120 := n0_
       have HB := n1_
       clear n0_ n1_
       (try clear hb)
       (try clear hb2)
       (try clear hk)
       (try clear hi)
       refine hK.out _ _ ⟨(blk_cell BK120.out 0).trans rfl, (blk_cell BK120.out 1).trans rfl, (blk_cell BK120.out 2).trans rfl⟩ (fun hHeld => ?_)
       clear hK K
       refine norm_ (a' := ?_) ?_ ?_
       rotate_left
       ·show Act.put _ (some 21) _ = _
        simp only [Act.put, List.setIfInBounds_toArray, List.set_cons_zero, List.set_cons_succ, i64_w, i32_w]
        rfl
       refine pure_ (i := 3) (N := some 22) (v := ?_) (a' := ?_) #[true, true, true, true, false, false, false, false, false, false, false, false, false, false, false, false, false, false, false] rfl rfl (any_of HT_.out (by kernel_rfl)) (fun _ _ _ h => h) (Or.inl ⟨by rfl, ?_⟩) ?_ ?_
       rotate_left
       ·intro w'
        go_simp
        with_reducible rfl
       rotate_left
       ·simp only [Act.put, List.setIfInBounds_toArray, List.set_cons_zero, List.set_cons_succ, i64_w, i32_w]
        rfl
       refine pure_ (i := 4) (N := some 23) (v := ?_) (a' := ?_) #[true, true, true, true, true, false, false, false, false, false, false, false, false, false, false, false, false, false, false] rfl rfl (any_of HT_.out (by kernel_rfl)) (fun _ _ _ h => h) (Or.inl ⟨by rfl, ?_⟩) ?_ ?_
       rotate_left
       ·intro w'
        go_simp
        with_reducible rfl
       rotate_left
       ·simp only [Act.put, List.setIfInBounds_toArray, List.set_cons_zero, List.set_cons_succ, i64_w, i32_w]
        rfl
       refine pure_ (i := 5) (N := some 24) (v := ?_) (a' := ?_) #[true, true, true, true, true, true, false, false, false, false, false, false, false, false, false, false, false, false, false] rfl rfl (any_of HT_.out (by kernel_rfl)) (fun _ _ _ h => h) (Or.inl ⟨by rfl, ?_⟩) ?_ ?_
       rotate_left
       ·intro w'
        go_simp
        with_reducible rfl
       rotate_left
       ·simp only [Act.put, List.setIfInBounds_toArray, List.set_cons_zero, List.set_cons_succ, i64_w, i32_w]
        rfl
       refine take_ (i := 6) (N := some 25) (v := ?_) (a' := ?_) #[true, true, true, true, true, true, true, false, false, false, false, false, false, false, false, false, false, false, false] rfl rfl (take_ofW HT_.out HW_.out (by kernel_rfl)) (fun _ _ _ h => h) (Or.inl ⟨by rfl, ?_⟩) hHeld ?_ ?_
       rotate_left
       ·rintro w' ⟨s0, s1, s2⟩
        go_simp
        with_reducible rfl
       rotate_left
       ·simp only [Act.put, List.setIfInBounds_toArray, List.set_cons_zero, List.set_cons_succ, i64_w, i32_w]
        rfl
       refine one_ (i := 7) (N := some 26) #[true, true, true, true, true, true, true, true, false, false, false, false, false, false, false, false, false, false, false] rfl rfl (one_of HT_.out (by kernel_rfl)) (by decide) (fun K hK => ?_)
       refine goes_ Tryz.func70 (by kernel_rfl) rfl #[.int .u64 1] (by rfl) rfl rfl (by (try simp only [List.map_toArray, List.map_cons, List.map_nil]); rfl) ?_
       with_reducible refine (clepsydraref05_small.calls 1 t124 _ A18.out).mono ?_
       rintro e w29 ⟨v125, rfl, ho0, hb⟩
       refine ⟨_, rfl, ?_⟩
       have n0_ := Aside0.mk (Kd.R_lower ho0 (below_size HB.out))
       have n1_ := Aside0.mk (blk_below (g := gb120) (o := .cells #[.slice A0_0 l0_0.length c0_0, .slice A0_1 l0_1.length c0_1, .slice A0_2 l0_2.length c0_2] 26 (0, 0)) BK120.out hb)
       have n2_ := Aside0.mk (below_step HB.out hb)
       clear BK120
       clear HB
       have HO126 := n0_
       have BK120 := n1_
       have HB := n2_
       clear n0_ n1_ n2_
       (try clear hb)
       (try clear hb2)
       (try clear hk)
       (try clear hi)
       (try clear ho0)
       obtain ⟨Ao30, co30, eo30⟩ := Kd.R_slice HO126.out
       ((subst eo30))
       refine hK.out _ _ ⟨(blk_cell BK120.out 0).trans rfl, (blk_cell BK120.out 1).trans rfl, (blk_cell BK120.out 2).trans rfl⟩ (fun hHeld => ?_)
       clear hK K
       refine norm_ (a' := ?_) ?_ ?_
       rotate_left
       ·show Act.put _ (some 26) _ = _
        simp only [Act.put, List.setIfInBounds_toArray, List.set_cons_zero, List.set_cons_succ, i64_w, i32_w]
        rfl
       refine one_ (i := 8) (N := some 27) #[true, true, true, true, true, true, true, true, true, false, false, false, false, false, false, false, false, false, false] rfl rfl (one_of HT_.out (by kernel_rfl)) (by decide) (fun K hK => ?_)
       refine goes_ Tryz.func66 (by kernel_rfl) rfl #[.slice A0_1 l0_1.length c0_1, .slice Ao30 t124.length co30] (by rfl) rfl rfl (by (try simp only [List.map_toArray, List.map_cons, List.map_nil]); rfl) ?_
       with_reducible refine (clepsydraref01_Cmp.calls _ _ l0_1 _ _ t124 t127 _ ?side1 ?side2 ?side3 ?side4 A19.out).mono ?_
       (case side1 => exact (Kd.C_below HR0_1.out HB.out))
       (case side2 => exact HC0_1.out)
       (case side3 => exact (Kd.R_reads' HO126.out).2.2)
       (case side4 => exact (Kd.R_reads' HO126.out).2.1)
       rintro e w31 ⟨rfl, hb⟩
       refine ⟨_, rfl, ?_⟩
       have n0_ := Aside0.mk (Kd.R_below HO126.out hb)
       have n1_ := Aside0.mk (blk_below (g := gb120) (o := .cells #[.slice A0_0 l0_0.length c0_0, .slice A0_1 l0_1.length c0_1, .slice A0_2 l0_2.length c0_2] 26 (0, 0)) BK120.out hb)
       have n2_ := Aside0.mk (below_step HB.out hb)
       clear HO126
       clear BK120
       clear HB
       have HO126 := n0_
       have BK120 := n1_
       have HB := n2_
       clear n0_ n1_ n2_
       (try clear hb)
       (try clear hb2)
       (try clear hk)
       (try clear hi)
       refine hK.out _ _ ⟨(blk_cell BK120.out 0).trans rfl, (blk_cell BK120.out 1).trans rfl, (blk_cell BK120.out 2).trans rfl⟩ (fun hHeld => ?_)
       clear hK K
       refine norm_ (a' := ?_) ?_ ?_
       rotate_left
       ·show Act.put _ (some 27) _ = _
        simp only [Act.put, List.setIfInBounds_toArray, List.set_cons_zero, List.set_cons_succ, i64_w, i32_w]
        rfl
       refine pure_ (i := 9) (N := some 28) (v := ?_) (a' := ?_) #[true, true, true, true, true, true, true, true, true, true, false, false, false, false, false, false, false, false, false] rfl rfl (any_of HT_.out (by kernel_rfl)) (fun _ _ _ h => h) (Or.inl ⟨by rfl, ?_⟩) ?_ ?_
       rotate_left
       ·intro w'
        go_simp
        with_reducible rfl
       rotate_left
       ·simp only [Act.put, List.setIfInBounds_toArray, List.set_cons_zero, List.set_cons_succ, i64_w, i32_w]
        rfl
       refine pure_ (i := 10) (N := some 29) (v := ?_) (a' := ?_) #[true, true, true, true, true, true, true, true, true, true, true, false, false, false, false, false, false, false, false] rfl rfl (any_of HT_.out (by kernel_rfl)) (fun _ _ _ h => h) (Or.inl ⟨by rfl, ?_⟩) ?_ ?_
       rotate_left
       ·intro w'
        go_simp
        with_reducible rfl
       rotate_left
       ·simp only [Act.put, List.setIfInBounds_toArray, List.set_cons_zero, List.set_cons_succ, i64_w, i32_w]
        rfl
       refine pure_ (i := 11) (N := some 30) (v := ?_) (a' := ?_) #[true, true, true, true, true, true, true, true, true, true, true, true, false, false, false, false, false, false, false] rfl rfl (any_of HT_.out (by kernel_rfl)) (fun _ _ _ h => h) (Or.inl ⟨by rfl, ?_⟩) ?_ ?_
       rotate_left
       ·intro w'
        go_simp
        with_reducible rfl
       rotate_left
       ·simp only [Act.put, List.setIfInBounds_toArray, List.set_cons_zero, List.set_cons_succ, i64_w, i32_w]
        rfl
       refine pure_ (i := 12) (N := some 31) (v := ?_) (a' := ?_) #[true, true, true, true, true, true, true, true, true, true, true, true, true, false, false, false, false, false, false] rfl rfl (any_of HT_.out (by kernel_rfl)) (fun _ _ _ h => h) (Or.inl ⟨by rfl, ?_⟩) ?_ ?_
       rotate_left
       ·intro w'
        go_simp
        with_reducible rfl
       rotate_left
       ·simp only [Act.put, List.setIfInBounds_toArray, List.set_cons_zero, List.set_cons_succ, i64_w, i32_w]
        rfl
       refine pure_ (i := 14) (N := some 33) (v := ?_) (a' := ?_) #[true, true, true, true, true, true, true, true, true, true, true, true, true, false, true, false, false, false, false] rfl rfl (any_of HT_.out (by kernel_rfl)) (fun _ _ _ h => h) (Or.inl ⟨by rfl, ?_⟩) ?_ ?_
       rotate_left
       ·intro w'
        go_simp
        with_reducible rfl
       rotate_left
       ·simp only [Act.put, List.setIfInBounds_toArray, List.set_cons_zero, List.set_cons_succ, i64_w, i32_w]
        rfl
       refine take_ (i := 13) (N := some 32) (v := ?_) (a' := ?_) #[true, true, true, true, true, true, true, true, true, true, true, true, true, true, true, false, false, false, false] rfl rfl (take_ofW HT_.out HW_.out (by kernel_rfl)) (fun _ _ _ h => h) (Or.inl ⟨by rfl, ?_⟩) hHeld ?_ ?_
       rotate_left
       ·rintro w' ⟨s0, s1, s2⟩
        go_simp
        with_reducible rfl
       rotate_left
       ·simp only [Act.put, List.setIfInBounds_toArray, List.set_cons_zero, List.set_cons_succ, i64_w, i32_w]
        rfl
       refine take_ (i := 15) (N := some 34) (v := ?_) (a' := ?_) #[true, true, true, true, true, true, true, true, true, true, true, true, true, true, true, true, false, false, false] rfl rfl (take_ofW HT_.out HW_.out (by kernel_rfl)) (fun _ _ _ h => h) (Or.inl ⟨by rfl, ?_⟩) hHeld ?_ ?_
       rotate_left
       ·rintro w' ⟨s0, s1, s2⟩
        go_simp
        with_reducible rfl
       rotate_left
       ·simp only [Act.put, List.setIfInBounds_toArray, List.set_cons_zero, List.set_cons_succ, i64_w, i32_w]
        rfl
       refine one_ (i := 16) (N := some 35) #[true, true, true, true, true, true, true, true, true, true, true, true, true, true, true, true, true, false, false] rfl rfl (one_of HT_.out (by kernel_rfl)) (by decide) (fun K hK => ?_)
       refine goes_ Tryz.func66 (by kernel_rfl) rfl #[.slice A0_1 l0_1.length c0_1, .slice A0_0 l0_0.length c0_0] (by rfl) rfl rfl (by (try simp only [List.map_toArray, List.map_cons, List.map_nil]); rfl) ?_
       with_reducible refine (clepsydraref01_Cmp.calls _ _ l0_1 _ _ l0_0 t128 _ ?side1 ?side2 ?side3 ?side4 A26.out).mono ?_
       (case side1 => exact (Kd.C_below HR0_1.out HB.out))
       (case side2 => exact HC0_1.out)
       (case side3 => exact (Kd.C_below HR0_0.out HB.out))
       (case side4 => exact HC0_0.out)
       rintro e w32 ⟨rfl, hb⟩
       refine ⟨_, rfl, ?_⟩
       have n0_ := Aside0.mk (Kd.R_below HO126.out hb)
       have n1_ := Aside0.mk (blk_below (g := gb120) (o := .cells #[.slice A0_0 l0_0.length c0_0, .slice A0_1 l0_1.length c0_1, .slice A0_2 l0_2.length c0_2] 26 (0, 0)) BK120.out hb)
       have n2_ := Aside0.mk (below_step HB.out hb)
       clear HO126
       clear BK120
       clear HB
       have HO126 := n0_
       have BK120 := n1_
       have HB := n2_
       clear n0_ n1_ n2_
       (try clear hb)
       (try clear hb2)
       (try clear hk)
       (try clear hi)
       refine hK.out _ _ ⟨(blk_cell BK120.out 0).trans rfl, (blk_cell BK120.out 1).trans rfl, (blk_cell BK120.out 2).trans rfl⟩ (fun hHeld => ?_)
       clear hK K
       refine norm_ (a' := ?_) ?_ ?_
       rotate_left
       ·show Act.put _ (some 35) _ = _
        simp only [Act.put, List.setIfInBounds_toArray, List.set_cons_zero, List.set_cons_succ, i64_w, i32_w]
        rfl
       refine pure_ (i := 17) (N := some 36) (v := ?_) (a' := ?_) #[true, true, true, true, true, true, true, true, true, true, true, true, true, true, true, true, true, true, false] rfl rfl (any_of HT_.out (by kernel_rfl)) (fun _ _ _ h => h) (Or.inl ⟨by rfl, ?_⟩) ?_ ?_
       rotate_left
       ·intro w'
        go_simp
        with_reducible rfl
       rotate_left
       ·simp only [Act.put, List.setIfInBounds_toArray, List.set_cons_zero, List.set_cons_succ, i64_w, i32_w]
        rfl
       refine pure_ (i := 18) (N := some 37) (v := ?_) (a' := ?_) #[true, true, true, true, true, true, true, true, true, true, true, true, true, true, true, true, true, true, true] rfl rfl (any_of HT_.out (by kernel_rfl)) (fun _ _ _ h => h) (Or.inl ⟨by rfl, ?_⟩) ?_ ?_
       rotate_left
       ·intro w'
        go_simp
        with_reducible rfl
       rotate_left
       ·simp only [Act.put, List.setIfInBounds_toArray, List.set_cons_zero, List.set_cons_succ, i64_w, i32_w]
        rfl
       refine done_ (done_of HT_.out (by kernel_rfl)) ?_
       try go_wp2
       go_meet
       case rel => exact ⟨_, (decide (t128 ≥ 0)), (by rfl), H', ⟨by have := HJ2.out; omega⟩, ⟨by exact BK120.out⟩, ⟨HB.out⟩⟩
    case rest =>
     clear HC13
     try clear c1
     try clear c2
     try clear p2
     try clear c6
     try clear c7
     try clear c14
     try clear c15
     try clear c15b0
     try clear c15b1
     try clear c20
     try clear c20b0
     try clear c20b1
     obtain ⟨kq, x37_12, rfl, HA, HJ12, BK120, HB⟩ := hcut
     cases kq with
     | zero => exact absurd HA.out (by simp [clepsydraref05_Right.j1])
     | succ kj12 =>
      have H := HA.out
      clear HA
      simp only [clepsydraref05_Right.j1] at H
      by_cases c33 : x37_12 = true
      ·subst c33
       rw [if_pos rfl] at H
       obtain rfl := Option.some.inj H
       simp only [Option.some.injEq, Prod.mk.injEq] at H
       obtain ⟨rfl⟩ := H
       go_wp2
       go_ret
       exact ⟨by rfl, HB.out⟩
      ·replace c33 := Bool.eq_false_iff.mpr c33
       subst c33
       rw [if_neg (show ¬ (false = true) by decide)] at H
       replace H := Option.bind_eq_some_iff.mp H
       obtain ⟨t129, A340, H⟩ := H
       try dsimp only at H
       have A34 := Aside0.mk A340
       clear A340
       by_cases c35 : t129 ≥ 0
       ·rw [if_pos c35] at H
        have c35b0 : decide (0 ≤ t129) = true := decide_eq_true c35
        clear c35
        obtain rfl := Option.some.inj H
        simp only [Option.some.injEq, Prod.mk.injEq] at H
        obtain ⟨rfl⟩ := H
        have hcz36_0 : wc.cell? ⟨gb120, 0, none⟩ = some (.slice A0_0 l0_0.length c0_0) := (blk_cell BK120.out 0).trans rfl
        have hcz36_1 : wc.cell? ⟨gb120, 1, none⟩ = some (.slice A0_1 l0_1.length c0_1) := (blk_cell BK120.out 1).trans rfl
        have hcz36_2 : wc.cell? ⟨gb120, 2, none⟩ = some (.slice A0_2 l0_2.length c0_2) := (blk_cell BK120.out 2).trans rfl
        have hfz36_0 := blk_frozen BK120.out 0
        have hfz36_1 := blk_frozen BK120.out 1
        have hfz36_2 := blk_frozen BK120.out 2
        go_wp2_with ((((with_reducible refine gate_callee (f := 66) rfl ?_); refine goesL_ (some 42) rfl rfl Tryz.func66 (by kernel_rfl) rfl #[.slice A0_2 l0_2.length c0_2, .slice A0_0 l0_0.length c0_0] rfl (by (try simp only [List.map_toArray, List.map_cons, List.map_nil]); rfl) ?_; (with_reducible refine (clepsydraref01_Cmp.calls _ _ l0_2 _ _ l0_0 t129 _ ?side1 ?side2 ?side3 ?side4 A34.out).mono ?_); (case side1 => exact (Kd.C_below HR0_2.out HB.out)); (case side2 => exact HC0_2.out); (case side3 => exact (Kd.C_below HR0_0.out HB.out)); (case side4 => exact HC0_0.out); rintro e w37 ⟨rfl, hb⟩; refine ⟨_, rfl, ?_⟩; replace BK120 := Aside0.mk (blk_below (g := gb120) (o := .cells #[.slice A0_0 l0_0.length c0_0, .slice A0_1 l0_1.length c0_1, .slice A0_2 l0_2.length c0_2] 26 (0, 0)) BK120.out hb); replace HB := Aside0.mk (below_step HB.out hb); clear hb)))
        go_ret
        exact ⟨by rfl, HB.out⟩
       ·rw [if_neg c35] at H
        have c35b0 : decide (0 ≤ t129) = false := decide_eq_false c35
        clear c35
        obtain rfl := Option.some.inj H
        simp only [Option.some.injEq, Prod.mk.injEq] at H
        obtain ⟨rfl⟩ := H
        have hcz38_0 : wc.cell? ⟨gb120, 0, none⟩ = some (.slice A0_0 l0_0.length c0_0) := (blk_cell BK120.out 0).trans rfl
        have hcz38_1 : wc.cell? ⟨gb120, 1, none⟩ = some (.slice A0_1 l0_1.length c0_1) := (blk_cell BK120.out 1).trans rfl
        have hcz38_2 : wc.cell? ⟨gb120, 2, none⟩ = some (.slice A0_2 l0_2.length c0_2) := (blk_cell BK120.out 2).trans rfl
        have hfz38_0 := blk_frozen BK120.out 0
        have hfz38_1 := blk_frozen BK120.out 1
        have hfz38_2 := blk_frozen BK120.out 2
        go_wp2_with ((((with_reducible refine gate_callee (f := 66) rfl ?_); refine goesL_ (some 42) rfl rfl Tryz.func66 (by kernel_rfl) rfl #[.slice A0_2 l0_2.length c0_2, .slice A0_0 l0_0.length c0_0] rfl (by (try simp only [List.map_toArray, List.map_cons, List.map_nil]); rfl) ?_; (with_reducible refine (clepsydraref01_Cmp.calls _ _ l0_2 _ _ l0_0 t129 _ ?side1 ?side2 ?side3 ?side4 A34.out).mono ?_); (case side1 => exact (Kd.C_below HR0_2.out HB.out)); (case side2 => exact HC0_2.out); (case side3 => exact (Kd.C_below HR0_0.out HB.out)); (case side4 => exact HC0_0.out); rintro e w39 ⟨rfl, hb⟩; refine ⟨_, rfl, ?_⟩; replace BK120 := Aside0.mk (blk_below (g := gb120) (o := .cells #[.slice A0_0 l0_0.length c0_0, .slice A0_1 l0_1.length c0_1, .slice A0_2 l0_2.length c0_2] 26 (0, 0)) BK120.out hb); replace HB := Aside0.mk (below_step HB.out hb); clear hb)))
        go_ret
        exact ⟨by rfl, HB.out⟩
end Go.Proofs.YtdmglajfmfjmlaaGreat.Cz
