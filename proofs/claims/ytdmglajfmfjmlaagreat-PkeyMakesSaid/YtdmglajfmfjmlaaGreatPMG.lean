/- Texts of this claim, joined: what its laws use. -/
import Derived.Test.YtdmglajfmfjmlaaGreatPMF
import Derived.LaidMore
import Derived.WalkKit
import Derived.ProofKit
import Derived.OpenShut
import Derived.ShutString
import Derived.ChangeOld
import Derived.Below
import Derived.ChangeSlices
import Derived.Lib.SmallJoins
namespace Go.Proofs.YtdmglajfmfjmlaaGreat.Cz
open Go.RowKit Go.Proofs.YtdmglajfmfjmlaaGreatW.PrintWords Go.Proofs.YtdmglajfmfjmlaaGreatW.PrintLast Go.Proofs.YtdmglajfmfjmlaaGreatW.PrintMore
attribute [local go_sem] max2_int min2_int max_two min_two max_three min_three max_four min_four   -- for this text's walks alone
set_option linter.unusedVariables false
set_option linter.unusedSimpArgs false
mutual
def clepsydraref05_Make.j0 : Nat → List Int → List Int → Int → Bool → Option (List Int × List Int × List Int × Int)
 | 0, _, _, _, _ => none
 | k + 1, x0, x1, x2, x33 => if x33 = true then (some (([] : List Int), ([] : List Int), ([] : List Int), 50)) else ((clepsydraref05_Bases.f).bind fun t134 => ((clepsydraref03_Prime.f x0 t134).bind fun t137 => (if t137 = true then ((clepsydraref05_Bases.f).bind fun t138 => ((clepsydraref03_Prime.f x1 t138).bind fun t141 => (clepsydraref05_Make.j1 k x0 x1 x2 (!t141)))) else (clepsydraref05_Make.j1 k x0 x1 x2 true))))
def clepsydraref05_Make.j1 : Nat → List Int → List Int → Int → Bool → Option (List Int × List Int × List Int × Int)
 | 0, _, _, _, _ => none
 | k + 1, x0, x1, x2, x44 => if x44 = true then (some (([] : List Int), ([] : List Int), ([] : List Int), 50)) else ((clepsydraref05_small.f x2).bind fun t142 => ((clepsydraref05_less.f x0).bind fun t145 => ((clepsydraref05_less.f x1).bind fun t148 => ((clepsydraref01_Mul.f t145 t148).bind fun t151 => ((clepsydraref03_Inverse.f t142 t151).bind fun bt154 => ((clepsydraref01_Mul.f x0 x1).bind fun t158 => ((clepsydraref05_small.f x2).bind fun t161 => (if bt154.2 = 0 then ((clepsydraref05_Right.f k t158 t161 bt154.1).bind fun t165 => (if t165 = 0 then (some (t158, t161, bt154.1, 0)) else (some (([] : List Int), ([] : List Int), ([] : List Int), 50)))) else (some (([] : List Int), ([] : List Int), ([] : List Int), 50))))))))))
end
def clepsydraref05_Make.f (k : Nat) (l0 : List Int) (l1 : List Int) (a2 : Int) : Option (List Int × List Int × List Int × Int) := (clepsydraref01_Bits.f l0).bind fun t131 => (if t131 > 512 then (clepsydraref05_Make.j0 k l0 l1 a2 true) else ((clepsydraref01_Bits.f l1).bind fun t132 => (if t132 > 512 then (clepsydraref05_Make.j0 k l0 l1 a2 true) else ((clepsydraref01_Cmp.f l0 l1).bind fun t133 => (if t133 = 0 then (clepsydraref05_Make.j0 k l0 l1 a2 true) else (if (Int.tmod a2 2) = 0 then (clepsydraref05_Make.j0 k l0 l1 a2 true) else (clepsydraref05_Make.j0 k l0 l1 a2 (decide (a2 < 3)))))))))
set_option maxHeartbeats 8000000 in
set_option maxRecDepth 100000 in
theorem clepsydraref05_Make.calls (k : Nat) (A0 : Option Addr) (c0 : Nat) (l0 : List Int) (A1 : Option Addr) (c1 : Nat) (l1 : List Int) (a2 : Int) (r1 : List Int) (r2 : List Int) (r3 : List Int) (r4 : Int) (w : World) (hr0 : Kd.C (Kd.int .u64) w A0 l0.length l0) (hc0 : l0.length ≤ c0) (hr1 : Kd.C (Kd.int .u64) w A1 l1.length l1) (hc1 : l1.length ≤ c1) (h : clepsydraref05_Make.f k l0 l1 a2 = some (r1, r2, r3, r4)) :
  Calls Tryz.prog 13 #[.slice A0 l0.length c0, .slice A1 l1.length c1, .int .u64 a2] w fun e w' => ∃ v0_ v1_ v2_ : Value, e = .returned (.tuple #[.agg #[v0_, v1_, v2_], .int .i64 r4]) ∧ Kd.R (Kd.int .u64) 23 w' w.heap.size (fun k_ => some k_ ≠ (v1_ : Value).ownBlock ∧ some k_ ≠ (v2_ : Value).ownBlock) v0_ r1 ∧ Kd.R (Kd.int .u64) 23 w' w.heap.size (fun k_ => some k_ ≠ (v0_ : Value).ownBlock ∧ some k_ ≠ (v2_ : Value).ownBlock) v1_ r2 ∧ Kd.R (Kd.int .u64) 23 w' w.heap.size (fun k_ => some k_ ≠ (v0_ : Value).ownBlock ∧ some k_ ≠ (v1_ : Value).ownBlock) v2_ r3 ∧ Below w.heap.size w w' := by
 have hu26 := Tryz.underlying26
 have HR0 := Aside0.mk hr0
 have HC0 := Aside0.mk hc0
 clear hr0 hc0
 have HR1 := Aside0.mk hr1
 have HC1 := Aside0.mk hc1
 clear hr1 hc1
 have HB := Aside0.mk (Below.refl w.heap.size w)
 have H : ((clepsydraref01_Bits.f l0).bind fun t131 => (if t131 > 512 then (clepsydraref05_Make.j0 k l0 l1 a2 true) else ((clepsydraref01_Bits.f l1).bind fun t132 => (if t132 > 512 then (clepsydraref05_Make.j0 k l0 l1 a2 true) else ((clepsydraref01_Cmp.f l0 l1).bind fun t133 => (if t133 = 0 then (clepsydraref05_Make.j0 k l0 l1 a2 true) else (if (Int.tmod a2 2) = 0 then (clepsydraref05_Make.j0 k l0 l1 a2 true) else (clepsydraref05_Make.j0 k l0 l1 a2 (decide (a2 < 3)))))))))) = some (r1, r2, r3, r4) := h
 clear h
 have HC4 := Aside0.mk H
 clear H
 go_enter Tryz.func13, Tryz.ntmps13
 go_upto_region 1 with ((((with_reducible refine gate_dst (N := 6) rfl ?_); refine box_event ?hg (N := 6) ?hd (cs := #[.slice none 0 0, .slice none 0 0, .slice none 0 0]) (t := 26) ?hr ?_; (case hd => rfl); (case hg => rfl); (case hr => (go_simp; done)); intro gb130 hg w5 hbox hb; have BK130 := Aside0.mk (hbox); have GW130 := Aside0.mk ((by rw [hg]; exact (below_size HB.out) : w.heap.size ≤ gb130)); have GE130 := Aside0.mk ((by rw [hg]; exact (below_size HB.out) : w.heap.size ≤ gb130)); replace HB := Aside0.mk (below_step HB.out hb); clear hb hbox hg)))
 (try simp only [Act.put, List.setIfInBounds_toArray, List.set_cons_zero, List.set_cons_succ])
 go_cut [33] (fun v33 wc => ∃ (kq : Nat) (x33_3 : Bool), v33 = .bool x33_3 ∧ Aside0 (clepsydraref05_Make.j0 kq l0 l1 a2 x33_3 = some (r1, r2, r3, r4)) ∧ Aside0 (kq ≤ k) ∧ Aside0 (wc.heap[gb130]? = some (.cells #[(.slice none 0 0), (.slice none 0 0), (.slice none 0 0)] 26 (0, 0))) ∧ Aside0 (Below w.heap.size w wc))
 case first =>
  have H := HC4.out
  clear HC4
  replace H := Option.bind_eq_some_iff.mp H
  obtain ⟨t131, A60, H⟩ := H
  try dsimp only at H
  have A6 := Aside0.mk A60
  clear A60
  by_cases c7 : t131 > 512
  ·rw [if_pos c7] at H
   have c7b0 : decide (512 < t131) = true := decide_eq_true c7
   clear c7
   (skip)
   have H' := Aside0.mk H
   clear H
   go_wp2_with ((((with_reducible refine gate_callee (f := 65) rfl ?_); refine goesL_ (some 12) rfl rfl Tryz.func65 (by kernel_rfl) rfl #[.slice A0 l0.length c0] rfl (by (try simp only [List.map_toArray, List.map_cons, List.map_nil]); rfl) ?_; (with_reducible refine (clepsydraref01_Bits.calls _ _ l0 t131 _ ?side1 ?side2 A6.out).mono ?_); (case side1 => exact (Kd.C_below HR0.out HB.out)); (case side2 => exact HC0.out); rintro e w8 ⟨rfl, hb⟩; refine ⟨_, rfl, ?_⟩; replace BK130 := Aside0.mk (blk_below (g := gb130) (o := .cells #[.slice none 0 0, .slice none 0 0, .slice none 0 0] 26 (0, 0)) BK130.out hb); replace HB := Aside0.mk (below_step HB.out hb); clear hb)))
   go_meet
   case rel => exact ⟨_, (true), (by rfl), H', ⟨by omega⟩, ⟨by exact BK130.out⟩, ⟨HB.out⟩⟩
  ·rw [if_neg c7] at H
   have c7b0 : decide (512 < t131) = false := decide_eq_false c7
   clear c7
   (skip)
   replace H := Option.bind_eq_some_iff.mp H
   obtain ⟨t132, A90, H⟩ := H
   try dsimp only at H
   have A9 := Aside0.mk A90
   clear A90
   by_cases c10 : t132 > 512
   ·rw [if_pos c10] at H
    have c10b0 : decide (512 < t132) = true := decide_eq_true c10
    clear c10
    have H' := Aside0.mk H
    clear H
    go_wp2_with (first | ((with_reducible refine gate_callee (f := 65) rfl ?_); refine goesL_ (some 12) rfl rfl Tryz.func65 (by kernel_rfl) rfl #[.slice A0 l0.length c0] rfl (by (try simp only [List.map_toArray, List.map_cons, List.map_nil]); rfl) ?_; (with_reducible refine (clepsydraref01_Bits.calls _ _ l0 t131 _ ?side1 ?side2 A6.out).mono ?_); (case side1 => exact (Kd.C_below HR0.out HB.out)); (case side2 => exact HC0.out); rintro e w11 ⟨rfl, hb⟩; refine ⟨_, rfl, ?_⟩; replace BK130 := Aside0.mk (blk_below (g := gb130) (o := .cells #[.slice none 0 0, .slice none 0 0, .slice none 0 0] 26 (0, 0)) BK130.out hb); replace HB := Aside0.mk (below_step HB.out hb); clear hb) | (go_at_call 65; (with_reducible refine (clepsydraref01_Bits.calls _ _ l1 t132 _ ?side1 ?side2 A9.out).mono ?_); (case side1 => exact (Kd.C_below HR1.out HB.out)); (case side2 => exact HC1.out); rintro e w12 ⟨rfl, hb⟩; replace BK130 := Aside0.mk (blk_below (g := gb130) (o := .cells #[.slice none 0 0, .slice none 0 0, .slice none 0 0] 26 (0, 0)) BK130.out hb); replace HB := Aside0.mk (below_step HB.out hb); clear hb))
    go_meet
    case rel => exact ⟨_, (true), (by rfl), H', ⟨by omega⟩, ⟨by exact BK130.out⟩, ⟨HB.out⟩⟩
   ·rw [if_neg c10] at H
    have c10b0 : decide (512 < t132) = false := decide_eq_false c10
    clear c10
    replace H := Option.bind_eq_some_iff.mp H
    obtain ⟨t133, A130, H⟩ := H
    try dsimp only at H
    have A13 := Aside0.mk A130
    clear A130
    by_cases c14 : t133 = 0
    ·rw [if_pos c14] at H
     have c14b0 : (t133 == 0) = true := beq_iff_eq.mpr c14
     have c14b1 : (t133 != 0) = false := bne_eq_false_iff_eq.mpr c14
     clear c14
     have H' := Aside0.mk H
     clear H
     go_wp2_with (first | ((with_reducible refine gate_callee (f := 65) rfl ?_); refine goesL_ (some 12) rfl rfl Tryz.func65 (by kernel_rfl) rfl #[.slice A0 l0.length c0] rfl (by (try simp only [List.map_toArray, List.map_cons, List.map_nil]); rfl) ?_; (with_reducible refine (clepsydraref01_Bits.calls _ _ l0 t131 _ ?side1 ?side2 A6.out).mono ?_); (case side1 => exact (Kd.C_below HR0.out HB.out)); (case side2 => exact HC0.out); rintro e w15 ⟨rfl, hb⟩; refine ⟨_, rfl, ?_⟩; replace BK130 := Aside0.mk (blk_below (g := gb130) (o := .cells #[.slice none 0 0, .slice none 0 0, .slice none 0 0] 26 (0, 0)) BK130.out hb); replace HB := Aside0.mk (below_step HB.out hb); clear hb) | (go_at_call 65; (with_reducible refine (clepsydraref01_Bits.calls _ _ l1 t132 _ ?side1 ?side2 A9.out).mono ?_); (case side1 => exact (Kd.C_below HR1.out HB.out)); (case side2 => exact HC1.out); rintro e w16 ⟨rfl, hb⟩; replace BK130 := Aside0.mk (blk_below (g := gb130) (o := .cells #[.slice none 0 0, .slice none 0 0, .slice none 0 0] 26 (0, 0)) BK130.out hb); replace HB := Aside0.mk (below_step HB.out hb); clear hb) | (go_at_call 66; (with_reducible refine (clepsydraref01_Cmp.calls _ _ l0 _ _ l1 t133 _ ?side1 ?side2 ?side3 ?side4 A13.out).mono ?_); (case side1 => exact (Kd.C_below HR0.out HB.out)); (case side2 => exact HC0.out); (case side3 => exact (Kd.C_below HR1.out HB.out)); (case side4 => exact HC1.out); rintro e w17 ⟨rfl, hb⟩; replace BK130 := Aside0.mk (blk_below (g := gb130) (o := .cells #[.slice none 0 0, .slice none 0 0, .slice none 0 0] 26 (0, 0)) BK130.out hb); replace HB := Aside0.mk (below_step HB.out hb); clear hb))
     go_meet
     case rel => exact ⟨_, (true), (by rfl), H', ⟨by omega⟩, ⟨by exact BK130.out⟩, ⟨HB.out⟩⟩
    ·rw [if_neg c14] at H
     have c14b0 : (t133 == 0) = false := beq_eq_false_iff_ne.mpr c14
     have c14b1 : (t133 != 0) = true := bne_iff_ne.mpr c14
     by_cases c18 : (Int.tmod a2 2) = 0
     ·rw [if_pos c18] at H
      have c18b0 : ((Int.tmod a2 2) == 0) = true := beq_iff_eq.mpr c18
      have c18b1 : ((Int.tmod a2 2) != 0) = false := bne_eq_false_iff_eq.mpr c18
      clear c18
      have H' := Aside0.mk H
      clear H
      go_wp2_with (first | ((with_reducible refine gate_callee (f := 65) rfl ?_); refine goesL_ (some 12) rfl rfl Tryz.func65 (by kernel_rfl) rfl #[.slice A0 l0.length c0] rfl (by (try simp only [List.map_toArray, List.map_cons, List.map_nil]); rfl) ?_; (with_reducible refine (clepsydraref01_Bits.calls _ _ l0 t131 _ ?side1 ?side2 A6.out).mono ?_); (case side1 => exact (Kd.C_below HR0.out HB.out)); (case side2 => exact HC0.out); rintro e w19 ⟨rfl, hb⟩; refine ⟨_, rfl, ?_⟩; replace BK130 := Aside0.mk (blk_below (g := gb130) (o := .cells #[.slice none 0 0, .slice none 0 0, .slice none 0 0] 26 (0, 0)) BK130.out hb); replace HB := Aside0.mk (below_step HB.out hb); clear hb) | (go_at_call 65; (with_reducible refine (clepsydraref01_Bits.calls _ _ l1 t132 _ ?side1 ?side2 A9.out).mono ?_); (case side1 => exact (Kd.C_below HR1.out HB.out)); (case side2 => exact HC1.out); rintro e w20 ⟨rfl, hb⟩; replace BK130 := Aside0.mk (blk_below (g := gb130) (o := .cells #[.slice none 0 0, .slice none 0 0, .slice none 0 0] 26 (0, 0)) BK130.out hb); replace HB := Aside0.mk (below_step HB.out hb); clear hb) | (go_at_call 66; (with_reducible refine (clepsydraref01_Cmp.calls _ _ l0 _ _ l1 t133 _ ?side1 ?side2 ?side3 ?side4 A13.out).mono ?_); (case side1 => exact (Kd.C_below HR0.out HB.out)); (case side2 => exact HC0.out); (case side3 => exact (Kd.C_below HR1.out HB.out)); (case side4 => exact HC1.out); rintro e w21 ⟨rfl, hb⟩; replace BK130 := Aside0.mk (blk_below (g := gb130) (o := .cells #[.slice none 0 0, .slice none 0 0, .slice none 0 0] 26 (0, 0)) BK130.out hb); replace HB := Aside0.mk (below_step HB.out hb); clear hb))
      go_meet
      case rel => exact ⟨_, (true), (by rfl), H', ⟨by omega⟩, ⟨by exact BK130.out⟩, ⟨HB.out⟩⟩
     ·rw [if_neg c18] at H
      have c18b0 : ((Int.tmod a2 2) == 0) = false := beq_eq_false_iff_ne.mpr c18
      have c18b1 : ((Int.tmod a2 2) != 0) = true := bne_iff_ne.mpr c18
      have H' := Aside0.mk H
      clear H
      go_wp2_with (first | ((with_reducible refine gate_callee (f := 65) rfl ?_); refine goesL_ (some 12) rfl rfl Tryz.func65 (by kernel_rfl) rfl #[.slice A0 l0.length c0] rfl (by (try simp only [List.map_toArray, List.map_cons, List.map_nil]); rfl) ?_; (with_reducible refine (clepsydraref01_Bits.calls _ _ l0 t131 _ ?side1 ?side2 A6.out).mono ?_); (case side1 => exact (Kd.C_below HR0.out HB.out)); (case side2 => exact HC0.out); rintro e w22 ⟨rfl, hb⟩; refine ⟨_, rfl, ?_⟩; replace BK130 := Aside0.mk (blk_below (g := gb130) (o := .cells #[.slice none 0 0, .slice none 0 0, .slice none 0 0] 26 (0, 0)) BK130.out hb); replace HB := Aside0.mk (below_step HB.out hb); clear hb) | (go_at_call 65; (with_reducible refine (clepsydraref01_Bits.calls _ _ l1 t132 _ ?side1 ?side2 A9.out).mono ?_); (case side1 => exact (Kd.C_below HR1.out HB.out)); (case side2 => exact HC1.out); rintro e w23 ⟨rfl, hb⟩; replace BK130 := Aside0.mk (blk_below (g := gb130) (o := .cells #[.slice none 0 0, .slice none 0 0, .slice none 0 0] 26 (0, 0)) BK130.out hb); replace HB := Aside0.mk (below_step HB.out hb); clear hb) | (go_at_call 66; (with_reducible refine (clepsydraref01_Cmp.calls _ _ l0 _ _ l1 t133 _ ?side1 ?side2 ?side3 ?side4 A13.out).mono ?_); (case side1 => exact (Kd.C_below HR0.out HB.out)); (case side2 => exact HC0.out); (case side3 => exact (Kd.C_below HR1.out HB.out)); (case side4 => exact HC1.out); rintro e w24 ⟨rfl, hb⟩; replace BK130 := Aside0.mk (blk_below (g := gb130) (o := .cells #[.slice none 0 0, .slice none 0 0, .slice none 0 0] 26 (0, 0)) BK130.out hb); replace HB := Aside0.mk (below_step HB.out hb); clear hb))
      go_meet
      case rel => exact ⟨_, (decide (a2 < 3)), (by rfl), H', ⟨by omega⟩, ⟨by exact BK130.out⟩, ⟨HB.out⟩⟩
 case rest =>
  clear HC4
  try clear c1
  try clear p2
  try clear c6
  try clear c7
  try clear c7b0
  try clear c10
  try clear c10b0
  try clear c13
  try clear c14
  try clear c14b0
  try clear c14b1
  try clear c18
  try clear c18b0
  try clear c18b1
  obtain ⟨kq, x33_3, rfl, HA, HJ3, BK130, HB⟩ := hcut
  cases kq with
  | zero => exact absurd HA.out (by simp [clepsydraref05_Make.j0])
  | succ kj3 =>
   have H := HA.out
   clear HA
   simp only [clepsydraref05_Make.j0] at H
   by_cases c25 : x33_3 = true
   ·subst c25
    rw [if_pos rfl] at H
    simp only [Option.some.injEq, Prod.mk.injEq] at H
    obtain ⟨rfl, rfl, rfl, rfl⟩ := H
    have hcz26_0 : wc.cell? ⟨gb130, 0, none⟩ = some (.slice none 0 0) := (blk_cell BK130.out 0).trans rfl
    have hcz26_1 : wc.cell? ⟨gb130, 1, none⟩ = some (.slice none 0 0) := (blk_cell BK130.out 1).trans rfl
    have hcz26_2 : wc.cell? ⟨gb130, 2, none⟩ = some (.slice none 0 0) := (blk_cell BK130.out 2).trans rfl
    have hfz26_0 := blk_frozen BK130.out 0
    have hfz26_1 := blk_frozen BK130.out 1
    have hfz26_2 := blk_frozen BK130.out 2
    go_wp2
    refine bodyPost_ret (results_ct rfl _ _ gb130 26 #[.slice none 0 0, .slice none 0 0, .slice none 0 0] (0, 0) _ rfl (by refine blk_put (cs := #[.slice none 0 0, .slice none 0 0, .slice none 0 0]) ?_ 2 _ rfl; refine blk_put (cs := #[.slice none 0 0, .slice none 0 0, .slice none 0 0]) ?_ 1 _ rfl; refine blk_put (cs := #[.slice none 0 0, .slice none 0 0, .slice none 0 0]) ?_ 0 _ rfl; exact BK130.out) Tryz.underlying26 rfl (by kernel_rfl)) rfl ?_
    exact ⟨_, _, _, by rfl, by (exact Kd.R_nil _ _ _ _ _), by (exact Kd.R_nil _ _ _ _ _), by (exact Kd.R_nil _ _ _ _ _), by repeat ((with_reducible first | exact HB.out | refine below_set ?_ GE130.out))⟩
   ·replace c25 := Bool.eq_false_iff.mpr c25
    subst c25
    rw [if_neg (show ¬ (false = true) by decide)] at H
    have HC27 := Aside0.mk H
    clear H
    go_upto_region 3 with (fail)
    go_cut [44] (fun v44 wc => ∃ (kq : Nat) (x44_26 : Bool), v44 = .bool x44_26 ∧ Aside0 (clepsydraref05_Make.j1 kq l0 l1 a2 x44_26 = some (r1, r2, r3, r4)) ∧ Aside0 (kq ≤ kj3) ∧ Aside0 (wc.heap[gb130]? = some (.cells #[(.slice none 0 0), (.slice none 0 0), (.slice none 0 0)] 26 (0, 0))) ∧ Aside0 (Below w.heap.size w wc))
    case first =>
     have H := HC27.out
     clear HC27
     replace H := Option.bind_eq_some_iff.mp H
     obtain ⟨t134, A280, H⟩ := H
     try dsimp only at H
     have A28 := Aside0.mk A280
     clear A280
     replace H := Option.bind_eq_some_iff.mp H
     obtain ⟨t137, A290, H⟩ := H
     try dsimp only at H
     have A29 := Aside0.mk A290
     clear A290
     by_cases c30 : t137 = true
     ·subst c30
      rw [if_pos rfl] at H
      replace H := Option.bind_eq_some_iff.mp H
      obtain ⟨t138, A310, H⟩ := H
      try dsimp only at H
      have A31 := Aside0.mk A310
      clear A310
      replace H := Option.bind_eq_some_iff.mp H
      obtain ⟨t141, A320, H⟩ := H
      try dsimp only at H
      have A32 := Aside0.mk A320
      clear A320
      have H' := Aside0.mk H
      clear H
      go_wp2_with (first | ((with_reducible refine gate_callee (f := 68) rfl ?_); refine goesL_ (some 36) rfl rfl Tryz.func68 (by kernel_rfl) rfl #[] rfl (by (try simp only [List.map_toArray, List.map_cons, List.map_nil]); done) ?_; (with_reducible refine (clepsydraref05_Bases.calls  t134 _ A28.out).mono ?_); rintro e w33 ⟨v135, rfl, ho0, hb⟩; refine ⟨_, rfl, ?_⟩; have HO136 := Aside0.mk (Kd.R_lower ho0 (below_size HB.out)); replace BK130 := Aside0.mk (blk_below (g := gb130) (o := .cells #[.slice none 0 0, .slice none 0 0, .slice none 0 0] 26 (0, 0)) BK130.out hb); replace HB := Aside0.mk (below_step HB.out hb); clear hb ho0; obtain ⟨Ao34, co34, eo34⟩ := Kd.R_slice HO136.out; subst eo34) | ((with_reducible refine gate_callee (f := 67) rfl ?_); refine goesL_ (some 37) rfl rfl Tryz.func67 (by kernel_rfl) rfl #[.slice A0 l0.length c0, .slice Ao34 t134.length co34] rfl (by (try simp only [List.map_toArray, List.map_cons, List.map_nil]); rfl) ?_; (with_reducible refine (clepsydraref03_Prime.calls _ _ l0 _ _ t134 true _ ?side1 ?side2 ?side3 ?side4 A29.out).mono ?_); (case side1 => exact (Kd.C_below HR0.out HB.out)); (case side2 => exact HC0.out); (case side3 => exact (Kd.R_reads' HO136.out).2.2); (case side4 => exact (Kd.R_reads' HO136.out).2.1); rintro e w35 ⟨rfl, hb⟩; refine ⟨_, rfl, ?_⟩; replace HO136 := Aside0.mk (Kd.R_below HO136.out hb); replace BK130 := Aside0.mk (blk_below (g := gb130) (o := .cells #[.slice none 0 0, .slice none 0 0, .slice none 0 0] 26 (0, 0)) BK130.out hb); replace HB := Aside0.mk (below_step HB.out hb); clear hb) | (go_at_call 68; (with_reducible refine (clepsydraref05_Bases.calls  t138 _ A31.out).mono ?_); rintro e w36 ⟨v139, rfl, ho0, hb⟩; have HO140 := Aside0.mk (Kd.R_lower (Kd.R_new' ho0 (Kd.R_lt HO136.out)) (below_size HB.out)); replace HO136 := Aside0.mk (Kd.R_elder' HO136.out (Kd.R_base ho0) hb); replace BK130 := Aside0.mk (blk_below (g := gb130) (o := .cells #[.slice none 0 0, .slice none 0 0, .slice none 0 0] 26 (0, 0)) BK130.out hb); replace HB := Aside0.mk (below_step HB.out hb); clear hb ho0; obtain ⟨Ao37, co37, eo37⟩ := Kd.R_slice HO140.out; subst eo37) | (go_at_call 67; (with_reducible refine (clepsydraref03_Prime.calls _ _ l1 _ _ t138 t141 _ ?side1 ?side2 ?side3 ?side4 A32.out).mono ?_); (case side1 => exact (Kd.C_below HR1.out HB.out)); (case side2 => exact HC1.out); (case side3 => exact (Kd.R_reads' HO140.out).2.2); (case side4 => exact (Kd.R_reads' HO140.out).2.1); rintro e w38 ⟨rfl, hb⟩; replace HO136 := Aside0.mk (Kd.R_below HO136.out hb); replace HO140 := Aside0.mk (Kd.R_below HO140.out hb); replace BK130 := Aside0.mk (blk_below (g := gb130) (o := .cells #[.slice none 0 0, .slice none 0 0, .slice none 0 0] 26 (0, 0)) BK130.out hb); replace HB := Aside0.mk (below_step HB.out hb); clear hb))
      go_meet
      case rel => exact ⟨_, (!t141), (by rfl), H', ⟨by have := HJ3.out; omega⟩, ⟨by exact BK130.out⟩, ⟨HB.out⟩⟩
     ·replace c30 := Bool.eq_false_iff.mpr c30
      subst c30
      rw [if_neg (show ¬ (false = true) by decide)] at H
      have H' := Aside0.mk H
      clear H
      go_wp2_with (first | ((with_reducible refine gate_callee (f := 68) rfl ?_); refine goesL_ (some 36) rfl rfl Tryz.func68 (by kernel_rfl) rfl #[] rfl (by (try simp only [List.map_toArray, List.map_cons, List.map_nil]); done) ?_; (with_reducible refine (clepsydraref05_Bases.calls  t134 _ A28.out).mono ?_); rintro e w39 ⟨v135, rfl, ho0, hb⟩; refine ⟨_, rfl, ?_⟩; have HO136 := Aside0.mk (Kd.R_lower ho0 (below_size HB.out)); replace BK130 := Aside0.mk (blk_below (g := gb130) (o := .cells #[.slice none 0 0, .slice none 0 0, .slice none 0 0] 26 (0, 0)) BK130.out hb); replace HB := Aside0.mk (below_step HB.out hb); clear hb ho0; obtain ⟨Ao40, co40, eo40⟩ := Kd.R_slice HO136.out; subst eo40) | ((with_reducible refine gate_callee (f := 67) rfl ?_); refine goesL_ (some 37) rfl rfl Tryz.func67 (by kernel_rfl) rfl #[.slice A0 l0.length c0, .slice Ao40 t134.length co40] rfl (by (try simp only [List.map_toArray, List.map_cons, List.map_nil]); rfl) ?_; (with_reducible refine (clepsydraref03_Prime.calls _ _ l0 _ _ t134 false _ ?side1 ?side2 ?side3 ?side4 A29.out).mono ?_); (case side1 => exact (Kd.C_below HR0.out HB.out)); (case side2 => exact HC0.out); (case side3 => exact (Kd.R_reads' HO136.out).2.2); (case side4 => exact (Kd.R_reads' HO136.out).2.1); rintro e w41 ⟨rfl, hb⟩; refine ⟨_, rfl, ?_⟩; replace HO136 := Aside0.mk (Kd.R_below HO136.out hb); replace BK130 := Aside0.mk (blk_below (g := gb130) (o := .cells #[.slice none 0 0, .slice none 0 0, .slice none 0 0] 26 (0, 0)) BK130.out hb); replace HB := Aside0.mk (below_step HB.out hb); clear hb))
      go_meet
      case rel => exact ⟨_, (true), (by rfl), H', ⟨by have := HJ3.out; omega⟩, ⟨by exact BK130.out⟩, ⟨HB.out⟩⟩
    case rest =>
     clear HC27
     try clear c1
     try clear c2
     try clear p2
     try clear c3
     try clear c6
     try clear c7
     try clear c7b0
     try clear c10
     try clear c10b0
     try clear c13
     try clear c14
     try clear c14b0
     try clear c14b1
     try clear c18
     try clear c18b0
     try clear c18b1
     try clear c25
     try clear c30
     try clear hcz26_0
     try clear hcz26_1
     try clear hcz26_2
     try clear hfz26_0
     try clear hfz26_1
     try clear hfz26_2
     try clear p2
     obtain ⟨kq, x44_26, rfl, HA, HJ26, BK130, HB⟩ := hcut
     cases kq with
     | zero => exact absurd HA.out (by simp [clepsydraref05_Make.j1])
     | succ kj26 =>
      have H := HA.out
      clear HA
      simp only [clepsydraref05_Make.j1] at H
      by_cases c42 : x44_26 = true
      ·subst c42
       rw [if_pos rfl] at H
       simp only [Option.some.injEq, Prod.mk.injEq] at H
       obtain ⟨rfl, rfl, rfl, rfl⟩ := H
       have hcz43_0 : wc.cell? ⟨gb130, 0, none⟩ = some (.slice none 0 0) := (blk_cell BK130.out 0).trans rfl
       have hcz43_1 : wc.cell? ⟨gb130, 1, none⟩ = some (.slice none 0 0) := (blk_cell BK130.out 1).trans rfl
       have hcz43_2 : wc.cell? ⟨gb130, 2, none⟩ = some (.slice none 0 0) := (blk_cell BK130.out 2).trans rfl
       have hfz43_0 := blk_frozen BK130.out 0
       have hfz43_1 := blk_frozen BK130.out 1
       have hfz43_2 := blk_frozen BK130.out 2
       go_wp2
       refine bodyPost_ret (results_ct rfl _ _ gb130 26 #[.slice none 0 0, .slice none 0 0, .slice none 0 0] (0, 0) _ rfl (by refine blk_put (cs := #[.slice none 0 0, .slice none 0 0, .slice none 0 0]) ?_ 2 _ rfl; refine blk_put (cs := #[.slice none 0 0, .slice none 0 0, .slice none 0 0]) ?_ 1 _ rfl; refine blk_put (cs := #[.slice none 0 0, .slice none 0 0, .slice none 0 0]) ?_ 0 _ rfl; exact BK130.out) Tryz.underlying26 rfl (by kernel_rfl)) rfl ?_
       exact ⟨_, _, _, by rfl, by (exact Kd.R_nil _ _ _ _ _), by (exact Kd.R_nil _ _ _ _ _), by (exact Kd.R_nil _ _ _ _ _), by repeat ((with_reducible first | exact HB.out | refine below_set ?_ GE130.out))⟩
      ·replace c42 := Bool.eq_false_iff.mpr c42
       subst c42
       rw [if_neg (show ¬ (false = true) by decide)] at H
       replace H := Option.bind_eq_some_iff.mp H
       obtain ⟨t142, A440, H⟩ := H
       try dsimp only at H
       have A44 := Aside0.mk A440
       clear A440
       replace H := Option.bind_eq_some_iff.mp H
       obtain ⟨t145, A450, H⟩ := H
       try dsimp only at H
       have A45 := Aside0.mk A450
       clear A450
       replace H := Option.bind_eq_some_iff.mp H
       obtain ⟨t148, A460, H⟩ := H
       try dsimp only at H
       have A46 := Aside0.mk A460
       clear A460
       replace H := Option.bind_eq_some_iff.mp H
       obtain ⟨t151, A470, H⟩ := H
       try dsimp only at H
       have A47 := Aside0.mk A470
       clear A470
       replace H := Option.bind_eq_some_iff.mp H
       obtain ⟨⟨t154, t155⟩, A480, H⟩ := H
       try dsimp only at H
       have A48 := Aside0.mk A480
       clear A480
       replace H := Option.bind_eq_some_iff.mp H
       obtain ⟨t158, A490, H⟩ := H
       try dsimp only at H
       have A49 := Aside0.mk A490
       clear A490
       replace H := Option.bind_eq_some_iff.mp H
       obtain ⟨t161, A500, H⟩ := H
       try dsimp only at H
       have A50 := Aside0.mk A500
       clear A500
       by_cases c51 : t155 = 0
       ·rw [if_pos c51] at H
        have c51b0 : (t155 == 0) = true := beq_iff_eq.mpr c51
        have c51b1 : (t155 != 0) = false := bne_eq_false_iff_eq.mpr c51
        clear c51
        replace H := Option.bind_eq_some_iff.mp H
        obtain ⟨t165, A520, H⟩ := H
        try dsimp only at H
        have A52 := Aside0.mk A520
        clear A520
        by_cases c53 : t165 = 0
        ·rw [if_pos c53] at H
         have c53b0 : (t165 == 0) = true := beq_iff_eq.mpr c53
         have c53b1 : (t165 != 0) = false := bne_eq_false_iff_eq.mpr c53
         clear c53
         simp only [Option.some.injEq, Prod.mk.injEq] at H
         obtain ⟨rfl, rfl, rfl, rfl⟩ := H
         go_wp2_with (first | ((with_reducible refine gate_callee (f := 70) rfl ?_); refine goesL_ (some 48) rfl rfl Tryz.func70 (by kernel_rfl) rfl #[.int .u64 a2] rfl (by (try simp only [List.map_toArray, List.map_cons, List.map_nil]); rfl) ?_; (with_reducible refine (clepsydraref05_small.calls a2 t142 _ A44.out).mono ?_); rintro e w54 ⟨v143, rfl, ho0, hb⟩; refine ⟨_, rfl, ?_⟩; have HO144 := Aside0.mk (Kd.R_lower ho0 (below_size HB.out)); replace BK130 := Aside0.mk (blk_below (g := gb130) (o := .cells #[.slice none 0 0, .slice none 0 0, .slice none 0 0] 26 (0, 0)) BK130.out hb); replace HB := Aside0.mk (below_step HB.out hb); clear hb ho0) | ((with_reducible refine gate_callee (f := 72) rfl ?_); refine goesL_ (some 50) rfl rfl Tryz.func72 (by kernel_rfl) rfl #[.slice A0 l0.length c0] rfl (by (try simp only [List.map_toArray, List.map_cons, List.map_nil]); rfl) ?_; (with_reducible refine (clepsydraref05_less.calls _ _ l0 t145 _ ?side1 ?side2 A45.out).mono ?_); (case side1 => exact (Kd.C_below HR0.out HB.out)); (case side2 => exact HC0.out); rintro e w55 ⟨v146, rfl, ho0, hb⟩; refine ⟨_, rfl, ?_⟩; have HO147 := Aside0.mk (Kd.R_lower (Kd.R_new' ho0 (Kd.R_lt HO144.out)) (below_size HB.out)); replace HO144 := Aside0.mk (Kd.R_elder' HO144.out (Kd.R_base ho0) hb); replace BK130 := Aside0.mk (blk_below (g := gb130) (o := .cells #[.slice none 0 0, .slice none 0 0, .slice none 0 0] 26 (0, 0)) BK130.out hb); replace HB := Aside0.mk (below_step HB.out hb); clear hb ho0) | ((with_reducible refine gate_callee (f := 72) rfl ?_); refine goesL_ (some 52) rfl rfl Tryz.func72 (by kernel_rfl) rfl #[.slice A1 l1.length c1] rfl (by (try simp only [List.map_toArray, List.map_cons, List.map_nil]); rfl) ?_; (with_reducible refine (clepsydraref05_less.calls _ _ l1 t148 _ ?side1 ?side2 A46.out).mono ?_); (case side1 => exact (Kd.C_below HR1.out HB.out)); (case side2 => exact HC1.out); rintro e w56 ⟨v149, rfl, ho0, hb⟩; refine ⟨_, rfl, ?_⟩; have HO150 := Aside0.mk (Kd.R_lower (Kd.R_new' (Kd.R_new' ho0 (Kd.R_lt HO144.out)) (Kd.R_lt HO147.out)) (below_size HB.out)); replace HO144 := Aside0.mk (Kd.R_elder' HO144.out (Kd.R_base ho0) hb); replace HO147 := Aside0.mk (Kd.R_elder' HO147.out (Kd.R_base ho0) hb); replace BK130 := Aside0.mk (blk_below (g := gb130) (o := .cells #[.slice none 0 0, .slice none 0 0, .slice none 0 0] 26 (0, 0)) BK130.out hb); replace HB := Aside0.mk (below_step HB.out hb); clear hb ho0; obtain ⟨Ao57, co57, eo57⟩ := Kd.R_slice HO147.out; subst eo57; obtain ⟨Ao58, co58, eo58⟩ := Kd.R_slice HO150.out; subst eo58) | ((with_reducible refine gate_callee (f := 71) rfl ?_); refine goesL_ (some 53) rfl rfl Tryz.func71 (by kernel_rfl) rfl #[.slice Ao57 t145.length co57, .slice Ao58 t148.length co58] rfl (by (try simp only [List.map_toArray, List.map_cons, List.map_nil]); rfl) ?_; (with_reducible refine (clepsydraref01_Mul.calls _ _ t145 _ _ t148 t151 _ ?side1 ?side2 ?side3 ?side4 A47.out).mono ?_); (case side1 => exact (Kd.R_reads' HO147.out).2.2); (case side2 => exact (Kd.R_reads' HO147.out).2.1); (case side3 => exact (Kd.R_reads' HO150.out).2.2); (case side4 => exact (Kd.R_reads' HO150.out).2.1); rintro e w59 ⟨v152, rfl, ho0, hb⟩; refine ⟨_, rfl, ?_⟩; have HO153 := Aside0.mk (Kd.R_lower (Kd.R_new' (Kd.R_new' (Kd.R_new' ho0 (Kd.R_lt HO144.out)) (Kd.R_lt HO147.out)) (Kd.R_lt HO150.out)) (below_size HB.out)); replace HO144 := Aside0.mk (Kd.R_elder' HO144.out (Kd.R_base ho0) hb); replace HO147 := Aside0.mk (Kd.R_elder' HO147.out (Kd.R_base ho0) hb); replace HO150 := Aside0.mk (Kd.R_elder' HO150.out (Kd.R_base ho0) hb); replace BK130 := Aside0.mk (blk_below (g := gb130) (o := .cells #[.slice none 0 0, .slice none 0 0, .slice none 0 0] 26 (0, 0)) BK130.out hb); replace HB := Aside0.mk (below_step HB.out hb); clear hb ho0; obtain ⟨Ao60, co60, eo60⟩ := Kd.R_slice HO144.out; subst eo60; obtain ⟨Ao61, co61, eo61⟩ := Kd.R_slice HO153.out; subst eo61) | ((with_reducible refine gate_callee (f := 69) rfl ?_); refine goesL_ (some 54) rfl rfl Tryz.func69 (by kernel_rfl) rfl #[.slice Ao60 t142.length co60, .slice Ao61 t151.length co61] rfl (by (try simp only [List.map_toArray, List.map_cons, List.map_nil]); rfl) ?_; (with_reducible refine (clepsydraref03_Inverse.calls _ _ t142 _ _ t151 t154 t155 _ ?side1 ?side2 ?side3 ?side4 A48.out).mono ?_); (case side1 => exact (Kd.R_reads' HO144.out).2.2); (case side2 => exact (Kd.R_reads' HO144.out).2.1); (case side3 => exact (Kd.R_reads' HO153.out).2.2); (case side4 => exact (Kd.R_reads' HO153.out).2.1); rintro e w62 ⟨v156, rfl, ho0, hb⟩; refine ⟨_, rfl, ?_⟩; have HO157 := Aside0.mk (Kd.R_lower (Kd.R_new' (Kd.R_new' (Kd.R_new' (Kd.R_new' ho0 (Kd.R_lt HO144.out)) (Kd.R_lt HO147.out)) (Kd.R_lt HO150.out)) (Kd.R_lt HO153.out)) (below_size HB.out)); replace HO144 := Aside0.mk (Kd.R_elder' HO144.out (Kd.R_base ho0) hb); replace HO147 := Aside0.mk (Kd.R_elder' HO147.out (Kd.R_base ho0) hb); replace HO150 := Aside0.mk (Kd.R_elder' HO150.out (Kd.R_base ho0) hb); replace HO153 := Aside0.mk (Kd.R_elder' HO153.out (Kd.R_base ho0) hb); replace BK130 := Aside0.mk (blk_below (g := gb130) (o := .cells #[.slice none 0 0, .slice none 0 0, .slice none 0 0] 26 (0, 0)) BK130.out hb); replace HB := Aside0.mk (below_step HB.out hb); clear hb ho0) | ((with_reducible refine gate_callee (f := 71) rfl ?_); refine goesL_ (some 59) rfl rfl Tryz.func71 (by kernel_rfl) rfl #[.slice A0 l0.length c0, .slice A1 l1.length c1] rfl (by (try simp only [List.map_toArray, List.map_cons, List.map_nil]); rfl) ?_; (with_reducible refine (clepsydraref01_Mul.calls _ _ l0 _ _ l1 t158 _ ?side1 ?side2 ?side3 ?side4 A49.out).mono ?_); (case side1 => exact (Kd.C_below HR0.out HB.out)); (case side2 => exact HC0.out); (case side3 => exact (Kd.C_below HR1.out HB.out)); (case side4 => exact HC1.out); rintro e w63 ⟨v159, rfl, ho0, hb⟩; refine ⟨_, rfl, ?_⟩; have HO160 := Aside0.mk (Kd.R_lower (Kd.R_new' (Kd.R_new' (Kd.R_new' (Kd.R_new' (Kd.R_new' ho0 (Kd.R_lt HO144.out)) (Kd.R_lt HO147.out)) (Kd.R_lt HO150.out)) (Kd.R_lt HO153.out)) (Kd.R_lt HO157.out)) (below_size HB.out)); replace HO144 := Aside0.mk (Kd.R_elder' HO144.out (Kd.R_base ho0) hb); replace HO147 := Aside0.mk (Kd.R_elder' HO147.out (Kd.R_base ho0) hb); replace HO150 := Aside0.mk (Kd.R_elder' HO150.out (Kd.R_base ho0) hb); replace HO153 := Aside0.mk (Kd.R_elder' HO153.out (Kd.R_base ho0) hb); replace HO157 := Aside0.mk (Kd.R_elder' HO157.out (Kd.R_base ho0) hb); replace BK130 := Aside0.mk (blk_below (g := gb130) (o := .cells #[.slice none 0 0, .slice none 0 0, .slice none 0 0] 26 (0, 0)) BK130.out hb); replace HB := Aside0.mk (below_step HB.out hb); clear hb ho0) | ((with_reducible refine gate_callee (f := 70) rfl ?_); refine goesL_ (some 61) rfl rfl Tryz.func70 (by kernel_rfl) rfl #[.int .u64 a2] rfl (by (try simp only [List.map_toArray, List.map_cons, List.map_nil]); rfl) ?_; (with_reducible refine (clepsydraref05_small.calls a2 t161 _ A50.out).mono ?_); rintro e w64 ⟨v162, rfl, ho0, hb⟩; refine ⟨_, rfl, ?_⟩; have HO163 := Aside0.mk (Kd.R_lower (Kd.R_new' (Kd.R_new' (Kd.R_new' (Kd.R_new' (Kd.R_new' (Kd.R_new' ho0 (Kd.R_lt HO144.out)) (Kd.R_lt HO147.out)) (Kd.R_lt HO150.out)) (Kd.R_lt HO153.out)) (Kd.R_lt HO157.out)) (Kd.R_lt HO160.out)) (below_size HB.out)); replace HO144 := Aside0.mk (Kd.R_elder' HO144.out (Kd.R_base ho0) hb); replace HO147 := Aside0.mk (Kd.R_elder' HO147.out (Kd.R_base ho0) hb); replace HO150 := Aside0.mk (Kd.R_elder' HO150.out (Kd.R_base ho0) hb); replace HO153 := Aside0.mk (Kd.R_elder' HO153.out (Kd.R_base ho0) hb); replace HO157 := Aside0.mk (Kd.R_elder' HO157.out (Kd.R_base ho0) hb); replace HO160 := Aside0.mk (Kd.R_elder' HO160.out (Kd.R_base ho0) hb); replace BK130 := Aside0.mk (blk_below (g := gb130) (o := .cells #[.slice none 0 0, .slice none 0 0, .slice none 0 0] 26 (0, 0)) BK130.out hb); replace HB := Aside0.mk (below_step HB.out hb); clear hb ho0; obtain ⟨Ao65, co65, eo65⟩ := Kd.R_slice HO157.out; subst eo65; obtain ⟨Ao66, co66, eo66⟩ := Kd.R_slice HO163.out; subst eo66; obtain ⟨Ao67, co67, eo67⟩ := Kd.R_slice HO160.out; subst eo67) | ((with_reducible refine gate_dst (N := 10) rfl ?_); refine box_event ?hg (N := 10) ?hd (cs := #[.slice none 0 0, .slice none 0 0, .slice none 0 0]) (t := 26) ?hr ?_; (case hd => rfl); (case hg => rfl); (case hr => (go_simp; done)); intro gb164 hg w68 hbox hb; replace HO144 := Aside0.mk (Kd.R_below HO144.out hb); replace HO147 := Aside0.mk (Kd.R_below HO147.out hb); replace HO150 := Aside0.mk (Kd.R_below HO150.out hb); replace HO153 := Aside0.mk (Kd.R_below HO153.out hb); replace HO157 := Aside0.mk (Kd.R_below HO157.out hb); replace HO160 := Aside0.mk (Kd.R_below HO160.out hb); replace HO163 := Aside0.mk (Kd.R_below HO163.out hb); have BK164 := Aside0.mk (hbox); have GW164 := Aside0.mk ((by rw [hg]; exact (below_size HB.out) : w.heap.size ≤ gb164)); have GE164 := Aside0.mk ((by rw [hg]; exact (below_size HB.out) : w.heap.size ≤ gb164)); replace HB := Aside0.mk (below_step HB.out hb); have NB130_164 := Aside0.mk ((by rw [hg]; exact Nat.ne_of_lt (blk_lt (g := gb130) (o := .cells #[.slice none 0 0, .slice none 0 0, .slice none 0 0] 26 (0, 0)) BK130.out) : gb130 ≠ gb164)); have NB164_130 := Aside0.mk ((by rw [hg]; exact Nat.ne_of_gt (blk_lt (g := gb130) (o := .cells #[.slice none 0 0, .slice none 0 0, .slice none 0 0] 26 (0, 0)) BK130.out) : gb164 ≠ gb130)); replace BK130 := Aside0.mk (blk_below (g := gb130) (o := .cells #[.slice none 0 0, .slice none 0 0, .slice none 0 0] 26 (0, 0)) BK130.out hb); clear hb hbox hg; have hnb69 := NB164_130.out; have hnc69 := NB130_164.out; have hcz70_0 : w68.cell? ⟨gb164, 0, none⟩ = some (.slice none 0 0) := (blk_cell BK164.out 0).trans rfl; have hcz70_1 : w68.cell? ⟨gb164, 1, none⟩ = some (.slice none 0 0) := (blk_cell BK164.out 1).trans rfl; have hcz70_2 : w68.cell? ⟨gb164, 2, none⟩ = some (.slice none 0 0) := (blk_cell BK164.out 2).trans rfl; have hfz70_0 := blk_frozen BK164.out 0; have hfz70_1 := blk_frozen BK164.out 1; have hfz70_2 := blk_frozen BK164.out 2) | (go_at_call 73; (with_reducible refine (clepsydraref05_Right.calls kj26 _ _ t158 _ _ t161 _ _ t154 t165 _ ?side1 ?side2 ?side3 ?side4 ?side5 ?side6 A52.out).mono ?_); (case side1 => refine (Kd.R_reads' (e := 23) (base := w.heap.size) (ok := fun k_ => ((((((True ∧ some k_ ≠ (.slice Ao60 t142.length co60 : Value).ownBlock) ∧ some k_ ≠ (.slice Ao57 t145.length co57 : Value).ownBlock) ∧ some k_ ≠ (.slice Ao58 t148.length co58 : Value).ownBlock) ∧ some k_ ≠ (.slice Ao61 t151.length co61 : Value).ownBlock) ∧ some k_ ≠ (.slice Ao65 t154.length co65 : Value).ownBlock) ∧ some k_ ≠ (.slice Ao66 t161.length co66 : Value).ownBlock)) (n := t158.length) (c := co67) ?_).2.2; exact (by exact (Kd.R_mono (Kd.R_far (p := ⟨gb164, 2, none⟩) (Kd.R_far (p := ⟨gb164, 1, none⟩) (Kd.R_far (p := ⟨gb164, 0, none⟩) (Kd.R_types HO160.out BK164.out (by decide)) (fun _ hk => hk.2) (.slice Ao67 t158.length co67)) (fun _ hk => hk.2) (.slice Ao66 t161.length co66)) (fun _ hk => hk.2) (.slice Ao65 t154.length co65)) (fun _ h_ => h_.1)))); (case side2 => exact (Kd.R_reads' HO160.out).2.1); (case side3 => refine (Kd.R_reads' (e := 23) (base := w.heap.size) (ok := fun k_ => ((((((True ∧ some k_ ≠ (.slice Ao60 t142.length co60 : Value).ownBlock) ∧ some k_ ≠ (.slice Ao57 t145.length co57 : Value).ownBlock) ∧ some k_ ≠ (.slice Ao58 t148.length co58 : Value).ownBlock) ∧ some k_ ≠ (.slice Ao61 t151.length co61 : Value).ownBlock) ∧ some k_ ≠ (.slice Ao65 t154.length co65 : Value).ownBlock) ∧ some k_ ≠ (.slice Ao67 t158.length co67 : Value).ownBlock)) (n := t161.length) (c := co66) ?_).2.2; exact (by exact (Kd.R_mono (Kd.R_far (p := ⟨gb164, 2, none⟩) (Kd.R_far (p := ⟨gb164, 1, none⟩) (Kd.R_far (p := ⟨gb164, 0, none⟩) (Kd.R_types HO163.out BK164.out (by decide)) (fun _ hk => hk.2) (.slice Ao67 t158.length co67)) (fun _ hk => hk.2) (.slice Ao66 t161.length co66)) (fun _ hk => hk.2) (.slice Ao65 t154.length co65)) (fun _ h_ => h_.1)))); (case side4 => exact (Kd.R_reads' HO163.out).2.1); (case side5 => refine (Kd.R_reads' (e := 23) (base := w.heap.size) (ok := fun k_ => ((((((True ∧ some k_ ≠ (.slice Ao60 t142.length co60 : Value).ownBlock) ∧ some k_ ≠ (.slice Ao57 t145.length co57 : Value).ownBlock) ∧ some k_ ≠ (.slice Ao58 t148.length co58 : Value).ownBlock) ∧ some k_ ≠ (.slice Ao61 t151.length co61 : Value).ownBlock) ∧ some k_ ≠ (.slice Ao67 t158.length co67 : Value).ownBlock) ∧ some k_ ≠ (.slice Ao66 t161.length co66 : Value).ownBlock)) (n := t154.length) (c := co65) ?_).2.2; exact (by exact (Kd.R_mono (Kd.R_far (p := ⟨gb164, 2, none⟩) (Kd.R_far (p := ⟨gb164, 1, none⟩) (Kd.R_far (p := ⟨gb164, 0, none⟩) (Kd.R_types HO157.out BK164.out (by decide)) (fun _ hk => hk.2) (.slice Ao67 t158.length co67)) (fun _ hk => hk.2) (.slice Ao66 t161.length co66)) (fun _ hk => hk.2) (.slice Ao65 t154.length co65)) (fun _ h_ => h_.1)))); (case side6 => exact (Kd.R_reads' HO157.out).2.1); rintro e w71 ⟨rfl, hb⟩; replace HO144 := Aside0.mk (Kd.R_below (by exact (Kd.R_mono (Kd.R_far (p := ⟨gb164, 2, none⟩) (Kd.R_far (p := ⟨gb164, 1, none⟩) (Kd.R_far (p := ⟨gb164, 0, none⟩) (Kd.R_types HO144.out BK164.out (by decide)) (fun _ hk => hk.2) (.slice Ao67 t158.length co67)) (fun _ hk => hk.2) (.slice Ao66 t161.length co66)) (fun _ hk => hk.2) (.slice Ao65 t154.length co65)) (fun _ h_ => h_.1))) hb); replace HO147 := Aside0.mk (Kd.R_below (by exact (Kd.R_mono (Kd.R_far (p := ⟨gb164, 2, none⟩) (Kd.R_far (p := ⟨gb164, 1, none⟩) (Kd.R_far (p := ⟨gb164, 0, none⟩) (Kd.R_types HO147.out BK164.out (by decide)) (fun _ hk => hk.2) (.slice Ao67 t158.length co67)) (fun _ hk => hk.2) (.slice Ao66 t161.length co66)) (fun _ hk => hk.2) (.slice Ao65 t154.length co65)) (fun _ h_ => h_.1))) hb); replace HO150 := Aside0.mk (Kd.R_below (by exact (Kd.R_mono (Kd.R_far (p := ⟨gb164, 2, none⟩) (Kd.R_far (p := ⟨gb164, 1, none⟩) (Kd.R_far (p := ⟨gb164, 0, none⟩) (Kd.R_types HO150.out BK164.out (by decide)) (fun _ hk => hk.2) (.slice Ao67 t158.length co67)) (fun _ hk => hk.2) (.slice Ao66 t161.length co66)) (fun _ hk => hk.2) (.slice Ao65 t154.length co65)) (fun _ h_ => h_.1))) hb); replace HO153 := Aside0.mk (Kd.R_below (by exact (Kd.R_mono (Kd.R_far (p := ⟨gb164, 2, none⟩) (Kd.R_far (p := ⟨gb164, 1, none⟩) (Kd.R_far (p := ⟨gb164, 0, none⟩) (Kd.R_types HO153.out BK164.out (by decide)) (fun _ hk => hk.2) (.slice Ao67 t158.length co67)) (fun _ hk => hk.2) (.slice Ao66 t161.length co66)) (fun _ hk => hk.2) (.slice Ao65 t154.length co65)) (fun _ h_ => h_.1))) hb); replace HO157 := Aside0.mk (Kd.R_below (by exact (Kd.R_mono (Kd.R_far (p := ⟨gb164, 2, none⟩) (Kd.R_far (p := ⟨gb164, 1, none⟩) (Kd.R_far (p := ⟨gb164, 0, none⟩) (Kd.R_types HO157.out BK164.out (by decide)) (fun _ hk => hk.2) (.slice Ao67 t158.length co67)) (fun _ hk => hk.2) (.slice Ao66 t161.length co66)) (fun _ hk => hk.2) (.slice Ao65 t154.length co65)) (fun _ h_ => h_.1))) hb); replace HO160 := Aside0.mk (Kd.R_below (by exact (Kd.R_mono (Kd.R_far (p := ⟨gb164, 2, none⟩) (Kd.R_far (p := ⟨gb164, 1, none⟩) (Kd.R_far (p := ⟨gb164, 0, none⟩) (Kd.R_types HO160.out BK164.out (by decide)) (fun _ hk => hk.2) (.slice Ao67 t158.length co67)) (fun _ hk => hk.2) (.slice Ao66 t161.length co66)) (fun _ hk => hk.2) (.slice Ao65 t154.length co65)) (fun _ h_ => h_.1))) hb); replace HO163 := Aside0.mk (Kd.R_below (by exact (Kd.R_mono (Kd.R_far (p := ⟨gb164, 2, none⟩) (Kd.R_far (p := ⟨gb164, 1, none⟩) (Kd.R_far (p := ⟨gb164, 0, none⟩) (Kd.R_types HO163.out BK164.out (by decide)) (fun _ hk => hk.2) (.slice Ao67 t158.length co67)) (fun _ hk => hk.2) (.slice Ao66 t161.length co66)) (fun _ hk => hk.2) (.slice Ao65 t154.length co65)) (fun _ h_ => h_.1))) hb); replace BK130 := Aside0.mk (blk_below (g := gb130) (o := .cells #[.slice none 0 0, .slice none 0 0, .slice none 0 0] 26 (0, 0)) (by refine blk_far ?_ NB130_164.out _; refine blk_far ?_ NB130_164.out _; refine blk_far ?_ NB130_164.out _; exact BK130.out) hb); replace BK164 := Aside0.mk (blk_below (g := gb164) (o := .cells #[.slice Ao67 t158.length co67, .slice Ao66 t161.length co66, .slice Ao65 t154.length co65] 26 (0, 0)) (by refine blk_put (cs := #[.slice Ao67 t158.length co67, .slice Ao66 t161.length co66, .slice none 0 0]) ?_ 2 _ rfl; refine blk_put (cs := #[.slice Ao67 t158.length co67, .slice none 0 0, .slice none 0 0]) ?_ 1 _ rfl; refine blk_put (cs := #[.slice none 0 0, .slice none 0 0, .slice none 0 0]) ?_ 0 _ rfl; exact BK164.out) hb); replace HB := Aside0.mk (below_step (by repeat ((with_reducible first | exact HB.out | refine below_set ?_ GE164.out))) hb); clear hb; have hcz72_0 : w71.cell? ⟨gb164, 0, none⟩ = some (.slice Ao67 t158.length co67) := (blk_cell BK164.out 0).trans rfl; have hcz72_1 : w71.cell? ⟨gb164, 1, none⟩ = some (.slice Ao66 t161.length co66) := (blk_cell BK164.out 1).trans rfl; have hcz72_2 : w71.cell? ⟨gb164, 2, none⟩ = some (.slice Ao65 t154.length co65) := (blk_cell BK164.out 2).trans rfl; have hfz72_0 := blk_frozen BK164.out 0; have hfz72_1 := blk_frozen BK164.out 1; have hfz72_2 := blk_frozen BK164.out 2; have hcz73_0 : w71.cell? ⟨gb130, 0, none⟩ = some (.slice none 0 0) := (blk_cell BK130.out 0).trans rfl; have hcz73_1 : w71.cell? ⟨gb130, 1, none⟩ = some (.slice none 0 0) := (blk_cell BK130.out 1).trans rfl; have hcz73_2 : w71.cell? ⟨gb130, 2, none⟩ = some (.slice none 0 0) := (blk_cell BK130.out 2).trans rfl; have hfz73_0 := blk_frozen BK130.out 0; have hfz73_1 := blk_frozen BK130.out 1; have hfz73_2 := blk_frozen BK130.out 2))
         refine bodyPost_ret (results_ct rfl _ _ gb130 26 #[.slice Ao67 t158.length co67, .slice Ao66 t161.length co66, .slice Ao65 t154.length co65] (0, 0) _ rfl (by refine blk_put (cs := #[.slice Ao67 t158.length co67, .slice Ao66 t161.length co66, .slice none 0 0]) ?_ 2 _ rfl; refine blk_put (cs := #[.slice Ao67 t158.length co67, .slice none 0 0, .slice none 0 0]) ?_ 1 _ rfl; refine blk_put (cs := #[.slice none 0 0, .slice none 0 0, .slice none 0 0]) ?_ 0 _ rfl; exact BK130.out) Tryz.underlying26 rfl (by kernel_rfl)) rfl ?_
         exact ⟨_, _, _, by rfl, by exact Kd.R_mono (Kd.R_far (p := ⟨gb130, 2, none⟩) (Kd.R_far (p := ⟨gb130, 1, none⟩) (Kd.R_far (p := ⟨gb130, 0, none⟩) (Kd.R_types HO160.out BK130.out (by decide)) (fun _ hk => hk.2) (.slice Ao67 t158.length co67)) (fun _ hk => hk.2) (.slice Ao66 t161.length co66)) (fun _ hk => hk.2) (.slice Ao65 t154.length co65)) (fun _ hk => ⟨hk.1.2, hk.1.1.2⟩), by exact Kd.R_mono (Kd.R_far (p := ⟨gb130, 2, none⟩) (Kd.R_far (p := ⟨gb130, 1, none⟩) (Kd.R_far (p := ⟨gb130, 0, none⟩) (Kd.R_types HO163.out BK130.out (by decide)) (fun _ hk => hk.2) (.slice Ao67 t158.length co67)) (fun _ hk => hk.2) (.slice Ao66 t161.length co66)) (fun _ hk => hk.2) (.slice Ao65 t154.length co65)) (fun _ hk => ⟨hk.1.2, hk.1.1.2⟩), by exact Kd.R_mono (Kd.R_far (p := ⟨gb130, 2, none⟩) (Kd.R_far (p := ⟨gb130, 1, none⟩) (Kd.R_far (p := ⟨gb130, 0, none⟩) (Kd.R_types HO157.out BK130.out (by decide)) (fun _ hk => hk.2) (.slice Ao67 t158.length co67)) (fun _ hk => hk.2) (.slice Ao66 t161.length co66)) (fun _ hk => hk.2) (.slice Ao65 t154.length co65)) (fun _ hk => ⟨hk.1.1.2, hk.1.2⟩), by repeat ((with_reducible first | exact HB.out | refine below_set ?_ GE130.out))⟩
        ·rw [if_neg c53] at H
         have c53b0 : (t165 == 0) = false := beq_eq_false_iff_ne.mpr c53
         have c53b1 : (t165 != 0) = true := bne_iff_ne.mpr c53
         simp only [Option.some.injEq, Prod.mk.injEq] at H
         obtain ⟨rfl, rfl, rfl, rfl⟩ := H
         go_wp2_with (first | ((with_reducible refine gate_callee (f := 70) rfl ?_); refine goesL_ (some 48) rfl rfl Tryz.func70 (by kernel_rfl) rfl #[.int .u64 a2] rfl (by (try simp only [List.map_toArray, List.map_cons, List.map_nil]); rfl) ?_; (with_reducible refine (clepsydraref05_small.calls a2 t142 _ A44.out).mono ?_); rintro e w74 ⟨v143, rfl, ho0, hb⟩; refine ⟨_, rfl, ?_⟩; have HO144 := Aside0.mk (Kd.R_lower ho0 (below_size HB.out)); replace BK130 := Aside0.mk (blk_below (g := gb130) (o := .cells #[.slice none 0 0, .slice none 0 0, .slice none 0 0] 26 (0, 0)) BK130.out hb); replace HB := Aside0.mk (below_step HB.out hb); clear hb ho0) | ((with_reducible refine gate_callee (f := 72) rfl ?_); refine goesL_ (some 50) rfl rfl Tryz.func72 (by kernel_rfl) rfl #[.slice A0 l0.length c0] rfl (by (try simp only [List.map_toArray, List.map_cons, List.map_nil]); rfl) ?_; (with_reducible refine (clepsydraref05_less.calls _ _ l0 t145 _ ?side1 ?side2 A45.out).mono ?_); (case side1 => exact (Kd.C_below HR0.out HB.out)); (case side2 => exact HC0.out); rintro e w75 ⟨v146, rfl, ho0, hb⟩; refine ⟨_, rfl, ?_⟩; have HO147 := Aside0.mk (Kd.R_lower (Kd.R_new' ho0 (Kd.R_lt HO144.out)) (below_size HB.out)); replace HO144 := Aside0.mk (Kd.R_elder' HO144.out (Kd.R_base ho0) hb); replace BK130 := Aside0.mk (blk_below (g := gb130) (o := .cells #[.slice none 0 0, .slice none 0 0, .slice none 0 0] 26 (0, 0)) BK130.out hb); replace HB := Aside0.mk (below_step HB.out hb); clear hb ho0) | ((with_reducible refine gate_callee (f := 72) rfl ?_); refine goesL_ (some 52) rfl rfl Tryz.func72 (by kernel_rfl) rfl #[.slice A1 l1.length c1] rfl (by (try simp only [List.map_toArray, List.map_cons, List.map_nil]); rfl) ?_; (with_reducible refine (clepsydraref05_less.calls _ _ l1 t148 _ ?side1 ?side2 A46.out).mono ?_); (case side1 => exact (Kd.C_below HR1.out HB.out)); (case side2 => exact HC1.out); rintro e w76 ⟨v149, rfl, ho0, hb⟩; refine ⟨_, rfl, ?_⟩; have HO150 := Aside0.mk (Kd.R_lower (Kd.R_new' (Kd.R_new' ho0 (Kd.R_lt HO144.out)) (Kd.R_lt HO147.out)) (below_size HB.out)); replace HO144 := Aside0.mk (Kd.R_elder' HO144.out (Kd.R_base ho0) hb); replace HO147 := Aside0.mk (Kd.R_elder' HO147.out (Kd.R_base ho0) hb); replace BK130 := Aside0.mk (blk_below (g := gb130) (o := .cells #[.slice none 0 0, .slice none 0 0, .slice none 0 0] 26 (0, 0)) BK130.out hb); replace HB := Aside0.mk (below_step HB.out hb); clear hb ho0; obtain ⟨Ao77, co77, eo77⟩ := Kd.R_slice HO147.out; subst eo77; obtain ⟨Ao78, co78, eo78⟩ := Kd.R_slice HO150.out; subst eo78) | ((with_reducible refine gate_callee (f := 71) rfl ?_); refine goesL_ (some 53) rfl rfl Tryz.func71 (by kernel_rfl) rfl #[.slice Ao77 t145.length co77, .slice Ao78 t148.length co78] rfl (by (try simp only [List.map_toArray, List.map_cons, List.map_nil]); rfl) ?_; (with_reducible refine (clepsydraref01_Mul.calls _ _ t145 _ _ t148 t151 _ ?side1 ?side2 ?side3 ?side4 A47.out).mono ?_); (case side1 => exact (Kd.R_reads' HO147.out).2.2); (case side2 => exact (Kd.R_reads' HO147.out).2.1); (case side3 => exact (Kd.R_reads' HO150.out).2.2); (case side4 => exact (Kd.R_reads' HO150.out).2.1); rintro e w79 ⟨v152, rfl, ho0, hb⟩; refine ⟨_, rfl, ?_⟩; have HO153 := Aside0.mk (Kd.R_lower (Kd.R_new' (Kd.R_new' (Kd.R_new' ho0 (Kd.R_lt HO144.out)) (Kd.R_lt HO147.out)) (Kd.R_lt HO150.out)) (below_size HB.out)); replace HO144 := Aside0.mk (Kd.R_elder' HO144.out (Kd.R_base ho0) hb); replace HO147 := Aside0.mk (Kd.R_elder' HO147.out (Kd.R_base ho0) hb); replace HO150 := Aside0.mk (Kd.R_elder' HO150.out (Kd.R_base ho0) hb); replace BK130 := Aside0.mk (blk_below (g := gb130) (o := .cells #[.slice none 0 0, .slice none 0 0, .slice none 0 0] 26 (0, 0)) BK130.out hb); replace HB := Aside0.mk (below_step HB.out hb); clear hb ho0; obtain ⟨Ao80, co80, eo80⟩ := Kd.R_slice HO144.out; subst eo80; obtain ⟨Ao81, co81, eo81⟩ := Kd.R_slice HO153.out; subst eo81) | ((with_reducible refine gate_callee (f := 69) rfl ?_); refine goesL_ (some 54) rfl rfl Tryz.func69 (by kernel_rfl) rfl #[.slice Ao80 t142.length co80, .slice Ao81 t151.length co81] rfl (by (try simp only [List.map_toArray, List.map_cons, List.map_nil]); rfl) ?_; (with_reducible refine (clepsydraref03_Inverse.calls _ _ t142 _ _ t151 t154 t155 _ ?side1 ?side2 ?side3 ?side4 A48.out).mono ?_); (case side1 => exact (Kd.R_reads' HO144.out).2.2); (case side2 => exact (Kd.R_reads' HO144.out).2.1); (case side3 => exact (Kd.R_reads' HO153.out).2.2); (case side4 => exact (Kd.R_reads' HO153.out).2.1); rintro e w82 ⟨v156, rfl, ho0, hb⟩; refine ⟨_, rfl, ?_⟩; have HO157 := Aside0.mk (Kd.R_lower (Kd.R_new' (Kd.R_new' (Kd.R_new' (Kd.R_new' ho0 (Kd.R_lt HO144.out)) (Kd.R_lt HO147.out)) (Kd.R_lt HO150.out)) (Kd.R_lt HO153.out)) (below_size HB.out)); replace HO144 := Aside0.mk (Kd.R_elder' HO144.out (Kd.R_base ho0) hb); replace HO147 := Aside0.mk (Kd.R_elder' HO147.out (Kd.R_base ho0) hb); replace HO150 := Aside0.mk (Kd.R_elder' HO150.out (Kd.R_base ho0) hb); replace HO153 := Aside0.mk (Kd.R_elder' HO153.out (Kd.R_base ho0) hb); replace BK130 := Aside0.mk (blk_below (g := gb130) (o := .cells #[.slice none 0 0, .slice none 0 0, .slice none 0 0] 26 (0, 0)) BK130.out hb); replace HB := Aside0.mk (below_step HB.out hb); clear hb ho0) | ((with_reducible refine gate_callee (f := 71) rfl ?_); refine goesL_ (some 59) rfl rfl Tryz.func71 (by kernel_rfl) rfl #[.slice A0 l0.length c0, .slice A1 l1.length c1] rfl (by (try simp only [List.map_toArray, List.map_cons, List.map_nil]); rfl) ?_; (with_reducible refine (clepsydraref01_Mul.calls _ _ l0 _ _ l1 t158 _ ?side1 ?side2 ?side3 ?side4 A49.out).mono ?_); (case side1 => exact (Kd.C_below HR0.out HB.out)); (case side2 => exact HC0.out); (case side3 => exact (Kd.C_below HR1.out HB.out)); (case side4 => exact HC1.out); rintro e w83 ⟨v159, rfl, ho0, hb⟩; refine ⟨_, rfl, ?_⟩; have HO160 := Aside0.mk (Kd.R_lower (Kd.R_new' (Kd.R_new' (Kd.R_new' (Kd.R_new' (Kd.R_new' ho0 (Kd.R_lt HO144.out)) (Kd.R_lt HO147.out)) (Kd.R_lt HO150.out)) (Kd.R_lt HO153.out)) (Kd.R_lt HO157.out)) (below_size HB.out)); replace HO144 := Aside0.mk (Kd.R_elder' HO144.out (Kd.R_base ho0) hb); replace HO147 := Aside0.mk (Kd.R_elder' HO147.out (Kd.R_base ho0) hb); replace HO150 := Aside0.mk (Kd.R_elder' HO150.out (Kd.R_base ho0) hb); replace HO153 := Aside0.mk (Kd.R_elder' HO153.out (Kd.R_base ho0) hb); replace HO157 := Aside0.mk (Kd.R_elder' HO157.out (Kd.R_base ho0) hb); replace BK130 := Aside0.mk (blk_below (g := gb130) (o := .cells #[.slice none 0 0, .slice none 0 0, .slice none 0 0] 26 (0, 0)) BK130.out hb); replace HB := Aside0.mk (below_step HB.out hb); clear hb ho0) | ((with_reducible refine gate_callee (f := 70) rfl ?_); refine goesL_ (some 61) rfl rfl Tryz.func70 (by kernel_rfl) rfl #[.int .u64 a2] rfl (by (try simp only [List.map_toArray, List.map_cons, List.map_nil]); rfl) ?_; (with_reducible refine (clepsydraref05_small.calls a2 t161 _ A50.out).mono ?_); rintro e w84 ⟨v162, rfl, ho0, hb⟩; refine ⟨_, rfl, ?_⟩; have HO163 := Aside0.mk (Kd.R_lower (Kd.R_new' (Kd.R_new' (Kd.R_new' (Kd.R_new' (Kd.R_new' (Kd.R_new' ho0 (Kd.R_lt HO144.out)) (Kd.R_lt HO147.out)) (Kd.R_lt HO150.out)) (Kd.R_lt HO153.out)) (Kd.R_lt HO157.out)) (Kd.R_lt HO160.out)) (below_size HB.out)); replace HO144 := Aside0.mk (Kd.R_elder' HO144.out (Kd.R_base ho0) hb); replace HO147 := Aside0.mk (Kd.R_elder' HO147.out (Kd.R_base ho0) hb); replace HO150 := Aside0.mk (Kd.R_elder' HO150.out (Kd.R_base ho0) hb); replace HO153 := Aside0.mk (Kd.R_elder' HO153.out (Kd.R_base ho0) hb); replace HO157 := Aside0.mk (Kd.R_elder' HO157.out (Kd.R_base ho0) hb); replace HO160 := Aside0.mk (Kd.R_elder' HO160.out (Kd.R_base ho0) hb); replace BK130 := Aside0.mk (blk_below (g := gb130) (o := .cells #[.slice none 0 0, .slice none 0 0, .slice none 0 0] 26 (0, 0)) BK130.out hb); replace HB := Aside0.mk (below_step HB.out hb); clear hb ho0; obtain ⟨Ao85, co85, eo85⟩ := Kd.R_slice HO157.out; subst eo85; obtain ⟨Ao86, co86, eo86⟩ := Kd.R_slice HO163.out; subst eo86; obtain ⟨Ao87, co87, eo87⟩ := Kd.R_slice HO160.out; subst eo87) | ((with_reducible refine gate_dst (N := 10) rfl ?_); refine box_event ?hg (N := 10) ?hd (cs := #[.slice none 0 0, .slice none 0 0, .slice none 0 0]) (t := 26) ?hr ?_; (case hd => rfl); (case hg => rfl); (case hr => (go_simp; done)); intro gb164 hg w88 hbox hb; replace HO144 := Aside0.mk (Kd.R_below HO144.out hb); replace HO147 := Aside0.mk (Kd.R_below HO147.out hb); replace HO150 := Aside0.mk (Kd.R_below HO150.out hb); replace HO153 := Aside0.mk (Kd.R_below HO153.out hb); replace HO157 := Aside0.mk (Kd.R_below HO157.out hb); replace HO160 := Aside0.mk (Kd.R_below HO160.out hb); replace HO163 := Aside0.mk (Kd.R_below HO163.out hb); have BK164 := Aside0.mk (hbox); have GW164 := Aside0.mk ((by rw [hg]; exact (below_size HB.out) : w.heap.size ≤ gb164)); have GE164 := Aside0.mk ((by rw [hg]; exact (below_size HB.out) : w.heap.size ≤ gb164)); replace HB := Aside0.mk (below_step HB.out hb); have NB130_164 := Aside0.mk ((by rw [hg]; exact Nat.ne_of_lt (blk_lt (g := gb130) (o := .cells #[.slice none 0 0, .slice none 0 0, .slice none 0 0] 26 (0, 0)) BK130.out) : gb130 ≠ gb164)); have NB164_130 := Aside0.mk ((by rw [hg]; exact Nat.ne_of_gt (blk_lt (g := gb130) (o := .cells #[.slice none 0 0, .slice none 0 0, .slice none 0 0] 26 (0, 0)) BK130.out) : gb164 ≠ gb130)); replace BK130 := Aside0.mk (blk_below (g := gb130) (o := .cells #[.slice none 0 0, .slice none 0 0, .slice none 0 0] 26 (0, 0)) BK130.out hb); clear hb hbox hg; have hnb89 := NB164_130.out; have hnc89 := NB130_164.out; have hcz90_0 : w88.cell? ⟨gb164, 0, none⟩ = some (.slice none 0 0) := (blk_cell BK164.out 0).trans rfl; have hcz90_1 : w88.cell? ⟨gb164, 1, none⟩ = some (.slice none 0 0) := (blk_cell BK164.out 1).trans rfl; have hcz90_2 : w88.cell? ⟨gb164, 2, none⟩ = some (.slice none 0 0) := (blk_cell BK164.out 2).trans rfl; have hfz90_0 := blk_frozen BK164.out 0; have hfz90_1 := blk_frozen BK164.out 1; have hfz90_2 := blk_frozen BK164.out 2) | (go_at_call 73; (with_reducible refine (clepsydraref05_Right.calls kj26 _ _ t158 _ _ t161 _ _ t154 t165 _ ?side1 ?side2 ?side3 ?side4 ?side5 ?side6 A52.out).mono ?_); (case side1 => refine (Kd.R_reads' (e := 23) (base := w.heap.size) (ok := fun k_ => ((((((True ∧ some k_ ≠ (.slice Ao80 t142.length co80 : Value).ownBlock) ∧ some k_ ≠ (.slice Ao77 t145.length co77 : Value).ownBlock) ∧ some k_ ≠ (.slice Ao78 t148.length co78 : Value).ownBlock) ∧ some k_ ≠ (.slice Ao81 t151.length co81 : Value).ownBlock) ∧ some k_ ≠ (.slice Ao85 t154.length co85 : Value).ownBlock) ∧ some k_ ≠ (.slice Ao86 t161.length co86 : Value).ownBlock)) (n := t158.length) (c := co87) ?_).2.2; exact (by exact (Kd.R_mono (Kd.R_far (p := ⟨gb164, 2, none⟩) (Kd.R_far (p := ⟨gb164, 1, none⟩) (Kd.R_far (p := ⟨gb164, 0, none⟩) (Kd.R_types HO160.out BK164.out (by decide)) (fun _ hk => hk.2) (.slice Ao87 t158.length co87)) (fun _ hk => hk.2) (.slice Ao86 t161.length co86)) (fun _ hk => hk.2) (.slice Ao85 t154.length co85)) (fun _ h_ => h_.1)))); (case side2 => exact (Kd.R_reads' HO160.out).2.1); (case side3 => refine (Kd.R_reads' (e := 23) (base := w.heap.size) (ok := fun k_ => ((((((True ∧ some k_ ≠ (.slice Ao80 t142.length co80 : Value).ownBlock) ∧ some k_ ≠ (.slice Ao77 t145.length co77 : Value).ownBlock) ∧ some k_ ≠ (.slice Ao78 t148.length co78 : Value).ownBlock) ∧ some k_ ≠ (.slice Ao81 t151.length co81 : Value).ownBlock) ∧ some k_ ≠ (.slice Ao85 t154.length co85 : Value).ownBlock) ∧ some k_ ≠ (.slice Ao87 t158.length co87 : Value).ownBlock)) (n := t161.length) (c := co86) ?_).2.2; exact (by exact (Kd.R_mono (Kd.R_far (p := ⟨gb164, 2, none⟩) (Kd.R_far (p := ⟨gb164, 1, none⟩) (Kd.R_far (p := ⟨gb164, 0, none⟩) (Kd.R_types HO163.out BK164.out (by decide)) (fun _ hk => hk.2) (.slice Ao87 t158.length co87)) (fun _ hk => hk.2) (.slice Ao86 t161.length co86)) (fun _ hk => hk.2) (.slice Ao85 t154.length co85)) (fun _ h_ => h_.1)))); (case side4 => exact (Kd.R_reads' HO163.out).2.1); (case side5 => refine (Kd.R_reads' (e := 23) (base := w.heap.size) (ok := fun k_ => ((((((True ∧ some k_ ≠ (.slice Ao80 t142.length co80 : Value).ownBlock) ∧ some k_ ≠ (.slice Ao77 t145.length co77 : Value).ownBlock) ∧ some k_ ≠ (.slice Ao78 t148.length co78 : Value).ownBlock) ∧ some k_ ≠ (.slice Ao81 t151.length co81 : Value).ownBlock) ∧ some k_ ≠ (.slice Ao87 t158.length co87 : Value).ownBlock) ∧ some k_ ≠ (.slice Ao86 t161.length co86 : Value).ownBlock)) (n := t154.length) (c := co85) ?_).2.2; exact (by exact (Kd.R_mono (Kd.R_far (p := ⟨gb164, 2, none⟩) (Kd.R_far (p := ⟨gb164, 1, none⟩) (Kd.R_far (p := ⟨gb164, 0, none⟩) (Kd.R_types HO157.out BK164.out (by decide)) (fun _ hk => hk.2) (.slice Ao87 t158.length co87)) (fun _ hk => hk.2) (.slice Ao86 t161.length co86)) (fun _ hk => hk.2) (.slice Ao85 t154.length co85)) (fun _ h_ => h_.1)))); (case side6 => exact (Kd.R_reads' HO157.out).2.1); rintro e w91 ⟨rfl, hb⟩; replace HO144 := Aside0.mk (Kd.R_below (by exact (Kd.R_mono (Kd.R_far (p := ⟨gb164, 2, none⟩) (Kd.R_far (p := ⟨gb164, 1, none⟩) (Kd.R_far (p := ⟨gb164, 0, none⟩) (Kd.R_types HO144.out BK164.out (by decide)) (fun _ hk => hk.2) (.slice Ao87 t158.length co87)) (fun _ hk => hk.2) (.slice Ao86 t161.length co86)) (fun _ hk => hk.2) (.slice Ao85 t154.length co85)) (fun _ h_ => h_.1))) hb); replace HO147 := Aside0.mk (Kd.R_below (by exact (Kd.R_mono (Kd.R_far (p := ⟨gb164, 2, none⟩) (Kd.R_far (p := ⟨gb164, 1, none⟩) (Kd.R_far (p := ⟨gb164, 0, none⟩) (Kd.R_types HO147.out BK164.out (by decide)) (fun _ hk => hk.2) (.slice Ao87 t158.length co87)) (fun _ hk => hk.2) (.slice Ao86 t161.length co86)) (fun _ hk => hk.2) (.slice Ao85 t154.length co85)) (fun _ h_ => h_.1))) hb); replace HO150 := Aside0.mk (Kd.R_below (by exact (Kd.R_mono (Kd.R_far (p := ⟨gb164, 2, none⟩) (Kd.R_far (p := ⟨gb164, 1, none⟩) (Kd.R_far (p := ⟨gb164, 0, none⟩) (Kd.R_types HO150.out BK164.out (by decide)) (fun _ hk => hk.2) (.slice Ao87 t158.length co87)) (fun _ hk => hk.2) (.slice Ao86 t161.length co86)) (fun _ hk => hk.2) (.slice Ao85 t154.length co85)) (fun _ h_ => h_.1))) hb); replace HO153 := Aside0.mk (Kd.R_below (by exact (Kd.R_mono (Kd.R_far (p := ⟨gb164, 2, none⟩) (Kd.R_far (p := ⟨gb164, 1, none⟩) (Kd.R_far (p := ⟨gb164, 0, none⟩) (Kd.R_types HO153.out BK164.out (by decide)) (fun _ hk => hk.2) (.slice Ao87 t158.length co87)) (fun _ hk => hk.2) (.slice Ao86 t161.length co86)) (fun _ hk => hk.2) (.slice Ao85 t154.length co85)) (fun _ h_ => h_.1))) hb); replace HO157 := Aside0.mk (Kd.R_below (by exact (Kd.R_mono (Kd.R_far (p := ⟨gb164, 2, none⟩) (Kd.R_far (p := ⟨gb164, 1, none⟩) (Kd.R_far (p := ⟨gb164, 0, none⟩) (Kd.R_types HO157.out BK164.out (by decide)) (fun _ hk => hk.2) (.slice Ao87 t158.length co87)) (fun _ hk => hk.2) (.slice Ao86 t161.length co86)) (fun _ hk => hk.2) (.slice Ao85 t154.length co85)) (fun _ h_ => h_.1))) hb); replace HO160 := Aside0.mk (Kd.R_below (by exact (Kd.R_mono (Kd.R_far (p := ⟨gb164, 2, none⟩) (Kd.R_far (p := ⟨gb164, 1, none⟩) (Kd.R_far (p := ⟨gb164, 0, none⟩) (Kd.R_types HO160.out BK164.out (by decide)) (fun _ hk => hk.2) (.slice Ao87 t158.length co87)) (fun _ hk => hk.2) (.slice Ao86 t161.length co86)) (fun _ hk => hk.2) (.slice Ao85 t154.length co85)) (fun _ h_ => h_.1))) hb); replace HO163 := Aside0.mk (Kd.R_below (by exact (Kd.R_mono (Kd.R_far (p := ⟨gb164, 2, none⟩) (Kd.R_far (p := ⟨gb164, 1, none⟩) (Kd.R_far (p := ⟨gb164, 0, none⟩) (Kd.R_types HO163.out BK164.out (by decide)) (fun _ hk => hk.2) (.slice Ao87 t158.length co87)) (fun _ hk => hk.2) (.slice Ao86 t161.length co86)) (fun _ hk => hk.2) (.slice Ao85 t154.length co85)) (fun _ h_ => h_.1))) hb); replace BK130 := Aside0.mk (blk_below (g := gb130) (o := .cells #[.slice none 0 0, .slice none 0 0, .slice none 0 0] 26 (0, 0)) (by refine blk_far ?_ NB130_164.out _; refine blk_far ?_ NB130_164.out _; refine blk_far ?_ NB130_164.out _; exact BK130.out) hb); replace BK164 := Aside0.mk (blk_below (g := gb164) (o := .cells #[.slice Ao87 t158.length co87, .slice Ao86 t161.length co86, .slice Ao85 t154.length co85] 26 (0, 0)) (by refine blk_put (cs := #[.slice Ao87 t158.length co87, .slice Ao86 t161.length co86, .slice none 0 0]) ?_ 2 _ rfl; refine blk_put (cs := #[.slice Ao87 t158.length co87, .slice none 0 0, .slice none 0 0]) ?_ 1 _ rfl; refine blk_put (cs := #[.slice none 0 0, .slice none 0 0, .slice none 0 0]) ?_ 0 _ rfl; exact BK164.out) hb); replace HB := Aside0.mk (below_step (by repeat ((with_reducible first | exact HB.out | refine below_set ?_ GE164.out))) hb); clear hb; have hcz92_0 : w91.cell? ⟨gb130, 0, none⟩ = some (.slice none 0 0) := (blk_cell BK130.out 0).trans rfl; have hcz92_1 : w91.cell? ⟨gb130, 1, none⟩ = some (.slice none 0 0) := (blk_cell BK130.out 1).trans rfl; have hcz92_2 : w91.cell? ⟨gb130, 2, none⟩ = some (.slice none 0 0) := (blk_cell BK130.out 2).trans rfl; have hfz92_0 := blk_frozen BK130.out 0; have hfz92_1 := blk_frozen BK130.out 1; have hfz92_2 := blk_frozen BK130.out 2))
         refine bodyPost_ret (results_ct rfl _ _ gb130 26 #[.slice none 0 0, .slice none 0 0, .slice none 0 0] (0, 0) _ rfl (by refine blk_put (cs := #[.slice none 0 0, .slice none 0 0, .slice none 0 0]) ?_ 2 _ rfl; refine blk_put (cs := #[.slice none 0 0, .slice none 0 0, .slice none 0 0]) ?_ 1 _ rfl; refine blk_put (cs := #[.slice none 0 0, .slice none 0 0, .slice none 0 0]) ?_ 0 _ rfl; exact BK130.out) Tryz.underlying26 rfl (by kernel_rfl)) rfl ?_
         exact ⟨_, _, _, by rfl, by (exact Kd.R_nil _ _ _ _ _), by (exact Kd.R_nil _ _ _ _ _), by (exact Kd.R_nil _ _ _ _ _), by repeat ((with_reducible first | exact HB.out | refine below_set ?_ GE130.out))⟩
       ·rw [if_neg c51] at H
        have c51b0 : (t155 == 0) = false := beq_eq_false_iff_ne.mpr c51
        have c51b1 : (t155 != 0) = true := bne_iff_ne.mpr c51
        simp only [Option.some.injEq, Prod.mk.injEq] at H
        obtain ⟨rfl, rfl, rfl, rfl⟩ := H
        go_wp2_with (first | ((with_reducible refine gate_callee (f := 70) rfl ?_); refine goesL_ (some 48) rfl rfl Tryz.func70 (by kernel_rfl) rfl #[.int .u64 a2] rfl (by (try simp only [List.map_toArray, List.map_cons, List.map_nil]); rfl) ?_; (with_reducible refine (clepsydraref05_small.calls a2 t142 _ A44.out).mono ?_); rintro e w93 ⟨v143, rfl, ho0, hb⟩; refine ⟨_, rfl, ?_⟩; have HO144 := Aside0.mk (Kd.R_lower ho0 (below_size HB.out)); replace BK130 := Aside0.mk (blk_below (g := gb130) (o := .cells #[.slice none 0 0, .slice none 0 0, .slice none 0 0] 26 (0, 0)) BK130.out hb); replace HB := Aside0.mk (below_step HB.out hb); clear hb ho0) | ((with_reducible refine gate_callee (f := 72) rfl ?_); refine goesL_ (some 50) rfl rfl Tryz.func72 (by kernel_rfl) rfl #[.slice A0 l0.length c0] rfl (by (try simp only [List.map_toArray, List.map_cons, List.map_nil]); rfl) ?_; (with_reducible refine (clepsydraref05_less.calls _ _ l0 t145 _ ?side1 ?side2 A45.out).mono ?_); (case side1 => exact (Kd.C_below HR0.out HB.out)); (case side2 => exact HC0.out); rintro e w94 ⟨v146, rfl, ho0, hb⟩; refine ⟨_, rfl, ?_⟩; have HO147 := Aside0.mk (Kd.R_lower (Kd.R_new' ho0 (Kd.R_lt HO144.out)) (below_size HB.out)); replace HO144 := Aside0.mk (Kd.R_elder' HO144.out (Kd.R_base ho0) hb); replace BK130 := Aside0.mk (blk_below (g := gb130) (o := .cells #[.slice none 0 0, .slice none 0 0, .slice none 0 0] 26 (0, 0)) BK130.out hb); replace HB := Aside0.mk (below_step HB.out hb); clear hb ho0) | ((with_reducible refine gate_callee (f := 72) rfl ?_); refine goesL_ (some 52) rfl rfl Tryz.func72 (by kernel_rfl) rfl #[.slice A1 l1.length c1] rfl (by (try simp only [List.map_toArray, List.map_cons, List.map_nil]); rfl) ?_; (with_reducible refine (clepsydraref05_less.calls _ _ l1 t148 _ ?side1 ?side2 A46.out).mono ?_); (case side1 => exact (Kd.C_below HR1.out HB.out)); (case side2 => exact HC1.out); rintro e w95 ⟨v149, rfl, ho0, hb⟩; refine ⟨_, rfl, ?_⟩; have HO150 := Aside0.mk (Kd.R_lower (Kd.R_new' (Kd.R_new' ho0 (Kd.R_lt HO144.out)) (Kd.R_lt HO147.out)) (below_size HB.out)); replace HO144 := Aside0.mk (Kd.R_elder' HO144.out (Kd.R_base ho0) hb); replace HO147 := Aside0.mk (Kd.R_elder' HO147.out (Kd.R_base ho0) hb); replace BK130 := Aside0.mk (blk_below (g := gb130) (o := .cells #[.slice none 0 0, .slice none 0 0, .slice none 0 0] 26 (0, 0)) BK130.out hb); replace HB := Aside0.mk (below_step HB.out hb); clear hb ho0; obtain ⟨Ao96, co96, eo96⟩ := Kd.R_slice HO147.out; subst eo96; obtain ⟨Ao97, co97, eo97⟩ := Kd.R_slice HO150.out; subst eo97) | ((with_reducible refine gate_callee (f := 71) rfl ?_); refine goesL_ (some 53) rfl rfl Tryz.func71 (by kernel_rfl) rfl #[.slice Ao96 t145.length co96, .slice Ao97 t148.length co97] rfl (by (try simp only [List.map_toArray, List.map_cons, List.map_nil]); rfl) ?_; (with_reducible refine (clepsydraref01_Mul.calls _ _ t145 _ _ t148 t151 _ ?side1 ?side2 ?side3 ?side4 A47.out).mono ?_); (case side1 => exact (Kd.R_reads' HO147.out).2.2); (case side2 => exact (Kd.R_reads' HO147.out).2.1); (case side3 => exact (Kd.R_reads' HO150.out).2.2); (case side4 => exact (Kd.R_reads' HO150.out).2.1); rintro e w98 ⟨v152, rfl, ho0, hb⟩; refine ⟨_, rfl, ?_⟩; have HO153 := Aside0.mk (Kd.R_lower (Kd.R_new' (Kd.R_new' (Kd.R_new' ho0 (Kd.R_lt HO144.out)) (Kd.R_lt HO147.out)) (Kd.R_lt HO150.out)) (below_size HB.out)); replace HO144 := Aside0.mk (Kd.R_elder' HO144.out (Kd.R_base ho0) hb); replace HO147 := Aside0.mk (Kd.R_elder' HO147.out (Kd.R_base ho0) hb); replace HO150 := Aside0.mk (Kd.R_elder' HO150.out (Kd.R_base ho0) hb); replace BK130 := Aside0.mk (blk_below (g := gb130) (o := .cells #[.slice none 0 0, .slice none 0 0, .slice none 0 0] 26 (0, 0)) BK130.out hb); replace HB := Aside0.mk (below_step HB.out hb); clear hb ho0; obtain ⟨Ao99, co99, eo99⟩ := Kd.R_slice HO144.out; subst eo99; obtain ⟨Ao100, co100, eo100⟩ := Kd.R_slice HO153.out; subst eo100) | ((with_reducible refine gate_callee (f := 69) rfl ?_); refine goesL_ (some 54) rfl rfl Tryz.func69 (by kernel_rfl) rfl #[.slice Ao99 t142.length co99, .slice Ao100 t151.length co100] rfl (by (try simp only [List.map_toArray, List.map_cons, List.map_nil]); rfl) ?_; (with_reducible refine (clepsydraref03_Inverse.calls _ _ t142 _ _ t151 t154 t155 _ ?side1 ?side2 ?side3 ?side4 A48.out).mono ?_); (case side1 => exact (Kd.R_reads' HO144.out).2.2); (case side2 => exact (Kd.R_reads' HO144.out).2.1); (case side3 => exact (Kd.R_reads' HO153.out).2.2); (case side4 => exact (Kd.R_reads' HO153.out).2.1); rintro e w101 ⟨v156, rfl, ho0, hb⟩; refine ⟨_, rfl, ?_⟩; have HO157 := Aside0.mk (Kd.R_lower (Kd.R_new' (Kd.R_new' (Kd.R_new' (Kd.R_new' ho0 (Kd.R_lt HO144.out)) (Kd.R_lt HO147.out)) (Kd.R_lt HO150.out)) (Kd.R_lt HO153.out)) (below_size HB.out)); replace HO144 := Aside0.mk (Kd.R_elder' HO144.out (Kd.R_base ho0) hb); replace HO147 := Aside0.mk (Kd.R_elder' HO147.out (Kd.R_base ho0) hb); replace HO150 := Aside0.mk (Kd.R_elder' HO150.out (Kd.R_base ho0) hb); replace HO153 := Aside0.mk (Kd.R_elder' HO153.out (Kd.R_base ho0) hb); replace BK130 := Aside0.mk (blk_below (g := gb130) (o := .cells #[.slice none 0 0, .slice none 0 0, .slice none 0 0] 26 (0, 0)) BK130.out hb); replace HB := Aside0.mk (below_step HB.out hb); clear hb ho0) | ((with_reducible refine gate_callee (f := 71) rfl ?_); refine goesL_ (some 59) rfl rfl Tryz.func71 (by kernel_rfl) rfl #[.slice A0 l0.length c0, .slice A1 l1.length c1] rfl (by (try simp only [List.map_toArray, List.map_cons, List.map_nil]); rfl) ?_; (with_reducible refine (clepsydraref01_Mul.calls _ _ l0 _ _ l1 t158 _ ?side1 ?side2 ?side3 ?side4 A49.out).mono ?_); (case side1 => exact (Kd.C_below HR0.out HB.out)); (case side2 => exact HC0.out); (case side3 => exact (Kd.C_below HR1.out HB.out)); (case side4 => exact HC1.out); rintro e w102 ⟨v159, rfl, ho0, hb⟩; refine ⟨_, rfl, ?_⟩; have HO160 := Aside0.mk (Kd.R_lower (Kd.R_new' (Kd.R_new' (Kd.R_new' (Kd.R_new' (Kd.R_new' ho0 (Kd.R_lt HO144.out)) (Kd.R_lt HO147.out)) (Kd.R_lt HO150.out)) (Kd.R_lt HO153.out)) (Kd.R_lt HO157.out)) (below_size HB.out)); replace HO144 := Aside0.mk (Kd.R_elder' HO144.out (Kd.R_base ho0) hb); replace HO147 := Aside0.mk (Kd.R_elder' HO147.out (Kd.R_base ho0) hb); replace HO150 := Aside0.mk (Kd.R_elder' HO150.out (Kd.R_base ho0) hb); replace HO153 := Aside0.mk (Kd.R_elder' HO153.out (Kd.R_base ho0) hb); replace HO157 := Aside0.mk (Kd.R_elder' HO157.out (Kd.R_base ho0) hb); replace BK130 := Aside0.mk (blk_below (g := gb130) (o := .cells #[.slice none 0 0, .slice none 0 0, .slice none 0 0] 26 (0, 0)) BK130.out hb); replace HB := Aside0.mk (below_step HB.out hb); clear hb ho0) | ((with_reducible refine gate_callee (f := 70) rfl ?_); refine goesL_ (some 61) rfl rfl Tryz.func70 (by kernel_rfl) rfl #[.int .u64 a2] rfl (by (try simp only [List.map_toArray, List.map_cons, List.map_nil]); rfl) ?_; (with_reducible refine (clepsydraref05_small.calls a2 t161 _ A50.out).mono ?_); rintro e w103 ⟨v162, rfl, ho0, hb⟩; refine ⟨_, rfl, ?_⟩; have HO163 := Aside0.mk (Kd.R_lower (Kd.R_new' (Kd.R_new' (Kd.R_new' (Kd.R_new' (Kd.R_new' (Kd.R_new' ho0 (Kd.R_lt HO144.out)) (Kd.R_lt HO147.out)) (Kd.R_lt HO150.out)) (Kd.R_lt HO153.out)) (Kd.R_lt HO157.out)) (Kd.R_lt HO160.out)) (below_size HB.out)); replace HO144 := Aside0.mk (Kd.R_elder' HO144.out (Kd.R_base ho0) hb); replace HO147 := Aside0.mk (Kd.R_elder' HO147.out (Kd.R_base ho0) hb); replace HO150 := Aside0.mk (Kd.R_elder' HO150.out (Kd.R_base ho0) hb); replace HO153 := Aside0.mk (Kd.R_elder' HO153.out (Kd.R_base ho0) hb); replace HO157 := Aside0.mk (Kd.R_elder' HO157.out (Kd.R_base ho0) hb); replace HO160 := Aside0.mk (Kd.R_elder' HO160.out (Kd.R_base ho0) hb); replace BK130 := Aside0.mk (blk_below (g := gb130) (o := .cells #[.slice none 0 0, .slice none 0 0, .slice none 0 0] 26 (0, 0)) BK130.out hb); replace HB := Aside0.mk (below_step HB.out hb); clear hb ho0; obtain ⟨Ao104, co104, eo104⟩ := Kd.R_slice HO157.out; subst eo104; obtain ⟨Ao105, co105, eo105⟩ := Kd.R_slice HO163.out; subst eo105; obtain ⟨Ao106, co106, eo106⟩ := Kd.R_slice HO160.out; subst eo106) | ((with_reducible refine gate_dst (N := 10) rfl ?_); refine box_event ?hg (N := 10) ?hd (cs := #[.slice none 0 0, .slice none 0 0, .slice none 0 0]) (t := 26) ?hr ?_; (case hd => rfl); (case hg => rfl); (case hr => (go_simp; done)); intro gb164 hg w107 hbox hb; replace HO144 := Aside0.mk (Kd.R_below HO144.out hb); replace HO147 := Aside0.mk (Kd.R_below HO147.out hb); replace HO150 := Aside0.mk (Kd.R_below HO150.out hb); replace HO153 := Aside0.mk (Kd.R_below HO153.out hb); replace HO157 := Aside0.mk (Kd.R_below HO157.out hb); replace HO160 := Aside0.mk (Kd.R_below HO160.out hb); replace HO163 := Aside0.mk (Kd.R_below HO163.out hb); have BK164 := Aside0.mk (hbox); have GW164 := Aside0.mk ((by rw [hg]; exact (below_size HB.out) : w.heap.size ≤ gb164)); have GE164 := Aside0.mk ((by rw [hg]; exact (below_size HB.out) : w.heap.size ≤ gb164)); replace HB := Aside0.mk (below_step HB.out hb); have NB130_164 := Aside0.mk ((by rw [hg]; exact Nat.ne_of_lt (blk_lt (g := gb130) (o := .cells #[.slice none 0 0, .slice none 0 0, .slice none 0 0] 26 (0, 0)) BK130.out) : gb130 ≠ gb164)); have NB164_130 := Aside0.mk ((by rw [hg]; exact Nat.ne_of_gt (blk_lt (g := gb130) (o := .cells #[.slice none 0 0, .slice none 0 0, .slice none 0 0] 26 (0, 0)) BK130.out) : gb164 ≠ gb130)); replace BK130 := Aside0.mk (blk_below (g := gb130) (o := .cells #[.slice none 0 0, .slice none 0 0, .slice none 0 0] 26 (0, 0)) BK130.out hb); clear hb hbox hg; have hnb108 := NB164_130.out; have hnc108 := NB130_164.out; have hcz109_0 : w107.cell? ⟨gb164, 0, none⟩ = some (.slice none 0 0) := (blk_cell BK164.out 0).trans rfl; have hcz109_1 : w107.cell? ⟨gb164, 1, none⟩ = some (.slice none 0 0) := (blk_cell BK164.out 1).trans rfl; have hcz109_2 : w107.cell? ⟨gb164, 2, none⟩ = some (.slice none 0 0) := (blk_cell BK164.out 2).trans rfl; have hfz109_0 := blk_frozen BK164.out 0; have hfz109_1 := blk_frozen BK164.out 1; have hfz109_2 := blk_frozen BK164.out 2; have hcz110_0 : w107.cell? ⟨gb130, 0, none⟩ = some (.slice none 0 0) := (blk_cell BK130.out 0).trans rfl; have hcz110_1 : w107.cell? ⟨gb130, 1, none⟩ = some (.slice none 0 0) := (blk_cell BK130.out 1).trans rfl; have hcz110_2 : w107.cell? ⟨gb130, 2, none⟩ = some (.slice none 0 0) := (blk_cell BK130.out 2).trans rfl; have hfz110_0 := blk_frozen BK130.out 0; have hfz110_1 := blk_frozen BK130.out 1; have hfz110_2 := blk_frozen BK130.out 2))
        refine bodyPost_ret (results_ct rfl _ _ gb130 26 #[.slice none 0 0, .slice none 0 0, .slice none 0 0] (0, 0) _ rfl (by refine blk_put (cs := #[.slice none 0 0, .slice none 0 0, .slice none 0 0]) ?_ 2 _ rfl; refine blk_put (cs := #[.slice none 0 0, .slice none 0 0, .slice none 0 0]) ?_ 1 _ rfl; refine blk_put (cs := #[.slice none 0 0, .slice none 0 0, .slice none 0 0]) ?_ 0 _ rfl; refine blk_far ?_ NB130_164.out _; refine blk_far ?_ NB130_164.out _; refine blk_far ?_ NB130_164.out _; exact BK130.out) Tryz.underlying26 rfl (by kernel_rfl)) rfl ?_
        exact ⟨_, _, _, by rfl, by (exact Kd.R_nil _ _ _ _ _), by (exact Kd.R_nil _ _ _ _ _), by (exact Kd.R_nil _ _ _ _ _), by repeat ((with_reducible first | exact HB.out | refine below_set ?_ GE130.out | refine below_set ?_ GE164.out))⟩
def clepsydraref01_Same.l0 : Nat → List Int → List Int → Int → Option (Bool)
 | 0, _, _, _ => none
 | k + 1, x0, x1, x5 => if x5 < (x0.length : Int) then (if 0 ≤ x5 then (if x5 < (x1.length : Int) then (if (rd x0 x5) = (rd x1 x5) then (clepsydraref01_Same.l0 k x0 x1 (wrap64 (x5 + 1))) else (some false)) else (none)) else (none)) else (some true)
def clepsydraref01_Same.f (k : Nat) (l0 : List Int) (l1 : List Int) : Option (Bool) := if (l0.length : Int) = (l1.length : Int) then (clepsydraref01_Same.l0 k l0 l1 0) else (some false)
set_option maxHeartbeats 8000000 in
set_option maxRecDepth 100000 in
theorem clepsydraref01_Same.calls (k : Nat) (A0 : Option Addr) (c0 : Nat) (l0 : List Int) (A1 : Option Addr) (c1 : Nat) (l1 : List Int) (r : Bool) (w : World) (hr0 : Kd.C (Kd.int .u64) w A0 l0.length l0) (hc0 : l0.length ≤ c0) (hr1 : Kd.C (Kd.int .u64) w A1 l1.length l1) (hc1 : l1.length ≤ c1) (h : clepsydraref01_Same.f k l0 l1 = some r) :
  Calls Tryz.prog 35 #[.slice A0 l0.length c0, .slice A1 l1.length c1] w fun e w' => e = .returned (.bool r) ∧ Drawn0 w w' := by
 have HR0 := Aside0.mk hr0
 have HC0 := Aside0.mk hc0
 clear hr0 hc0
 have HR1 := Aside0.mk hr1
 have HC1 := Aside0.mk hc1
 clear hr1 hc1
 have H : (if (l0.length : Int) = (l1.length : Int) then (clepsydraref01_Same.l0 k l0 l1 0) else (some false)) = some r := h
 clear h
 by_cases c3 : (l0.length : Int) = (l1.length : Int)
 ·rw [if_pos c3] at H
  have c3b0 : ((l0.length : Int) == (l1.length : Int)) = true := beq_iff_eq.mpr c3
  have c3b1 : ((l0.length : Int) != (l1.length : Int)) = false := bne_eq_false_iff_eq.mpr c3
  have c3b2 : (l0.length == l1.length) = true := by (simp at c3 ⊢; omega)
  clear c3
  have H' := Aside0.mk H
  clear H
  go_enter Tryz.func35, Tryz.ntmps35
  go_wp2
  repeat (go_quiet (fail); try go_wp2)
  go_loopg [5] k (fun kq v5 w' => ∃ (x5_1 : Int), v5 = .int .i64 x5_1 ∧ Aside0 (clepsydraref01_Same.l0 kq l0 l1 x5_1 = some r) ∧ Aside0 (kq ≤ k) ∧ Drawn0 w w')
  case atStart => exact ⟨(0), (by rfl), H', ⟨Nat.le_refl _⟩, by repeat ((exact Drawn0.refl _))⟩
  case round =>
   clear H'
   try clear c1
   try clear p2
   try clear c3
   try clear c3b0
   try clear c3b1
   try clear c3b2
   obtain ⟨x5_1, rfl, HA, HK1, ⟨m1, rfl⟩⟩ := hrel
   cases gk with
   | zero => exact absurd HA.out (by simp [clepsydraref01_Same.l0])
   | succ k1 =>
    have H := HA.out
    clear HA
    simp only [clepsydraref01_Same.l0] at H
    by_cases c4 : x5_1 < (l0.length : Int)
    ·rw [if_pos c4] at H
     have c4b0 : decide (x5_1 < (l0.length : Int)) = true := decide_eq_true c4
     clear c4
     by_cases c5 : 0 ≤ x5_1
     ·rw [if_pos c5] at H
      have c5b0 : decide (0 ≤ x5_1) = true := decide_eq_true c5
      clear c5
      by_cases c6 : x5_1 < (l1.length : Int)
      ·rw [if_pos c6] at H
       have c6b0 : decide (x5_1 < (l1.length : Int)) = true := decide_eq_true c6
       clear c6
       by_cases c7 : (rd l0 x5_1) = (rd l1 x5_1)
       ·rw [if_pos c7] at H
        have c7b0 : ((rd l0 x5_1) == (rd l1 x5_1)) = true := beq_iff_eq.mpr c7
        have c7b1 : ((rd l0 x5_1) != (rd l1 x5_1)) = false := bne_eq_false_iff_eq.mpr c7
        clear c7
        have H' := Aside0.mk H
        clear H
        have p166 : 0 ≤ (x5_1 : Int) := of_decide_eq_true (by (with_reducible assumption))
        have q166 : x5_1 < (l0.length : Int) := of_decide_eq_true (by (with_reducible assumption))
        obtain ⟨ad166, e166, hx166_0⟩ := Kd.at_int HR0.out x5_1 p166 q166
        cases e166
        replace p166 := eq_true p166
        replace q166 := eq_true q166
        have p167 : 0 ≤ (x5_1 : Int) := of_decide_eq_true (by (with_reducible assumption))
        have q167 : x5_1 < (l1.length : Int) := of_decide_eq_true (by (with_reducible assumption))
        obtain ⟨ad167, e167, hx167_0⟩ := Kd.at_int HR1.out x5_1 p167 q167
        cases e167
        replace p167 := eq_true p167
        replace q167 := eq_true q167
        go_wp2
        repeat (go_quiet (fail); try go_wp2)
        go_roundg k1
        case measure => have := HK1.out; omega
        case rel => exact ⟨(wrap64 (x5_1 + 1)), (by rfl), H', ⟨by have := HK1.out; omega⟩, by repeat (first | exact Drawn0.refl _ | apply Drawn0.step)⟩
       ·rw [if_neg c7] at H
        have c7b0 : ((rd l0 x5_1) == (rd l1 x5_1)) = false := beq_eq_false_iff_ne.mpr c7
        have c7b1 : ((rd l0 x5_1) != (rd l1 x5_1)) = true := bne_iff_ne.mpr c7
        obtain rfl := Option.some.inj H
        simp only [Option.some.injEq, Prod.mk.injEq] at H
        obtain ⟨rfl⟩ := H
        have p166 : 0 ≤ (x5_1 : Int) := of_decide_eq_true (by (with_reducible assumption))
        have q166 : x5_1 < (l0.length : Int) := of_decide_eq_true (by (with_reducible assumption))
        obtain ⟨ad166, e166, hx166_0⟩ := Kd.at_int HR0.out x5_1 p166 q166
        cases e166
        replace p166 := eq_true p166
        replace q166 := eq_true q166
        have p167 : 0 ≤ (x5_1 : Int) := of_decide_eq_true (by (with_reducible assumption))
        have q167 : x5_1 < (l1.length : Int) := of_decide_eq_true (by (with_reducible assumption))
        obtain ⟨ad167, e167, hx167_0⟩ := Kd.at_int HR1.out x5_1 p167 q167
        cases e167
        replace p167 := eq_true p167
        replace q167 := eq_true q167
        go_wp2
        repeat (go_quiet (fail); try go_wp2)
        go_ret
        exact ⟨by rfl, by repeat (first | exact Drawn0.refl _ | apply Drawn0.step)⟩
      ·rw [if_neg c6] at H
       exact absurd H (by simp)
     ·rw [if_neg c5] at H
      exact absurd H (by simp)
    ·rw [if_neg c4] at H
     have c4b0 : decide (x5_1 < (l0.length : Int)) = false := decide_eq_false c4
     clear c4
     obtain rfl := Option.some.inj H
     simp only [Option.some.injEq, Prod.mk.injEq] at H
     obtain ⟨rfl⟩ := H
     go_wp2
     repeat (go_quiet (fail); try go_wp2)
     go_ret
     exact ⟨by rfl, by repeat (first | exact Drawn0.refl _ | apply Drawn0.step)⟩
 ·rw [if_neg c3] at H
  have c3b0 : ((l0.length : Int) == (l1.length : Int)) = false := beq_eq_false_iff_ne.mpr c3
  have c3b1 : ((l0.length : Int) != (l1.length : Int)) = true := bne_iff_ne.mpr c3
  have c3b2 : (l0.length == l1.length) = false := by (simp at c3 ⊢; omega)
  obtain rfl := Option.some.inj H
  simp only [Option.some.injEq, Prod.mk.injEq] at H
  obtain ⟨rfl⟩ := H
  go_enter Tryz.func35, Tryz.ntmps35
  go_wp2
  repeat (go_quiet (fail); try go_wp2)
  go_ret
  exact ⟨by rfl, by repeat ((exact Drawn0.refl _))⟩
def clepsydraref05_Same.f (k : Nat) (l0_0 : List Int) (l0_1 : List Int) (l0_2 : List Int) (l1_0 : List Int) (l1_1 : List Int) (l1_2 : List Int) : Option (Bool) := (clepsydraref01_Same.f k l0_0 l1_0).bind fun t170 => (if t170 = true then ((clepsydraref01_Same.f k l0_1 l1_1).bind fun t171 => (if t171 = true then ((clepsydraref01_Same.f k l0_2 l1_2).bind fun t172 => (some t172)) else (some false))) else (some false))
set_option maxHeartbeats 8000000 in
set_option maxRecDepth 100000 in
theorem clepsydraref05_Same.calls (k : Nat) (A0_0 : Option Addr) (c0_0 : Nat) (l0_0 : List Int) (A0_1 : Option Addr) (c0_1 : Nat) (l0_1 : List Int) (A0_2 : Option Addr) (c0_2 : Nat) (l0_2 : List Int) (A1_0 : Option Addr) (c1_0 : Nat) (l1_0 : List Int) (A1_1 : Option Addr) (c1_1 : Nat) (l1_1 : List Int) (A1_2 : Option Addr) (c1_2 : Nat) (l1_2 : List Int) (r : Bool) (w : World) (hr0_0 : Kd.C (Kd.int .u64) w A0_0 l0_0.length l0_0) (hc0_0 : l0_0.length ≤ c0_0) (hr0_1 : Kd.C (Kd.int .u64) w A0_1 l0_1.length l0_1) (hc0_1 : l0_1.length ≤ c0_1) (hr0_2 : Kd.C (Kd.int .u64) w A0_2 l0_2.length l0_2) (hc0_2 : l0_2.length ≤ c0_2) (hr1_0 : Kd.C (Kd.int .u64) w A1_0 l1_0.length l1_0) (hc1_0 : l1_0.length ≤ c1_0) (hr1_1 : Kd.C (Kd.int .u64) w A1_1 l1_1.length l1_1) (hc1_1 : l1_1.length ≤ c1_1) (hr1_2 : Kd.C (Kd.int .u64) w A1_2 l1_2.length l1_2) (hc1_2 : l1_2.length ≤ c1_2) (h : clepsydraref05_Same.f k l0_0 l0_1 l0_2 l1_0 l1_1 l1_2 = some r) :
  Calls Tryz.prog 14 #[.agg #[.slice A0_0 l0_0.length c0_0, .slice A0_1 l0_1.length c0_1, .slice A0_2 l0_2.length c0_2], .agg #[.slice A1_0 l1_0.length c1_0, .slice A1_1 l1_1.length c1_1, .slice A1_2 l1_2.length c1_2]] w fun e w' => e = .returned (.bool r) ∧ Below w.heap.size w w' := by
 have hu26 := Tryz.underlying26
 have HR0_0 := Aside0.mk hr0_0
 have HC0_0 := Aside0.mk hc0_0
 clear hr0_0 hc0_0
 have HR0_1 := Aside0.mk hr0_1
 have HC0_1 := Aside0.mk hc0_1
 clear hr0_1 hc0_1
 have HR0_2 := Aside0.mk hr0_2
 have HC0_2 := Aside0.mk hc0_2
 clear hr0_2 hc0_2
 have HR1_0 := Aside0.mk hr1_0
 have HC1_0 := Aside0.mk hc1_0
 clear hr1_0 hc1_0
 have HR1_1 := Aside0.mk hr1_1
 have HC1_1 := Aside0.mk hc1_1
 clear hr1_1 hc1_1
 have HR1_2 := Aside0.mk hr1_2
 have HC1_2 := Aside0.mk hc1_2
 clear hr1_2 hc1_2
 have HB := Aside0.mk (Below.refl w.heap.size w)
 have H : ((clepsydraref01_Same.f k l0_0 l1_0).bind fun t170 => (if t170 = true then ((clepsydraref01_Same.f k l0_1 l1_1).bind fun t171 => (if t171 = true then ((clepsydraref01_Same.f k l0_2 l1_2).bind fun t172 => (some t172)) else (some false))) else (some false))) = some r := h
 clear h
 replace H := Option.bind_eq_some_iff.mp H
 obtain ⟨t170, A30, H⟩ := H
 try dsimp only at H
 have A3 := Aside0.mk A30
 clear A30
 by_cases c4 : t170 = true
 ·subst c4
  rw [if_pos rfl] at H
  replace H := Option.bind_eq_some_iff.mp H
  obtain ⟨t171, A50, H⟩ := H
  try dsimp only at H
  have A5 := Aside0.mk A50
  clear A50
  by_cases c6 : t171 = true
  ·subst c6
   rw [if_pos rfl] at H
   replace H := Option.bind_eq_some_iff.mp H
   obtain ⟨t172, A70, H⟩ := H
   try dsimp only at H
   have A7 := Aside0.mk A70
   clear A70
   obtain rfl := Option.some.inj H
   simp only [Option.some.injEq, Prod.mk.injEq] at H
   obtain ⟨rfl⟩ := H
   go_enter Tryz.func14, Tryz.ntmps14
   go_wp2_with (first | ((with_reducible refine gate_dst (N := 2) rfl ?_); refine box_event ?hg (N := 2) ?hd (cs := #[.slice A0_0 l0_0.length c0_0, .slice A0_1 l0_1.length c0_1, .slice A0_2 l0_2.length c0_2]) (t := 26) ?hr ?_; (case hd => rfl); (case hg => rfl); (case hr => (go_simp; done)); intro gb168 hg w8 hbox hb; have BK168 := Aside0.mk (hbox); have GW168 := Aside0.mk ((by rw [hg]; exact (below_size HB.out) : w.heap.size ≤ gb168)); have GE168 := Aside0.mk ((by rw [hg]; exact (below_size HB.out) : w.heap.size ≤ gb168)); replace HB := Aside0.mk (below_step HB.out hb); clear hb hbox hg) | ((with_reducible refine gate_dst (N := 3) rfl ?_); refine box_event ?hg (N := 3) ?hd (cs := #[.slice A1_0 l1_0.length c1_0, .slice A1_1 l1_1.length c1_1, .slice A1_2 l1_2.length c1_2]) (t := 26) ?hr ?_; (case hd => rfl); (case hg => rfl); (case hr => (go_simp; done)); intro gb169 hg w9 hbox hb; have BK169 := Aside0.mk (hbox); have GW169 := Aside0.mk ((by rw [hg]; exact (below_size HB.out) : w.heap.size ≤ gb169)); have GE169 := Aside0.mk ((by rw [hg]; exact (below_size HB.out) : w.heap.size ≤ gb169)); replace HB := Aside0.mk (below_step HB.out hb); have NB168_169 := Aside0.mk ((by rw [hg]; exact Nat.ne_of_lt (blk_lt (g := gb168) (o := .cells #[.slice A0_0 l0_0.length c0_0, .slice A0_1 l0_1.length c0_1, .slice A0_2 l0_2.length c0_2] 26 (0, 0)) BK168.out) : gb168 ≠ gb169)); have NB169_168 := Aside0.mk ((by rw [hg]; exact Nat.ne_of_gt (blk_lt (g := gb168) (o := .cells #[.slice A0_0 l0_0.length c0_0, .slice A0_1 l0_1.length c0_1, .slice A0_2 l0_2.length c0_2] 26 (0, 0)) BK168.out) : gb169 ≠ gb168)); replace BK168 := Aside0.mk (blk_below (g := gb168) (o := .cells #[.slice A0_0 l0_0.length c0_0, .slice A0_1 l0_1.length c0_1, .slice A0_2 l0_2.length c0_2] 26 (0, 0)) BK168.out hb); clear hb hbox hg; have hnb10 := NB168_169.out; have hnc10 := NB169_168.out; have hcz11_0 : w9.cell? ⟨gb168, 0, none⟩ = some (.slice A0_0 l0_0.length c0_0) := (blk_cell BK168.out 0).trans rfl; have hcz11_1 : w9.cell? ⟨gb168, 1, none⟩ = some (.slice A0_1 l0_1.length c0_1) := (blk_cell BK168.out 1).trans rfl; have hcz11_2 : w9.cell? ⟨gb168, 2, none⟩ = some (.slice A0_2 l0_2.length c0_2) := (blk_cell BK168.out 2).trans rfl; have hfz11_0 := blk_frozen BK168.out 0; have hfz11_1 := blk_frozen BK168.out 1; have hfz11_2 := blk_frozen BK168.out 2; have hcz12_0 : w9.cell? ⟨gb169, 0, none⟩ = some (.slice A1_0 l1_0.length c1_0) := (blk_cell BK169.out 0).trans rfl; have hcz12_1 : w9.cell? ⟨gb169, 1, none⟩ = some (.slice A1_1 l1_1.length c1_1) := (blk_cell BK169.out 1).trans rfl; have hcz12_2 : w9.cell? ⟨gb169, 2, none⟩ = some (.slice A1_2 l1_2.length c1_2) := (blk_cell BK169.out 2).trans rfl; have hfz12_0 := blk_frozen BK169.out 0; have hfz12_1 := blk_frozen BK169.out 1; have hfz12_2 := blk_frozen BK169.out 2) | ((with_reducible refine gate_callee (f := 35) rfl ?_); refine goesL_ (some 9) rfl rfl Tryz.func35 (by kernel_rfl) rfl #[.slice A0_0 l0_0.length c0_0, .slice A1_0 l1_0.length c1_0] rfl (by (try simp only [List.map_toArray, List.map_cons, List.map_nil]); rfl) ?_; (with_reducible refine (clepsydraref01_Same.calls k _ _ l0_0 _ _ l1_0 true _ ?side1 ?side2 ?side3 ?side4 A3.out).mono ?_); (case side1 => exact (Kd.C_below HR0_0.out HB.out)); (case side2 => exact HC0_0.out); (case side3 => exact (Kd.C_below HR1_0.out HB.out)); (case side4 => exact HC1_0.out); rintro e w' ⟨rfl, ⟨nd, rfl⟩⟩; refine ⟨_, rfl, ?_⟩) | (go_at_call 35; (with_reducible refine (clepsydraref01_Same.calls k _ _ l0_1 _ _ l1_1 true _ ?side1 ?side2 ?side3 ?side4 A5.out).mono ?_); (case side1 => repeat ((exact (Kd.C_below HR0_1.out (by repeat ((with_reducible first | exact HB.out | apply pw_below_drewN))))))); (case side2 => exact HC0_1.out); (case side3 => repeat ((exact (Kd.C_below HR1_1.out (by repeat ((with_reducible first | exact HB.out | apply pw_below_drewN))))))); (case side4 => exact HC1_1.out); rintro e w' ⟨rfl, ⟨nd, rfl⟩⟩) | (go_at_call 35; (with_reducible refine (clepsydraref01_Same.calls k _ _ l0_2 _ _ l1_2 t172 _ ?side1 ?side2 ?side3 ?side4 A7.out).mono ?_); (case side1 => repeat ((exact (Kd.C_below HR0_2.out (by repeat ((with_reducible first | exact HB.out | apply pw_below_drewN))))))); (case side2 => exact HC0_2.out); (case side3 => repeat ((exact (Kd.C_below HR1_2.out (by repeat ((with_reducible first | exact HB.out | apply pw_below_drewN))))))); (case side4 => exact HC1_2.out); rintro e w' ⟨rfl, ⟨nd, rfl⟩⟩))
   go_ret
   exact ⟨by rfl, by repeat ((with_reducible first | exact HB.out | apply pw_below_drewN))⟩
  ·replace c6 := Bool.eq_false_iff.mpr c6
   subst c6
   rw [if_neg (show ¬ (false = true) by decide)] at H
   obtain rfl := Option.some.inj H
   simp only [Option.some.injEq, Prod.mk.injEq] at H
   obtain ⟨rfl⟩ := H
   go_enter Tryz.func14, Tryz.ntmps14
   go_wp2_with (first | ((with_reducible refine gate_dst (N := 2) rfl ?_); refine box_event ?hg (N := 2) ?hd (cs := #[.slice A0_0 l0_0.length c0_0, .slice A0_1 l0_1.length c0_1, .slice A0_2 l0_2.length c0_2]) (t := 26) ?hr ?_; (case hd => rfl); (case hg => rfl); (case hr => (go_simp; done)); intro gb168 hg w13 hbox hb; have BK168 := Aside0.mk (hbox); have GW168 := Aside0.mk ((by rw [hg]; exact (below_size HB.out) : w.heap.size ≤ gb168)); have GE168 := Aside0.mk ((by rw [hg]; exact (below_size HB.out) : w.heap.size ≤ gb168)); replace HB := Aside0.mk (below_step HB.out hb); clear hb hbox hg) | ((with_reducible refine gate_dst (N := 3) rfl ?_); refine box_event ?hg (N := 3) ?hd (cs := #[.slice A1_0 l1_0.length c1_0, .slice A1_1 l1_1.length c1_1, .slice A1_2 l1_2.length c1_2]) (t := 26) ?hr ?_; (case hd => rfl); (case hg => rfl); (case hr => (go_simp; done)); intro gb169 hg w14 hbox hb; have BK169 := Aside0.mk (hbox); have GW169 := Aside0.mk ((by rw [hg]; exact (below_size HB.out) : w.heap.size ≤ gb169)); have GE169 := Aside0.mk ((by rw [hg]; exact (below_size HB.out) : w.heap.size ≤ gb169)); replace HB := Aside0.mk (below_step HB.out hb); have NB168_169 := Aside0.mk ((by rw [hg]; exact Nat.ne_of_lt (blk_lt (g := gb168) (o := .cells #[.slice A0_0 l0_0.length c0_0, .slice A0_1 l0_1.length c0_1, .slice A0_2 l0_2.length c0_2] 26 (0, 0)) BK168.out) : gb168 ≠ gb169)); have NB169_168 := Aside0.mk ((by rw [hg]; exact Nat.ne_of_gt (blk_lt (g := gb168) (o := .cells #[.slice A0_0 l0_0.length c0_0, .slice A0_1 l0_1.length c0_1, .slice A0_2 l0_2.length c0_2] 26 (0, 0)) BK168.out) : gb169 ≠ gb168)); replace BK168 := Aside0.mk (blk_below (g := gb168) (o := .cells #[.slice A0_0 l0_0.length c0_0, .slice A0_1 l0_1.length c0_1, .slice A0_2 l0_2.length c0_2] 26 (0, 0)) BK168.out hb); clear hb hbox hg; have hnb15 := NB168_169.out; have hnc15 := NB169_168.out; have hcz16_0 : w14.cell? ⟨gb168, 0, none⟩ = some (.slice A0_0 l0_0.length c0_0) := (blk_cell BK168.out 0).trans rfl; have hcz16_1 : w14.cell? ⟨gb168, 1, none⟩ = some (.slice A0_1 l0_1.length c0_1) := (blk_cell BK168.out 1).trans rfl; have hcz16_2 : w14.cell? ⟨gb168, 2, none⟩ = some (.slice A0_2 l0_2.length c0_2) := (blk_cell BK168.out 2).trans rfl; have hfz16_0 := blk_frozen BK168.out 0; have hfz16_1 := blk_frozen BK168.out 1; have hfz16_2 := blk_frozen BK168.out 2; have hcz17_0 : w14.cell? ⟨gb169, 0, none⟩ = some (.slice A1_0 l1_0.length c1_0) := (blk_cell BK169.out 0).trans rfl; have hcz17_1 : w14.cell? ⟨gb169, 1, none⟩ = some (.slice A1_1 l1_1.length c1_1) := (blk_cell BK169.out 1).trans rfl; have hcz17_2 : w14.cell? ⟨gb169, 2, none⟩ = some (.slice A1_2 l1_2.length c1_2) := (blk_cell BK169.out 2).trans rfl; have hfz17_0 := blk_frozen BK169.out 0; have hfz17_1 := blk_frozen BK169.out 1; have hfz17_2 := blk_frozen BK169.out 2) | ((with_reducible refine gate_callee (f := 35) rfl ?_); refine goesL_ (some 9) rfl rfl Tryz.func35 (by kernel_rfl) rfl #[.slice A0_0 l0_0.length c0_0, .slice A1_0 l1_0.length c1_0] rfl (by (try simp only [List.map_toArray, List.map_cons, List.map_nil]); rfl) ?_; (with_reducible refine (clepsydraref01_Same.calls k _ _ l0_0 _ _ l1_0 true _ ?side1 ?side2 ?side3 ?side4 A3.out).mono ?_); (case side1 => exact (Kd.C_below HR0_0.out HB.out)); (case side2 => exact HC0_0.out); (case side3 => exact (Kd.C_below HR1_0.out HB.out)); (case side4 => exact HC1_0.out); rintro e w' ⟨rfl, ⟨nd, rfl⟩⟩; refine ⟨_, rfl, ?_⟩) | (go_at_call 35; (with_reducible refine (clepsydraref01_Same.calls k _ _ l0_1 _ _ l1_1 false _ ?side1 ?side2 ?side3 ?side4 A5.out).mono ?_); (case side1 => repeat ((exact (Kd.C_below HR0_1.out (by repeat ((with_reducible first | exact HB.out | apply pw_below_drewN))))))); (case side2 => exact HC0_1.out); (case side3 => repeat ((exact (Kd.C_below HR1_1.out (by repeat ((with_reducible first | exact HB.out | apply pw_below_drewN))))))); (case side4 => exact HC1_1.out); rintro e w' ⟨rfl, ⟨nd, rfl⟩⟩))
   go_ret
   exact ⟨by rfl, by repeat ((with_reducible first | exact HB.out | apply pw_below_drewN))⟩
 ·replace c4 := Bool.eq_false_iff.mpr c4
  subst c4
  rw [if_neg (show ¬ (false = true) by decide)] at H
  obtain rfl := Option.some.inj H
  simp only [Option.some.injEq, Prod.mk.injEq] at H
  obtain ⟨rfl⟩ := H
  go_enter Tryz.func14, Tryz.ntmps14
  go_wp2_with (first | ((with_reducible refine gate_dst (N := 2) rfl ?_); refine box_event ?hg (N := 2) ?hd (cs := #[.slice A0_0 l0_0.length c0_0, .slice A0_1 l0_1.length c0_1, .slice A0_2 l0_2.length c0_2]) (t := 26) ?hr ?_; (case hd => rfl); (case hg => rfl); (case hr => (go_simp; done)); intro gb168 hg w18 hbox hb; have BK168 := Aside0.mk (hbox); have GW168 := Aside0.mk ((by rw [hg]; exact (below_size HB.out) : w.heap.size ≤ gb168)); have GE168 := Aside0.mk ((by rw [hg]; exact (below_size HB.out) : w.heap.size ≤ gb168)); replace HB := Aside0.mk (below_step HB.out hb); clear hb hbox hg) | ((with_reducible refine gate_dst (N := 3) rfl ?_); refine box_event ?hg (N := 3) ?hd (cs := #[.slice A1_0 l1_0.length c1_0, .slice A1_1 l1_1.length c1_1, .slice A1_2 l1_2.length c1_2]) (t := 26) ?hr ?_; (case hd => rfl); (case hg => rfl); (case hr => (go_simp; done)); intro gb169 hg w19 hbox hb; have BK169 := Aside0.mk (hbox); have GW169 := Aside0.mk ((by rw [hg]; exact (below_size HB.out) : w.heap.size ≤ gb169)); have GE169 := Aside0.mk ((by rw [hg]; exact (below_size HB.out) : w.heap.size ≤ gb169)); replace HB := Aside0.mk (below_step HB.out hb); have NB168_169 := Aside0.mk ((by rw [hg]; exact Nat.ne_of_lt (blk_lt (g := gb168) (o := .cells #[.slice A0_0 l0_0.length c0_0, .slice A0_1 l0_1.length c0_1, .slice A0_2 l0_2.length c0_2] 26 (0, 0)) BK168.out) : gb168 ≠ gb169)); have NB169_168 := Aside0.mk ((by rw [hg]; exact Nat.ne_of_gt (blk_lt (g := gb168) (o := .cells #[.slice A0_0 l0_0.length c0_0, .slice A0_1 l0_1.length c0_1, .slice A0_2 l0_2.length c0_2] 26 (0, 0)) BK168.out) : gb169 ≠ gb168)); replace BK168 := Aside0.mk (blk_below (g := gb168) (o := .cells #[.slice A0_0 l0_0.length c0_0, .slice A0_1 l0_1.length c0_1, .slice A0_2 l0_2.length c0_2] 26 (0, 0)) BK168.out hb); clear hb hbox hg; have hnb20 := NB168_169.out; have hnc20 := NB169_168.out; have hcz21_0 : w19.cell? ⟨gb168, 0, none⟩ = some (.slice A0_0 l0_0.length c0_0) := (blk_cell BK168.out 0).trans rfl; have hcz21_1 : w19.cell? ⟨gb168, 1, none⟩ = some (.slice A0_1 l0_1.length c0_1) := (blk_cell BK168.out 1).trans rfl; have hcz21_2 : w19.cell? ⟨gb168, 2, none⟩ = some (.slice A0_2 l0_2.length c0_2) := (blk_cell BK168.out 2).trans rfl; have hfz21_0 := blk_frozen BK168.out 0; have hfz21_1 := blk_frozen BK168.out 1; have hfz21_2 := blk_frozen BK168.out 2; have hcz22_0 : w19.cell? ⟨gb169, 0, none⟩ = some (.slice A1_0 l1_0.length c1_0) := (blk_cell BK169.out 0).trans rfl; have hcz22_1 : w19.cell? ⟨gb169, 1, none⟩ = some (.slice A1_1 l1_1.length c1_1) := (blk_cell BK169.out 1).trans rfl; have hcz22_2 : w19.cell? ⟨gb169, 2, none⟩ = some (.slice A1_2 l1_2.length c1_2) := (blk_cell BK169.out 2).trans rfl; have hfz22_0 := blk_frozen BK169.out 0; have hfz22_1 := blk_frozen BK169.out 1; have hfz22_2 := blk_frozen BK169.out 2) | ((with_reducible refine gate_callee (f := 35) rfl ?_); refine goesL_ (some 9) rfl rfl Tryz.func35 (by kernel_rfl) rfl #[.slice A0_0 l0_0.length c0_0, .slice A1_0 l1_0.length c1_0] rfl (by (try simp only [List.map_toArray, List.map_cons, List.map_nil]); rfl) ?_; (with_reducible refine (clepsydraref01_Same.calls k _ _ l0_0 _ _ l1_0 false _ ?side1 ?side2 ?side3 ?side4 A3.out).mono ?_); (case side1 => exact (Kd.C_below HR0_0.out HB.out)); (case side2 => exact HC0_0.out); (case side3 => exact (Kd.C_below HR1_0.out HB.out)); (case side4 => exact HC1_0.out); rintro e w' ⟨rfl, ⟨nd, rfl⟩⟩; refine ⟨_, rfl, ?_⟩))
  go_ret
  exact ⟨by rfl, by repeat ((with_reducible first | exact HB.out | apply pw_below_drewN))⟩
end Go.Proofs.YtdmglajfmfjmlaaGreat.Cz
namespace Go.Proofs.YtdmglajfmfjmlaaGreat.Cz
open Go.RowKit Go.Proofs.YtdmglajfmfjmlaaGreatW.PrintWords Go.Proofs.YtdmglajfmfjmlaaGreatW.PrintLast Go.Proofs.YtdmglajfmfjmlaaGreatW.PrintMore
attribute [local go_sem] max2_int min2_int max_two min_two max_three min_three max_four min_four   -- for this text's walks alone
set_option linter.unusedVariables false
set_option linter.unusedSimpArgs false
end Go.Proofs.YtdmglajfmfjmlaaGreat.Cz
namespace Go.Proofs.YtdmglajfmfjmlaaGreat
set_option linter.unusedSimpArgs false
set_option linter.unusedVariables false
set_option maxRecDepth 100000
open Go.RowKit Go.Proofs.YtdmglajfmfjmlaaGreatW.PrintWords Go.Proofs.YtdmglajfmfjmlaaGreatW.PrintLast Go.Proofs.YtdmglajfmfjmlaaGreatW.PrintMore
section
variable {a b n e d : List Int}
theorem cz_bits (h : okN 262144 a) : Cz.clepsydraref01_Bits.f a = some ((blen (nI a) : Nat) : Int) := if_pos h
theorem cz_cmp (h : okN 262144 a) (h' : okN 262144 b) : Cz.clepsydraref01_Cmp.f a b = some (cmpN (nI a) (nI b)) := if_pos ⟨h, h'⟩
theorem cz_bit0 (h : okN 262144 a) : Cz.clepsydraref01_Bit.f a 0 = some ((nI a % 2 : Nat) : Int) := by
  unfold Cz.clepsydraref01_Bit.f
  rw [if_pos h, if_neg (by omega)]; simp
theorem cz_mul (h : okN 262144 a) (h' : okN 262144 b) : Cz.clepsydraref01_Mul.f a b = some (ofN (nI a * nI b)) := if_pos ⟨h, h'⟩
theorem nI_one {x : Nat} : nI [(x : Int)] = x := by unfold nI; simp [toN, nv]
theorem cz_small {x : Nat} (h : x < 18446744073709551616) : Cz.clepsydraref05_small.f (x : Int) = some (ofN x) := by
  have h1 : okN 262144 [(x : Int)] := ⟨by simp, fun y hy => by rw [List.mem_singleton] at hy; omega⟩
  unfold Cz.clepsydraref05_small.f Cz.clepsydraref01_Of.f Cz.clepsydraref01_Trim.f
  rw [if_pos (by simp), List.nil_append, if_pos h1, nI_one]
  rfl
theorem ok1 : okN 262144 (ofN 1) := okN_1 (by omega)
theorem cz_less (h : okN 262144 a) : Cz.clepsydraref05_less.f a = some (ofN (nI a - 1)) := by
  unfold Cz.clepsydraref05_less.f
  rw [show (1 : Int) = ((1 : Nat) : Int) from rfl, cz_small (by omega), Option.bind_some]
  unfold Cz.clepsydraref01_Sub.f
  rw [if_pos ⟨h, ok1⟩, Option.bind_some, nI_ofN]
theorem cmpN_zero {x y : Nat} : cmpN x y = 0 ↔ x = y := by unfold cmpN; split <;> (try split) <;> omega
theorem cmpN_ge {x y : Nat} : cmpN x y ≥ 0 ↔ y ≤ x := by unfold cmpN; split <;> (try split) <;> omega
theorem odd_blen {x : Nat} (h : x % 2 = 1) : 2 ≤ blen x ↔ x ≠ 1 := by
  constructor
  · intro h1 h2
    subst h2
    have : blen 1 ≤ 1 := blen_le.2 (by decide)
    omega
  · intro h1
    by_cases h2 : blen x ≤ 1
    · have := blen_le.1 h2
      omega
    · omega
theorem rright_pure (on : okN 262144 n) (oe : okN 262144 e) (od : okN 262144 d) (k : Nat) : Cz.clepsydraref05_Right.f (k + 2) n e d = some (keyR (nI n) (nI e) (nI d)) := by
  have J1 : ∀ b, Cz.clepsydraref05_Right.j1 (k + 1) b n e d = some (if b = true then 50 else if nI d < nI n then 0 else 50) := fun b => by
    simp only [Cz.clepsydraref05_Right.j1]
    cases b <;> simp only [Bool.false_eq_true, if_false, if_true]
    · rw [cz_cmp od on, Option.bind_some]
      by_cases h : nI d < nI n
      · rw [if_neg (by rw [cmpN_ge]; omega), if_pos h]
      · rw [if_pos (by rw [cmpN_ge]; omega), if_neg h]
  have J0 : ∀ b, Cz.clepsydraref05_Right.j0 (k + 2) b n e d = some (if b = true then 50 else if nI e % 2 = 1 ∧ nI e ≠ 1 ∧ nI e < nI n ∧ nI d < nI n then 0 else 50) := fun b => by
    simp only [Cz.clepsydraref05_Right.j0]
    cases b <;> simp only [Bool.false_eq_true, if_false, if_true]
    · rw [cz_bit0 oe, Option.bind_some]
      by_cases h0 : nI e % 2 = 0
      · rw [if_pos (by omega), J1, if_pos rfl, if_neg (by omega)]
      · rw [if_neg (by omega), show (1 : Int) = ((1 : Nat) : Int) from rfl, cz_small (by omega), Option.bind_some, cz_cmp oe ok1, Option.bind_some, nI_ofN]
        by_cases h1 : nI e = 1
        · rw [if_pos (cmpN_zero.2 h1), J1, if_pos rfl, if_neg (by omega)]
        · rw [if_neg (fun h => h1 (cmpN_zero.1 h)), cz_cmp oe on, Option.bind_some, J1]
          by_cases h2 : nI e < nI n
          · rw [decide_eq_false (by rw [cmpN_ge]; omega), if_neg (by decide)]
            by_cases h3 : nI d < nI n
            · rw [if_pos h3, if_pos ⟨by omega, h1, h2, h3⟩]
            · rw [if_neg h3, if_neg (fun h => h3 h.2.2.2)]
          · rw [decide_eq_true (by rw [cmpN_ge]; omega), if_pos rfl, if_neg (fun h => h2 h.2.2.1)]
  unfold Cz.clepsydraref05_Right.f
  rw [cz_bits on, Option.bind_some]
  unfold keyR
  by_cases h1 : blen (nI n) < 16
  · rw [if_pos (by omega), J0, if_pos rfl, if_neg (by omega)]
  rw [if_neg (by omega)]
  by_cases h2 : 1024 < blen (nI n)
  · rw [if_pos (by omega), J0, if_pos rfl, if_neg (by omega)]
  rw [if_neg (by omega), cz_bit0 on, Option.bind_some, J0]
  by_cases h3 : nI n % 2 = 0
  · rw [if_pos (by rw [beq_iff_eq]; omega), if_neg (by omega)]
  rw [if_neg (by rw [beq_iff_eq]; omega)]
  by_cases h4 : nI e % 2 = 1
  · have hb := odd_blen h4
    by_cases h5 : nI e ≠ 1 ∧ nI e < nI n ∧ nI d < nI n
    · rw [if_pos ⟨h4, h5⟩, if_pos ⟨by omega, by omega, by omega, h4, hb.2 h5.1, h5.2.1, h5.2.2⟩]
    · rw [if_neg (fun h => h5 h.2), if_neg (fun h => h5 ⟨hb.1 h.2.2.2.2.1, h.2.2.2.2.2⟩)]
  · rw [if_neg (fun h => h4 h.1), if_neg (fun h => h4 h.2.2.2.1)]
theorem rmake_pure (oa : okN 64 a) (ob : okN 64 b) {x : Nat} (hx : x < 18446744073709551616) (k : Nat) :
    Cz.clepsydraref05_Make.f (k + 4) a b (x : Int) = some ((makeR (nI a) (nI b) x).1.1, (makeR (nI a) (nI b) x).1.2.1, (makeR (nI a) (nI b) x).1.2.2, (makeR (nI a) (nI b) x).2) := by
  have oa' := oa.le (m' := 262144) (by omega)
  have ob' := ob.le (m' := 262144) (by omega)
  have la := ln_nI oa
  have lb := ln_nI ob
  have l1 : ln (nI a - 1) ≤ 64 := Nat.le_trans (ln_mono (by omega)) la
  have l2 : ln (nI b - 1) ≤ 64 := Nat.le_trans (ln_mono (by omega)) lb
  have l3 : ln ((nI a - 1) * (nI b - 1)) ≤ 128 := lnm l1 l2 (by omega)
  have l4 : ln (nI a * nI b) ≤ 128 := lnm la lb (by omega)
  have lx := ln_small hx
  have E : ∀ {P : Prop} [Decidable P] (u : List Int × List Int × List Int), ¬ P → ∀ m : (List Int × List Int × List Int) × Int, m = (if P then (u, 0) else (([], [], []), 50)) → some (([] : List Int), ([] : List Int), ([] : List Int), (50 : Int)) = some (m.1.1, m.1.2.1, m.1.2.2, m.2) := by
    intro P _ u h m hm
    rw [if_neg h] at hm
    subst hm; rfl
  have hB : ∀ l : List Int, okN 64 l → Cz.clepsydraref03_Prime.f l [2, 3, 5, 7, 11, 13, 17, 19, 23, 29, 31, 37] = some (primeN (nI l) bs12) := fun l hl => by
    unfold Cz.clepsydraref03_Prime.f
    rw [if_pos ⟨hl.le (by omega), by decide⟩]
    rfl
  have J1 : ∀ q, Cz.clepsydraref05_Make.j1 (k + 3) a b (x : Int) q = if q = true then some (([] : List Int), ([] : List Int), ([] : List Int), (50 : Int)) else
      (if (invR x ((nI a - 1) * (nI b - 1))).2 = 0 ∧ keyR (nI a * nI b) x (nI (invR x ((nI a - 1) * (nI b - 1))).1) = 0 then some (ofN (nI a * nI b), ofN x, (invR x ((nI a - 1) * (nI b - 1))).1, 0) else some (([] : List Int), ([] : List Int), ([] : List Int), (50 : Int))) := fun q => by
    simp only [Cz.clepsydraref05_Make.j1]
    cases q <;> simp only [Bool.false_eq_true, if_false, if_true]
    · rw [cz_small hx, Option.bind_some, cz_less oa', Option.bind_some, cz_less ob', Option.bind_some, cz_mul (okN_ofN (Nat.le_trans l1 (by omega))) (okN_ofN (Nat.le_trans l2 (by omega))), Option.bind_some, nI_ofN, nI_ofN]
      unfold Cz.clepsydraref03_Inverse.f
      rw [if_pos ⟨okN_ofN (Nat.le_trans lx (by omega)), okN_ofN (Nat.le_trans l3 (by omega))⟩, nI_ofN, nI_ofN, Option.bind_some, cz_mul oa' ob', Option.bind_some, Option.bind_some]
      generalize hph : (nI a - 1) * (nI b - 1) = phi at *
      by_cases hi : (invR x phi).2 = 0
      · have od : okN 262144 (invR x phi).1 := by
          unfold invR at hi ⊢
          split
          · exact ⟨by simp, by simp⟩
          · split
            · exact okN_ofN (Nat.le_trans (ln_mono (Nat.le_of_lt (invN_gcd (by omega) (by assumption)).1)) (Nat.le_trans l3 (by omega)))
            · exact ⟨by simp, by simp⟩
        rw [if_pos hi, show k + 2 = k + 2 from rfl, rright_pure (okN_ofN (Nat.le_trans l4 (by omega))) (okN_ofN (Nat.le_trans lx (by omega))) od, Option.bind_some, nI_ofN, nI_ofN]
        by_cases hk : keyR (nI a * nI b) x (nI (invR x phi).1) = 0
        · rw [if_pos hk, if_pos ⟨hi, hk⟩]
        · rw [if_neg hk, if_neg (fun h => hk h.2)]
      · rw [if_neg hi, if_neg (fun h => hi h.1)]
  have J0 : ∀ q, Cz.clepsydraref05_Make.j0 (k + 4) a b (x : Int) q = if q = true then some (([] : List Int), ([] : List Int), ([] : List Int), (50 : Int)) else Cz.clepsydraref05_Make.j1 (k + 3) a b (x : Int) (!(primeN (nI a) bs12 && primeN (nI b) bs12)) := fun q => by
    simp only [Cz.clepsydraref05_Make.j0]
    cases q <;> simp only [Bool.false_eq_true, if_false, if_true]
    · unfold Cz.clepsydraref05_Bases.f
      rw [Option.bind_some, hB a oa, Option.bind_some]
      cases primeN (nI a) bs12
      · simp only [Bool.false_eq_true, if_false, Bool.false_and, Bool.not_false]
      · rw [if_pos rfl, Option.bind_some, hB b ob, Option.bind_some, Bool.true_and]
  have hM : makeR (nI a) (nI b) x = (if mayB (nI a) = true ∧ mayB (nI b) = true ∧ nI a ≠ nI b ∧ x % 2 = 1 ∧ 3 ≤ x ∧ (invR x ((nI a - 1) * (nI b - 1))).2 = 0 ∧ keyR (nI a * nI b) x (invN x ((nI a - 1) * (nI b - 1))) = 0 then ((ofN (nI a * nI b), ofN x, ofN (invN x ((nI a - 1) * (nI b - 1)))), 0) else (([], [], []), 50)) := rfl
  have mB : ∀ y, mayB y = (decide (blen y ≤ 512) && primeN y bs12) := fun _ => rfl
  unfold Cz.clepsydraref05_Make.f
  rw [cz_bits oa', Option.bind_some]
  by_cases h1 : 512 < blen (nI a)
  · rw [if_pos (by omega), J0, if_pos rfl]
    exact E _ (fun h => by have := h.1; rw [mB, decide_eq_false (by omega)] at this; cases this) _ hM
  rw [if_neg (by omega), cz_bits ob', Option.bind_some]
  by_cases h2 : 512 < blen (nI b)
  · rw [if_pos (by omega), J0, if_pos rfl]
    exact E _ (fun h => by have := h.2.1; rw [mB, decide_eq_false (by omega)] at this; cases this) _ hM
  rw [if_neg (by omega), cz_cmp oa' ob', Option.bind_some]
  by_cases h3 : nI a = nI b
  · rw [if_pos (cmpN_zero.2 h3), J0, if_pos rfl]
    exact E _ (fun h => h.2.2.1 h3) _ hM
  rw [if_neg (fun h => h3 (cmpN_zero.1 h)), show Int.tmod (x : Int) 2 = ((x % 2 : Nat) : Int) by rw [Int.tmod_eq_emod_of_nonneg (by omega)]; omega]
  by_cases h4 : x % 2 = 0
  · rw [if_pos (by omega), J0, if_pos rfl]
    exact E _ (fun h => by have := h.2.2.2.1; omega) _ hM
  rw [if_neg (by omega), J0]
  by_cases h5 : x < 3
  · rw [decide_eq_true (by omega), if_pos rfl]
    exact E _ (fun h => by have := h.2.2.2.2.1; omega) _ hM
  rw [decide_eq_false (by omega), if_neg (by decide), J1]
  by_cases h6 : (primeN (nI a) bs12 && primeN (nI b) bs12) = true
  · rw [h6, if_neg (by decide)]
    rw [Bool.and_eq_true] at h6
    have ma : mayB (nI a) = true := by rw [mB, decide_eq_true (by omega), h6.1]; rfl
    have mb : mayB (nI b) = true := by rw [mB, decide_eq_true (by omega), h6.2]; rfl
    generalize hph : (nI a - 1) * (nI b - 1) = phi at *
    by_cases hi : (invR x phi).2 = 0
    · have hv : (invR x phi).1 = ofN (invN x phi) := by
        unfold invR at hi ⊢
        split at hi
        · simp at hi
        · split at hi
          · rw [if_neg (by assumption), if_pos (by assumption)]
          · simp at hi
      rw [hv, nI_ofN]
      by_cases hk : keyR (nI a * nI b) x (invN x phi) = 0
      · rw [if_pos ⟨hi, hk⟩, hM, if_pos ⟨ma, mb, h3, by omega, by omega, hi, hk⟩]
      · rw [if_neg (fun h => hk h.2)]
        exact E _ (fun h => hk h.2.2.2.2.2.2) _ hM
    · rw [if_neg (fun h => hi h.1)]
      exact E _ (fun h => hi h.2.2.2.2.2.1) _ hM
  · rw [Bool.not_eq_true] at h6
    rw [h6, Bool.not_false, if_pos rfl]
    rw [← Bool.not_eq_true] at h6
    exact E _ (fun h => h6 (by
      have h7 := h.1
      have h8 := h.2.1
      rw [mB, Bool.and_eq_true] at h7 h8
      rw [h7.2, h8.2]; rfl)) _ hM
end
end Go.Proofs.YtdmglajfmfjmlaaGreat
namespace Go.Proofs.YtdmglajfmfjmlaaGreat
set_option linter.unusedSimpArgs false
set_option linter.unusedVariables false
set_option maxRecDepth 100000
open Go.ChangeShapes Go.WideShapes Go.ChangeAt Go.RowKit
theorem nums_arg {H : Type} {enc : TypeId × Value → H} {P : Program} {W : World} {t e : TypeId} {k : IntKind} {A : Option Addr} {n c : Nat} {d : DataW H} {p : List MemPlace} (ht : P.underlying t = some (.slice e)) (he : P.underlying e = some (.int k)) (hc : P.cellsOf e = 1)
    (h0 : DataW.Trod enc P W 0 (fun _ => true) true t (.slice A n c) d p) (hk : ∀ z, (Lit.int k z).wf = true → 0 ≤ z) :
    ∃ xs : List Nat, (A = none → n = 0) ∧ Rd k W A n c xs ∧ ∀ x ∈ xs, (Lit.int k (x : Int)).wf = true := by
  obtain ⟨fuel, hf⟩ := h0
  rcases open_ints ht he hc hf with ⟨hcs, _⟩ | ⟨x, l, c', zs, hcs, _, hl, hm, hz, _, hcell, hwz⟩
  · simp [Value.cells] at hcs
    obtain ⟨rfl, rfl, rfl⟩ := hcs
    exact ⟨[], fun _ => rfl, Rd.nil _ _ _ _, by simp⟩
  · simp [Value.cells] at hcs
    obtain ⟨rfl, rfl, rfl⟩ := hcs
    simp only [if_true] at hz
    have nn : ∀ i, i < n → 0 ≤ zs.getD i 0 := fun i hi => by
      rw [List.getD_eq_getElem?_getD, List.getElem?_eq_getElem (by omega)]
      exact hk _ (hwz _ (List.getElem_mem _))
    refine ⟨(zs.take n).map Int.toNat, (fun h => by cases h), ⟨by rw [List.length_map, List.length_take]; omega, hl, by unfold maxLen at hm; omega, fun hn => ⟨x, rfl, ?_, fun j y hy => ?_⟩⟩, ?_⟩
    · have := World.block_lt_of_cell? W _ (hcell 0 (by omega))
      rwa [Go.ChangeShapes.block_add] at this
    · have hj : j < n := by
        rcases Nat.lt_or_ge j n with h | h
        · exact h
        · rw [List.getElem?_eq_none (by rw [List.length_map, List.length_take]; omega)] at hy; cases hy
      rw [hcell j (by omega)]
      have h1 := nn j hj
      rw [List.getD_eq_getElem?_getD, List.getElem?_eq_getElem (by omega)] at h1 ⊢
      rw [List.getElem?_map, List.getElem?_take, if_pos hj, List.getElem?_eq_getElem (by omega)] at hy
      simp only [Option.map_some, Option.some.injEq, Option.getD_some] at hy h1 ⊢
      congr 2; omega
    · intro y hy
      simp only [List.mem_map] at hy
      obtain ⟨z, hz', rfl⟩ := hy
      have hw := hwz z (List.mem_of_mem_take hz')
      rw [Int.toNat_of_nonneg (hk z hw)]
      exact hw
theorem u64_wf {z : Int} (h : (Lit.int .u64 z).wf = true) : 0 ≤ z ∧ z < 18446744073709551616 := by
  simp only [Lit.wf, Bool.and_eq_true, decide_eq_true_eq] at h
  have h1 : IntKind.u64.min = 0 := by decide
  have h2 : IntKind.u64.max = 18446744073709551615 := by decide
  omega
end Go.Proofs.YtdmglajfmfjmlaaGreat
namespace Go.Proofs.YtdmglajfmfjmlaaGreat
set_option linter.unusedSimpArgs false
set_option linter.unusedVariables false
set_option maxRecDepth 100000
open Go.ChangeShapes Go.WideShapes Go.ChangeAt Go.RowKit Go.Joins Go.Deep
open Go.ChangeMaps (open_string shut_string)
theorem own_knob : ownKnob Tryz.prog.godebug = none := by kernel_rfl
theorem laid_out : laidOutB Tryz.prog = true := by kernel_rfl
end Go.Proofs.YtdmglajfmfjmlaaGreat
namespace Go.Proofs.YtdmglajfmfjmlaaGreat
set_option linter.unusedSimpArgs false
set_option linter.unusedVariables false
set_option maxRecDepth 100000
open Go.RowKit Go.ChangeShapes Go.WideShapes Go.Deep Go.ChangeAt Go.Joins Go.Proofs.YtdmglajfmfjmlaaGreatW.PrintWords Go.Proofs.YtdmglajfmfjmlaaGreatW.PrintLast
structure NArg where
  A : Option Addr
  c : Nat
  l : List Int
def NArg.v (x : NArg) : Value := .slice x.A x.l.length x.c
def NArg.R (W : World) (x : NArg) : Prop := Kd.C (Kd.int .u64) W x.A x.l.length x.l ∧ x.l.length ≤ x.c ∧ ∀ y ∈ x.l, 0 ≤ y ∧ y < 18446744073709551616
structure PArg where
  a : NArg
  b : NArg
  d : NArg
def PArg.v (x : PArg) : Value := .agg #[x.a.v, x.b.v, x.d.v]
def PArg.R (W : World) (x : PArg) : Prop := x.a.R W ∧ x.b.R W ∧ x.d.R W
section
variable {H : Type} {enc : TypeId × Value → H} {W : World}
theorem nat_of {A : Option Addr} {n c : Nat} {d : DataW H} {p : List MemPlace} (h : DataW.Trod enc Tryz.prog W 0 (fun _ => true) true 22 (.slice A n c) d p) : ∃ x : NArg, Value.slice A n c = x.v ∧ x.R W := by
  obtain ⟨xs, _, h1, h2⟩ := nums_arg (H := H) (enc := enc) Tryz.underlying22 Tryz.underlying23 (by kernel_rfl) h (fun z h => (u64_wf h).1)
  have hl := h1.len
  refine ⟨⟨A, c, cI xs⟩, ?_, C_of_Rd h1, ?_, ?_⟩
  · show Value.slice A n c = .slice A (cI xs).length c; rw [cI_length, hl]
  · show (cI xs).length ≤ c; rw [cI_length, hl]; exact h1.cap
  · intro y hy
    simp only [cI, List.mem_map] at hy
    obtain ⟨z, hz, rfl⟩ := hy
    exact u64_wf (h2 z hz)
theorem nat_arg {base : Nat} {v : Value} {d : DataW H} {p : List MemPlace} (hv : Value.okWide Tryz.prog W .any base 22 v) (h : DataW.Trod enc Tryz.prog W 0 (fun _ => true) true 22 v d p) : ∃ x : NArg, v = x.v ∧ x.R W := by
  obtain ⟨r, n, c, rfl⟩ := okWide_slice Tryz.underlying22 hv
  exact nat_of h
end
end Go.Proofs.YtdmglajfmfjmlaaGreat
namespace Go.Proofs.YtdmglajfmfjmlaaGreat
set_option linter.unusedSimpArgs false
set_option linter.unusedVariables false
set_option maxRecDepth 100000
open Go.RowKit Go.Proofs.YtdmglajfmfjmlaaGreatW.PrintWords Go.Proofs.YtdmglajfmfjmlaaGreatW.PrintLast Go.Proofs.YtdmglajfmfjmlaaGreatW.PrintMore
theorem cz_loop {l : List Int} (hm : l.length ≤ 9223372036854775807) (d : Nat) : ∀ (k i : Nat), i + d = l.length → d < k → Cz.clepsydraref01_Same.l0 k l l i = some true := by
  induction d with
  | zero =>
    intro k i hi hk
    obtain ⟨k, rfl⟩ : ∃ m, k = m + 1 := ⟨k - 1, by omega⟩
    simp only [Cz.clepsydraref01_Same.l0]
    rw [if_neg (by omega)]
  | succ d ih =>
    intro k i hi hk
    obtain ⟨k, rfl⟩ : ∃ m, k = m + 1 := ⟨k - 1, by omega⟩
    have hih := ih k (i + 1) (by omega) (by omega)
    have hw : wrap64 ((i : Int) + 1) = ((i + 1 : Nat) : Int) := by rw [show (i : Int) + 1 = ((i + 1 : Nat) : Int) by omega, wn (by omega)]
    simp only [Cz.clepsydraref01_Same.l0]
    rw [if_pos (by omega), if_pos (by omega), if_pos (by omega), if_pos trivial, hw, hih]
theorem cz_same {l : List Int} (hm : l.length ≤ 9223372036854775807) {k : Nat} (hk : l.length < k) : Cz.clepsydraref01_Same.f k l l = some true := by
  unfold Cz.clepsydraref01_Same.f
  rw [if_pos rfl]
  exact cz_loop hm l.length k 0 (by omega) hk
theorem same3_li {w : World} {v0 v1 v2 u0 u1 u2 : Value} {n e d : List Int} (h0 : LI .u64 w v0 n) (h1 : LI .u64 w v1 e) (h2 : LI .u64 w v2 d) (g0 : LI .u64 w u0 n) (g1 : LI .u64 w u1 e) (g2 : LI .u64 w u2 d) :
    Calls Tryz.prog 14 #[.agg #[v0, v1, v2], .agg #[u0, u1, u2]] w (PBO true w) := by
  obtain ⟨A0, c0, rfl, h0, k0⟩ := h0
  obtain ⟨A1, c1, rfl, h1, k1⟩ := h1
  obtain ⟨A2, c2, rfl, h2, k2⟩ := h2
  obtain ⟨B0, d0, rfl, g0, j0⟩ := g0
  obtain ⟨B1, d1, rfl, g1, j1⟩ := g1
  obtain ⟨B2, d2, rfl, g2, j2⟩ := g2
  refine Cz.clepsydraref05_Same.calls (n.length + e.length + d.length + 1) _ _ _ _ _ _ _ _ _ _ _ _ _ _ _ _ _ _ true w h0 k0 h1 k1 h2 k2 g0 j0 g1 j1 g2 j2 ?_
  unfold Cz.clepsydraref05_Same.f
  rw [cz_same h0.2.1 (by omega), Option.bind_some, if_pos rfl, cz_same h1.2.1 (by omega), Option.bind_some, if_pos rfl, cz_same h2.2.1 (by omega), Option.bind_some]
theorem rmake_li {w : World} {v0 v1 : Value} {a b : List Int} (h0 : LI .u64 w v0 a) (h1 : LI .u64 w v1 b) (oa : okN 64 a) (ob : okN 64 b) {e : Nat} (he : e < 18446744073709551616) {N E D : List Int} {r : Int} (hr : makeR (nI a) (nI b) e = ((N, E, D), r)) :
    Calls Tryz.prog 13 #[v0, v1, .int .u64 (e : Int)] w fun e_ w' => ∃ A1 c1 A2 c2 A3 c3, e_ = .returned (.tuple #[.agg #[.slice A1 N.length c1, .slice A2 E.length c2, .slice A3 D.length c3], .int .i64 r]) ∧
      LI .u64 w' (.slice A1 N.length c1) N ∧ LI .u64 w' (.slice A2 E.length c2) E ∧ LI .u64 w' (.slice A3 D.length c3) D ∧ Below w.heap.size w w' := by
  obtain ⟨A0, c0, rfl, h0, k0⟩ := h0
  obtain ⟨A1, c1, rfl, h1, k1⟩ := h1
  have hp := rmake_pure oa ob he 0
  rw [hr] at hp
  refine (Cz.clepsydraref05_Make.calls 4 _ _ _ _ _ _ (e : Int) N E D r w h0 k0 h1 k1 hp).mono ?_
  rintro e_ w' ⟨u0, u1, u2, rfl, r0, r1, r2, hb⟩
  obtain ⟨A1, c1, rfl⟩ := Kd.R_slice r0
  obtain ⟨A2, c2, rfl⟩ := Kd.R_slice r1
  obtain ⟨A3, c3, rfl⟩ := Kd.R_slice r2
  exact ⟨_, _, _, _, _, _, rfl, .of_R r0, .of_R r1, .of_R r2, hb⟩
theorem makeR_nn (p q e : Nat) {N E D : List Int} {r : Int} (h : makeR p q e = ((N, E, D), r)) : (∀ x ∈ N, 0 ≤ x) ∧ (∀ x ∈ E, 0 ≤ x) ∧ (∀ x ∈ D, 0 ≤ x) := by
  unfold makeR at h
  split at h <;> simp only [Prod.mk.injEq] at h <;> obtain ⟨⟨rfl, rfl, rfl⟩, _⟩ := h
  · exact ⟨ofN_nn _, ofN_nn _, ofN_nn _⟩
  · simp
set_option maxHeartbeats 2000000 in
theorem walk_PkeyMakes (x0 x1 : NArg) (a2 : Int) (w : World) (r0 : x0.R w) (r1 : x1.R w) (w2 : (Lit.int .u64 a2).wf = true) :
    Calls Tryz.prog 3 #[x0.v, x1.v, .int .u64 a2] w fun e w' => e = .returned (.bool true) ∧ Below w.heap.size w w' := by
  have HA := Lib.hid (fun w => alive5_any w)
  have u2 := u64_wf w2
  obtain ⟨e, rfl⟩ : ∃ m : Nat, a2 = (m : Int) := ⟨a2.toNat, by omega⟩
  have he : e < 18446744073709551616 := by omega
  clear w2 u2
  obtain ⟨A0, c0, a⟩ := x0
  obtain ⟨A1, c1, b⟩ := x1
  obtain ⟨h0, k0, p0⟩ := r0
  obtain ⟨h1, k1, p1⟩ := r1
  dsimp only at h0 k0 p0 h1 k1 p1
  unfold NArg.v
  dsimp only
  by_cases g0 : (2 : Int) < (a.length : Int)
  · clear h0 h1
    go_enter Tryz.func3, Tryz.ntmps3
    go_wp2_with (go_at_call 11; refine (HA.out _).mono ?_; rintro e w1 ⟨rfl, hb⟩)
    go_ret
    exact ⟨rfl, hb⟩
  by_cases g1 : (2 : Int) < (b.length : Int)
  · clear h0 h1
    go_enter Tryz.func3, Tryz.ntmps3
    go_wp2_with (go_at_call 11; refine (HA.out _).mono ?_; rintro e w1 ⟨rfl, hb⟩)
    go_ret
    exact ⟨rfl, hb⟩
  have oa : okN 64 a := ⟨by omega, p0⟩
  have ob : okN 64 b := ⟨by omega, p1⟩
  have L0 : LI .u64 w (.slice A0 a.length c0) a := ⟨_, _, rfl, h0, k0⟩
  have L1 : LI .u64 w (.slice A1 b.length c1) b := ⟨_, _, rfl, h1, k1⟩
  obtain ⟨⟨⟨N, E, D⟩, r⟩, hr⟩ : ∃ m, makeR (nI a) (nI b) e = m := ⟨_, rfl⟩
  have hnn := makeR_nn _ _ _ hr
  have HM := Lib.hid (make_lo L0 L1 oa ob he hr)
  have HR := Lib.hid (fun w' (h : Below w.heap.size w w') => rmake_li (L0.below h) (L1.below h) oa ob he hr)
  have HN := Lib.hid hnn
  unfold PK3 at HM
  obtain ⟨n0, hn0⟩ : ∃ n, a.length = n := ⟨_, rfl⟩
  obtain ⟨n1, hn1⟩ : ∃ n, b.length = n := ⟨_, rfl⟩
  rw [hn0] at HM HR g0 ⊢
  rw [hn1] at HM HR g1 ⊢
  obtain ⟨m0, hm0⟩ : ∃ n, N.length = n := ⟨_, rfl⟩
  obtain ⟨m1, hm1⟩ : ∃ n, E.length = n := ⟨_, rfl⟩
  obtain ⟨m2, hm2⟩ : ∃ n, D.length = n := ⟨_, rfl⟩
  rw [hm0, hm1, hm2] at HM HR
  clear hn0 hn1 hm0 hm1 hm2 L0 L1 hr hnn h0 h1 k0 k1 p0 p1 oa ob he
  go_enter Tryz.func3, Tryz.ntmps3
  go_upto_region 4 with (go_at_call 12; refine HM.out.mono ?_; rintro e_ w1 ⟨B0, d0, B1, d1, B2, d2, rfl, o0, o1, o2, hb1⟩)
  obtain ⟨w2, hw2⟩ : ∃ z, w1.alloc (.cells #[.slice B0 m0 d0, .slice B1 m1 d1, .slice B2 m2 d2] 26) = z := ⟨_, rfl⟩
  obtain ⟨g, hg⟩ : ∃ g, w1.heap.size = g := ⟨_, rfl⟩
  have hb2 : Below w1.heap.size w1 w2 := by rw [← hw2]; exact (Below.refl _ _).alloc (Nat.le_refl _) _
  have hk2 : Bk w2 g 26 #[.slice B0 m0 d0, .slice B1 m1 d1, .slice B2 m2 d2] := by rw [← hw2, ← hg]; exact Bk.new w1 _ _
  rw [hw2, hg]
  have HB2 := Lib.hid (hb1.trans (hb2.mono hb1.size))
  have HL2 := Lib.hid (And.intro (LI.of_Rdl (o0.rd.below hb2) HN.out.1) (And.intro (LI.of_Rdl (o1.rd.below hb2) HN.out.2.1) (LI.of_Rdl (o2.rd.below hb2) HN.out.2.2)))
  have HK2 := Lib.hid hk2
  have HR2 := Lib.hid (HR.out w2 HB2.out)
  clear hw2 hg hb1 hb2 hk2 o0 o1 o2 HM HR
  go_upto_region 5 with (go_at_call 13; refine HR2.out.mono ?_; rintro e_ w3 ⟨C0, f0, C1, f1, C2, f2, rfl, q0, q1, q2, hb3⟩)
  obtain ⟨w4, hw4⟩ : ∃ z, w3.alloc (.cells #[.slice C0 m0 f0, .slice C1 m1 f1, .slice C2 m2 f2] 26) = z := ⟨_, rfl⟩
  obtain ⟨g2, hg2⟩ : ∃ g, w3.heap.size = g := ⟨_, rfl⟩
  have hb4 : Below w3.heap.size w3 w4 := by rw [← hw4]; exact (Below.refl _ _).alloc (Nat.le_refl _) _
  have hk4 : Bk w4 g2 26 #[.slice C0 m0 f0, .slice C1 m1 f1, .slice C2 m2 f2] := by rw [← hw4, ← hg2]; exact Bk.new w3 _ _
  rw [hw4, hg2]
  have hb24 := hb3.trans (hb4.mono hb3.size)
  have HB4 := Lib.hid (HB2.out.trans (hb24.mono HB2.out.size))
  have HK4 := Lib.hid (And.intro (HK2.out.below hb24 HK2.out.lt) hk4)
  have HL4 := Lib.hid (And.intro (HL2.out.1.below hb24) (And.intro (HL2.out.2.1.below hb24) (And.intro (HL2.out.2.2.below hb24) (And.intro (q0.below hb4) (And.intro (q1.below hb4) (q2.below hb4))))))
  clear hw4 hg2 hb3 hb4 hb24 hk4 q0 q1 q2 HR2 HK2 HL2 HB2
  go_wp2_with (first
    | (go_at_call 11; refine (HA.out _).mono ?_; rintro e_ w5 ⟨rfl, hb5⟩; have H5 := Lib.hid hb5; have t1 := HK4.out.1.below hb5 HK4.out.1.lt; have t2 := HK4.out.2.below hb5 HK4.out.2.lt; have y0 := t1.cell 0; have y1 := t1.cell 1; have y2 := t1.cell 2; have z0 := t2.cell 0; have z1 := t2.cell 1; have z2 := t2.cell 2; clear hb5 t1 t2)
    | (go_at_call 14; refine (same3_li (HL4.out.1.below H5.out) (HL4.out.2.1.below H5.out) (HL4.out.2.2.1.below H5.out) (HL4.out.2.2.2.1.below H5.out) (HL4.out.2.2.2.2.1.below H5.out) (HL4.out.2.2.2.2.2.below H5.out)).mono ?_; rintro e_ w6 ⟨rfl, hb6⟩; have H6 := Lib.hid (H5.out.trans (hb6.mono H5.out.size)); clear hb6))
  go_ret
  exact ⟨rfl, HB4.out.trans (H6.out.mono HB4.out.size)⟩
end Go.Proofs.YtdmglajfmfjmlaaGreat
