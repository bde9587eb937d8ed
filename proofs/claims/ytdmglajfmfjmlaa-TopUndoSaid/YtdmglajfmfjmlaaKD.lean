/- Texts of this claim, joined: what its laws use. -/
import Derived.Test.YtdmglajfmfjmlaaKC
import Derived.Deep.RegionHeld3
import Derived.Test.YtdmglajfmfjmlaaProg
import Derived.Below
import Derived.Deep.Draws
import Derived.Deep.AppendLies
import Derived.Maps.AppendAt
import Derived.OwnWalk
import Derived.Laws.BytesArg
import Derived.Laws.MakeOwn
import Derived.Laws.OwnMore
import Derived.Deep.OwnRows
import Derived.Tactics
import Derived.Lib.ConvBytes
import Derived.Laws.Slices
import Derived.WalkKit
import Derived.KernelRfl
import Derived.RowKit3
import Derived.Deep.LoopGhost
import Derived.Deep.QuietTactic
import Derived.BigQuiet
import Derived.WideLaws
import Derived.Deep.DeepCutAuto
import Derived.Deep.CutBlock
import Derived.Laws.Rows
import Derived.Lib.AppendStr
import Derived.ArgAppend
import Derived.Laws.IdiomCopy
import Derived.OrdersHeld
import Derived.Laws.BitsLemmas
import Derived.RowKit
namespace Go.Proofs.Ytdmglajfmfjmlaa.Cm
open Go.RowKit Go.Proofs.YtdmglajfmfjmlaaW.PrintWords Go.Proofs.YtdmglajfmfjmlaaW.PrintLast Go.Proofs.YtdmglajfmfjmlaaW.PrintMore
attribute [local go_sem] max2_int min2_int max_two min_two max_three min_three max_four min_four   -- for this text's walks alone
set_option linter.unusedVariables false
set_option linter.unusedSimpArgs false
mutual
def modn_Tells.l0 : Nat → List Int → Int → List Int → Int → Option (Bool)
  | 0, _, _, _, _ => none
  | k + 1, x0, x1, x7, x9 => (nat_Bit.f x7 x9).bind fun t215 => (if t215 = 0 then (modn_Tells.l0 k x0 x1 x7 (wrap64 (x9 + 1))) else ((nat_Of.f x1).bind fun t216 => ((modn_Mod.f t216 x0).bind fun bt219 => ((modn_zero.f bt219.1).bind fun t223 => (if t223 = true then (some false) else ((nat_Shift.f x7 (wrap64 (-x9))).bind fun t224 => ((modn_Pow.f k bt219.1 t224 x0).bind fun bt227 => ((nat_Of.f 1).bind fun t231 => ((nat_Cmp.f bt227.1 t231).bind fun t234 => (if t234 = 0 then (some false) else (modn_Tells.l1 k x0 x7 bt227.1 x9 0)))))))))))
def modn_Tells.l1 : Nat → List Int → List Int → List Int → Int → Int → Option (Bool)
  | 0, _, _, _, _, _ => none
  | k + 1, x0, x7, x12, x64, x65 => if x65 < x64 then ((nat_Cmp.f x12 x7).bind fun t235 => (if t235 = 0 then (some false) else ((modn_Mul.f x12 x12 x0).bind fun bt236 => (modn_Tells.l1 k x0 x7 bt236.1 x64 (wrap64 (x65 + 1)))))) else (some true)
end
def modn_Tells.f (k : Nat) (l0 : List Int) (a1 : Int) : Option (Bool) := (nat_Trim.f l0).bind fun t200 => ((nat_Of.f 2).bind fun t203 => ((nat_Cmp.f t200 t203).bind fun t206 => (if t206 ≤ 0 then (some (decide (t206 < 0))) else (if 0 < (t200.length : Int) then (if (Go.bits .and .u64 (rd t200 0) 1) = 0 then (some true) else ((nat_Of.f 1).bind fun t208 => ((nat_Sub.f t200 t208).bind fun bt211 => (modn_Tells.l0 k t200 a1 bt211.1 0)))) else (none)))))
set_option maxHeartbeats 8000000 in
set_option maxRecDepth 100000 in
theorem modn_Tells.calls (k : Nat) (A0 : Option Addr) (c0 : Nat) (l0 : List Int) (a1 : Int) (r : Bool) (w : World) (hr0 : Kd.C (Kd.int .u64) w A0 l0.length l0) (hc0 : l0.length ≤ c0) (h : modn_Tells.f k l0 a1 = some r) :
    Calls Try.prog 107 #[.slice A0 l0.length c0, .int .u64 a1] w fun e w' => e = .returned (.bool r) ∧ Below w.heap.size w w' := by
  have HR0 := Aside0.mk hr0
  have HC0 := Aside0.mk hc0
  clear hr0 hc0
  have HB := Aside0.mk (Below.refl w.heap.size w)
  have H : ((nat_Trim.f l0).bind fun t200 => ((nat_Of.f 2).bind fun t203 => ((nat_Cmp.f t200 t203).bind fun t206 => (if t206 ≤ 0 then (some (decide (t206 < 0))) else (if 0 < (t200.length : Int) then (if (Go.bits .and .u64 (rd t200 0) 1) = 0 then (some true) else ((nat_Of.f 1).bind fun t208 => ((nat_Sub.f t200 t208).bind fun bt211 => (modn_Tells.l0 k t200 a1 bt211.1 0)))) else (none)))))) = some r := h
  clear h
  replace H := Option.bind_eq_some_iff.mp H
  obtain ⟨t200, A30, H⟩ := H
  replace H : ((nat_Of.f 2).bind fun t203 => ((nat_Cmp.f t200 t203).bind fun t206 => (if t206 ≤ 0 then (some (decide (t206 < 0))) else (if 0 < (t200.length : Int) then (if (Go.bits .and .u64 (rd t200 0) 1) = 0 then (some true) else ((nat_Of.f 1).bind fun t208 => ((nat_Sub.f t200 t208).bind fun bt211 => (modn_Tells.l0 k t200 a1 bt211.1 0)))) else (none))))) = some r := H
  have A3 := Aside0.mk A30
  clear A30
  replace H := Option.bind_eq_some_iff.mp H
  obtain ⟨t203, A40, H⟩ := H
  replace H : ((nat_Cmp.f t200 t203).bind fun t206 => (if t206 ≤ 0 then (some (decide (t206 < 0))) else (if 0 < (t200.length : Int) then (if (Go.bits .and .u64 (rd t200 0) 1) = 0 then (some true) else ((nat_Of.f 1).bind fun t208 => ((nat_Sub.f t200 t208).bind fun bt211 => (modn_Tells.l0 k t200 a1 bt211.1 0)))) else (none)))) = some r := H
  have A4 := Aside0.mk A40
  clear A40
  replace H := Option.bind_eq_some_iff.mp H
  obtain ⟨t206, A50, H⟩ := H
  replace H : (if t206 ≤ 0 then (some (decide (t206 < 0))) else (if 0 < (t200.length : Int) then (if (Go.bits .and .u64 (rd t200 0) 1) = 0 then (some true) else ((nat_Of.f 1).bind fun t208 => ((nat_Sub.f t200 t208).bind fun bt211 => (modn_Tells.l0 k t200 a1 bt211.1 0)))) else (none))) = some r := H
  have A5 := Aside0.mk A50
  clear A50
  by_cases c6 : t206 ≤ 0
  · rw [if_pos c6] at H
    have c6b0 : decide (t206 ≤ 0) = true := decide_eq_true c6
    clear c6
    obtain rfl := Option.some.inj H
    simp only [Option.some.injEq, Prod.mk.injEq] at H
    obtain ⟨rfl⟩ := H
    go_enter Try.func107, Try.ntmps107
    go_wp2_with (first | ((with_reducible refine gate_callee (f := 58) rfl ?_); refine goesL_ (some 15) rfl rfl Try.func58 (by kernel_rfl) rfl #[.slice A0 l0.length c0] rfl (by (try simp only [List.map_toArray, List.map_cons, List.map_nil]); first | done | rfl | (simp only [List.length_drop, List.length_take]; rfl)) ?_; (with_reducible refine (nat_Trim.calls _ _ l0 t200 _ ?side1 ?side2 A3.out).mono ?_); (case side1 => repeat (first | exact HR0.out | (with_reducible refine Kd.C_alloc ?_ _) | (with_reducible refine Kd.C_drewN ?_ _) | (with_reducible refine Kd.C_drew ?_))); (case side2 => exact HC0.out); rintro e w7 ⟨v201, rfl, ho0, hb⟩; refine ⟨_, rfl, ?_⟩; have n0_ := Aside0.mk (Kd.R_lower ho0 (below_size (by repeat (first | (with_reducible first | exact HB.out | apply below_alloc | apply pw_below_drewN | apply below_drew1) | exact HB.out)))); have n1_ := Aside0.mk (below_step (by repeat (first | (with_reducible first | exact HB.out | apply below_alloc | apply pw_below_drewN | apply below_drew1) | exact HB.out)) hb); clear HB; have HO202 := n0_; have HB := n1_; clear n0_ n1_; (try clear hb); (try clear hb2); (try clear hk); (try clear hi); (try clear ho0)) | ((with_reducible refine gate_callee (f := 22) rfl ?_); refine goesL_ (some 16) rfl rfl Try.func22 (by kernel_rfl) rfl #[.int .u64 2] rfl (by (try simp only [List.map_toArray, List.map_cons, List.map_nil]); first | done | rfl | (simp only [List.length_drop, List.length_take]; rfl)) ?_; (with_reducible refine (nat_Of.calls 2 t203 _ A4.out).mono ?_); rintro e w8 ⟨v204, rfl, ho0, hb⟩; refine ⟨_, rfl, ?_⟩; have n0_ := Aside0.mk (Kd.R_elder' (by (with_reducible repeat (first | apply Kd.R_alloc | apply Kd.R_drewN | apply Kd.R_drew)); exact HO202.out) (Kd.R_base ho0) hb); have n1_ := Aside0.mk (Kd.R_lower (Kd.R_new' ho0 (Kd.R_lt (by (with_reducible repeat (first | apply Kd.R_alloc | apply Kd.R_drewN | apply Kd.R_drew)); exact HO202.out))) (below_size (by repeat (first | (with_reducible first | exact HB.out | apply below_alloc | apply pw_below_drewN | apply below_drew1) | exact HB.out)))); have n2_ := Aside0.mk (below_step (by repeat (first | (with_reducible first | exact HB.out | apply below_alloc | apply pw_below_drewN | apply below_drew1) | exact HB.out)) hb); clear HO202; clear HB; have HO202 := n0_; have HO205 := n1_; have HB := n2_; clear n0_ n1_ n2_; (try clear hb); (try clear hb2); (try clear hk); (try clear hi); (try clear ho0); obtain ⟨Ao9, co9, eo9⟩ := Kd.R_slice HO202.out; subst eo9; obtain ⟨Ao10, co10, eo10⟩ := Kd.R_slice HO205.out; subst eo10) | ((with_reducible refine gate_callee (f := 33) rfl ?_); refine goesL_ (some 19) rfl rfl Try.func33 (by kernel_rfl) rfl #[.slice Ao9 t200.length co9, .slice Ao10 t203.length co10] rfl (by (try simp only [List.map_toArray, List.map_cons, List.map_nil]); first | done | rfl | (simp only [List.length_drop, List.length_take]; rfl)) ?_; (with_reducible refine (nat_Cmp.calls _ _ t200 _ _ t203 t206 _ ?side1 ?side2 ?side3 ?side4 A5.out).mono ?_); (case side1 => repeat (first | exact (Kd.R_reads' HO202.out).2.2 | (with_reducible refine Kd.C_alloc ?_ _) | (with_reducible refine Kd.C_drewN ?_ _) | (with_reducible refine Kd.C_drew ?_))); (case side2 => exact (Kd.R_reads' HO202.out).2.1); (case side3 => repeat (first | exact (Kd.R_reads' HO205.out).2.2 | (with_reducible refine Kd.C_alloc ?_ _) | (with_reducible refine Kd.C_drewN ?_ _) | (with_reducible refine Kd.C_drew ?_))); (case side4 => exact (Kd.R_reads' HO205.out).2.1); rintro e w' ⟨rfl, ⟨nd, rfl⟩⟩; refine ⟨_, rfl, ?_⟩))
    go_ret
    exact ⟨by first | rfl | (simp [errW_none, errW_some] <;> rfl) | (simp [*, errW_none, errW_some] <;> rfl), by repeat (first | (with_reducible first | exact HB.out | apply below_alloc | apply pw_below_drewN | apply below_drew1) | exact HB.out)⟩
  · rw [if_neg c6] at H
    have c6b0 : decide (t206 ≤ 0) = false := decide_eq_false c6
    clear c6
    by_cases c11 : 0 < (t200.length : Int)
    · rw [if_pos c11] at H
      have c11b0 : decide (0 < (t200.length : Int)) = true := decide_eq_true c11
      have c11b1 : decide (0 < t200.length) = true := decide_eq_true (by omega)
      clear c11
      by_cases c12 : (Go.bits .and .u64 (rd t200 0) 1) = 0
      · rw [if_pos c12] at H
        have c12b0 : ((Go.bits .and .u64 (rd t200 0) 1) == 0) = true := beq_iff_eq.mpr c12
        have c12b1 : ((Go.bits .and .u64 (rd t200 0) 1) != 0) = false := bne_eq_false_iff_eq.mpr c12
        clear c12
        obtain rfl := Option.some.inj H
        simp only [Option.some.injEq, Prod.mk.injEq] at H
        obtain ⟨rfl⟩ := H
        go_enter Try.func107, Try.ntmps107
        go_wp2_with (first | ((with_reducible refine gate_callee (f := 58) rfl ?_); refine goesL_ (some 15) rfl rfl Try.func58 (by kernel_rfl) rfl #[.slice A0 l0.length c0] rfl (by (try simp only [List.map_toArray, List.map_cons, List.map_nil]); first | done | rfl | (simp only [List.length_drop, List.length_take]; rfl)) ?_; (with_reducible refine (nat_Trim.calls _ _ l0 t200 _ ?side1 ?side2 A3.out).mono ?_); (case side1 => repeat (first | exact HR0.out | (with_reducible refine Kd.C_alloc ?_ _) | (with_reducible refine Kd.C_drewN ?_ _) | (with_reducible refine Kd.C_drew ?_))); (case side2 => exact HC0.out); rintro e w13 ⟨v201, rfl, ho0, hb⟩; refine ⟨_, rfl, ?_⟩; have n0_ := Aside0.mk (Kd.R_lower ho0 (below_size (by repeat (first | (with_reducible first | exact HB.out | apply below_alloc | apply pw_below_drewN | apply below_drew1) | exact HB.out)))); have n1_ := Aside0.mk (below_step (by repeat (first | (with_reducible first | exact HB.out | apply below_alloc | apply pw_below_drewN | apply below_drew1) | exact HB.out)) hb); clear HB; have HO202 := n0_; have HB := n1_; clear n0_ n1_; (try clear hb); (try clear hb2); (try clear hk); (try clear hi); (try clear ho0)) | ((with_reducible refine gate_callee (f := 22) rfl ?_); refine goesL_ (some 16) rfl rfl Try.func22 (by kernel_rfl) rfl #[.int .u64 2] rfl (by (try simp only [List.map_toArray, List.map_cons, List.map_nil]); first | done | rfl | (simp only [List.length_drop, List.length_take]; rfl)) ?_; (with_reducible refine (nat_Of.calls 2 t203 _ A4.out).mono ?_); rintro e w14 ⟨v204, rfl, ho0, hb⟩; refine ⟨_, rfl, ?_⟩; have n0_ := Aside0.mk (Kd.R_elder' (by (with_reducible repeat (first | apply Kd.R_alloc | apply Kd.R_drewN | apply Kd.R_drew)); exact HO202.out) (Kd.R_base ho0) hb); have n1_ := Aside0.mk (Kd.R_lower (Kd.R_new' ho0 (Kd.R_lt (by (with_reducible repeat (first | apply Kd.R_alloc | apply Kd.R_drewN | apply Kd.R_drew)); exact HO202.out))) (below_size (by repeat (first | (with_reducible first | exact HB.out | apply below_alloc | apply pw_below_drewN | apply below_drew1) | exact HB.out)))); have n2_ := Aside0.mk (below_step (by repeat (first | (with_reducible first | exact HB.out | apply below_alloc | apply pw_below_drewN | apply below_drew1) | exact HB.out)) hb); clear HO202; clear HB; have HO202 := n0_; have HO205 := n1_; have HB := n2_; clear n0_ n1_ n2_; (try clear hb); (try clear hb2); (try clear hk); (try clear hi); (try clear ho0); obtain ⟨Ao15, co15, eo15⟩ := Kd.R_slice HO202.out; subst eo15; obtain ⟨Ao16, co16, eo16⟩ := Kd.R_slice HO205.out; subst eo16) | ((with_reducible refine gate_callee (f := 33) rfl ?_); refine goesL_ (some 19) rfl rfl Try.func33 (by kernel_rfl) rfl #[.slice Ao15 t200.length co15, .slice Ao16 t203.length co16] rfl (by (try simp only [List.map_toArray, List.map_cons, List.map_nil]); first | done | rfl | (simp only [List.length_drop, List.length_take]; rfl)) ?_; (with_reducible refine (nat_Cmp.calls _ _ t200 _ _ t203 t206 _ ?side1 ?side2 ?side3 ?side4 A5.out).mono ?_); (case side1 => repeat (first | exact (Kd.R_reads' HO202.out).2.2 | (with_reducible refine Kd.C_alloc ?_ _) | (with_reducible refine Kd.C_drewN ?_ _) | (with_reducible refine Kd.C_drew ?_))); (case side2 => exact (Kd.R_reads' HO202.out).2.1); (case side3 => repeat (first | exact (Kd.R_reads' HO205.out).2.2 | (with_reducible refine Kd.C_alloc ?_ _) | (with_reducible refine Kd.C_drewN ?_ _) | (with_reducible refine Kd.C_drew ?_))); (case side4 => exact (Kd.R_reads' HO205.out).2.1); rintro e w' ⟨rfl, ⟨nd, rfl⟩⟩; refine ⟨_, rfl, ?_⟩; have p207 : 0 ≤ (0 : Int) := (by omega); have q207 : 0 < (t200.length : Int) := of_decide_eq_true (by first | (with_reducible assumption) | assumption); obtain ⟨ad207, e207, hx207_0⟩ := Kd.at_int (Kd.R_reads' HO202.out).2.2 0 p207 q207; cases e207; have qi207 : (0 < t200.length) = True := eq_true (by omega); (try rw [show ((0 : Int)).toNat = 0 from rfl] at hx207_0); (try rw [Addr.add_zero'] at hx207_0); replace p207 := eq_true p207; replace q207 := eq_true q207))
        go_ret
        exact ⟨by first | rfl | (simp [errW_none, errW_some] <;> rfl) | (simp [*, errW_none, errW_some] <;> rfl), by repeat (first | (with_reducible first | exact HB.out | apply below_alloc | apply pw_below_drewN | apply below_drew1) | exact HB.out)⟩
      · rw [if_neg c12] at H
        have c12b0 : ((Go.bits .and .u64 (rd t200 0) 1) == 0) = false := beq_eq_false_iff_ne.mpr c12
        have c12b1 : ((Go.bits .and .u64 (rd t200 0) 1) != 0) = true := bne_iff_ne.mpr c12
        replace H := Option.bind_eq_some_iff.mp H
        obtain ⟨t208, A170, H⟩ := H
        replace H : ((nat_Sub.f t200 t208).bind fun bt211 => (modn_Tells.l0 k t200 a1 bt211.1 0)) = some r := H
        have A17 := Aside0.mk A170
        clear A170
        replace H := Option.bind_eq_some_iff.mp H
        obtain ⟨⟨t211, t212⟩, A180, H⟩ := H
        replace H : (modn_Tells.l0 k t200 a1 t211 0) = some r := H
        have A18 := Aside0.mk A180
        clear A180
        have H' := Aside0.mk H
        clear H
        go_enter Try.func107, Try.ntmps107
        go_wp2_with (first | ((with_reducible refine gate_callee (f := 58) rfl ?_); refine goesL_ (some 15) rfl rfl Try.func58 (by kernel_rfl) rfl #[.slice A0 l0.length c0] rfl (by (try simp only [List.map_toArray, List.map_cons, List.map_nil]); first | done | rfl | (simp only [List.length_drop, List.length_take]; rfl)) ?_; (with_reducible refine (nat_Trim.calls _ _ l0 t200 _ ?side1 ?side2 A3.out).mono ?_); (case side1 => repeat (first | exact HR0.out | (with_reducible refine Kd.C_alloc ?_ _) | (with_reducible refine Kd.C_drewN ?_ _) | (with_reducible refine Kd.C_drew ?_))); (case side2 => exact HC0.out); rintro e w19 ⟨v201, rfl, ho0, hb⟩; refine ⟨_, rfl, ?_⟩; have n0_ := Aside0.mk (Kd.R_lower ho0 (below_size (by repeat (first | (with_reducible first | exact HB.out | apply below_alloc | apply pw_below_drewN | apply below_drew1) | exact HB.out)))); have n1_ := Aside0.mk (below_step (by repeat (first | (with_reducible first | exact HB.out | apply below_alloc | apply pw_below_drewN | apply below_drew1) | exact HB.out)) hb); clear HB; have HO202 := n0_; have HB := n1_; clear n0_ n1_; (try clear hb); (try clear hb2); (try clear hk); (try clear hi); (try clear ho0)) | ((with_reducible refine gate_callee (f := 22) rfl ?_); refine goesL_ (some 16) rfl rfl Try.func22 (by kernel_rfl) rfl #[.int .u64 2] rfl (by (try simp only [List.map_toArray, List.map_cons, List.map_nil]); first | done | rfl | (simp only [List.length_drop, List.length_take]; rfl)) ?_; (with_reducible refine (nat_Of.calls 2 t203 _ A4.out).mono ?_); rintro e w20 ⟨v204, rfl, ho0, hb⟩; refine ⟨_, rfl, ?_⟩; have n0_ := Aside0.mk (Kd.R_elder' (by (with_reducible repeat (first | apply Kd.R_alloc | apply Kd.R_drewN | apply Kd.R_drew)); exact HO202.out) (Kd.R_base ho0) hb); have n1_ := Aside0.mk (Kd.R_lower (Kd.R_new' ho0 (Kd.R_lt (by (with_reducible repeat (first | apply Kd.R_alloc | apply Kd.R_drewN | apply Kd.R_drew)); exact HO202.out))) (below_size (by repeat (first | (with_reducible first | exact HB.out | apply below_alloc | apply pw_below_drewN | apply below_drew1) | exact HB.out)))); have n2_ := Aside0.mk (below_step (by repeat (first | (with_reducible first | exact HB.out | apply below_alloc | apply pw_below_drewN | apply below_drew1) | exact HB.out)) hb); clear HO202; clear HB; have HO202 := n0_; have HO205 := n1_; have HB := n2_; clear n0_ n1_ n2_; (try clear hb); (try clear hb2); (try clear hk); (try clear hi); (try clear ho0); obtain ⟨Ao21, co21, eo21⟩ := Kd.R_slice HO202.out; subst eo21; obtain ⟨Ao22, co22, eo22⟩ := Kd.R_slice HO205.out; subst eo22) | ((with_reducible refine gate_callee (f := 33) rfl ?_); refine goesL_ (some 19) rfl rfl Try.func33 (by kernel_rfl) rfl #[.slice Ao21 t200.length co21, .slice Ao22 t203.length co22] rfl (by (try simp only [List.map_toArray, List.map_cons, List.map_nil]); first | done | rfl | (simp only [List.length_drop, List.length_take]; rfl)) ?_; (with_reducible refine (nat_Cmp.calls _ _ t200 _ _ t203 t206 _ ?side1 ?side2 ?side3 ?side4 A5.out).mono ?_); (case side1 => repeat (first | exact (Kd.R_reads' HO202.out).2.2 | (with_reducible refine Kd.C_alloc ?_ _) | (with_reducible refine Kd.C_drewN ?_ _) | (with_reducible refine Kd.C_drew ?_))); (case side2 => exact (Kd.R_reads' HO202.out).2.1); (case side3 => repeat (first | exact (Kd.R_reads' HO205.out).2.2 | (with_reducible refine Kd.C_alloc ?_ _) | (with_reducible refine Kd.C_drewN ?_ _) | (with_reducible refine Kd.C_drew ?_))); (case side4 => exact (Kd.R_reads' HO205.out).2.1); rintro e w' ⟨rfl, ⟨nd, rfl⟩⟩; refine ⟨_, rfl, ?_⟩; have p207 : 0 ≤ (0 : Int) := (by omega); have q207 : 0 < (t200.length : Int) := of_decide_eq_true (by first | (with_reducible assumption) | assumption); obtain ⟨ad207, e207, hx207_0⟩ := Kd.at_int (Kd.R_reads' HO202.out).2.2 0 p207 q207; cases e207; have qi207 : (0 < t200.length) = True := eq_true (by omega); (try rw [show ((0 : Int)).toNat = 0 from rfl] at hx207_0); (try rw [Addr.add_zero'] at hx207_0); replace p207 := eq_true p207; replace q207 := eq_true q207) | ((with_reducible refine gate_callee (f := 22) rfl ?_); refine goesL_ (some 31) rfl rfl Try.func22 (by kernel_rfl) rfl #[.int .u64 1] rfl (by (try simp only [List.map_toArray, List.map_cons, List.map_nil]); first | done | rfl | (simp only [List.length_drop, List.length_take]; rfl)) ?_; (with_reducible refine (nat_Of.calls 1 t208 _ A17.out).mono ?_); rintro e w23 ⟨v209, rfl, ho0, hb⟩; refine ⟨_, rfl, ?_⟩; have n0_ := Aside0.mk (Kd.R_elder' (by (with_reducible repeat (first | apply Kd.R_alloc | apply Kd.R_drewN | apply Kd.R_drew)); exact HO202.out) (Kd.R_base ho0) hb); have n1_ := Aside0.mk (Kd.R_elder' (by (with_reducible repeat (first | apply Kd.R_alloc | apply Kd.R_drewN | apply Kd.R_drew)); exact HO205.out) (Kd.R_base ho0) hb); have n2_ := Aside0.mk (Kd.R_lower (Kd.R_new' (Kd.R_new' ho0 (Kd.R_lt (by (with_reducible repeat (first | apply Kd.R_alloc | apply Kd.R_drewN | apply Kd.R_drew)); exact HO202.out))) (Kd.R_lt (by (with_reducible repeat (first | apply Kd.R_alloc | apply Kd.R_drewN | apply Kd.R_drew)); exact HO205.out))) (below_size (by repeat (first | (with_reducible first | exact HB.out | apply below_alloc | apply pw_below_drewN | apply below_drew1) | exact HB.out)))); have n3_ := Aside0.mk (below_step (by repeat (first | (with_reducible first | exact HB.out | apply below_alloc | apply pw_below_drewN | apply below_drew1) | exact HB.out)) hb); clear HO202; clear HO205; clear HB; have HO202 := n0_; have HO205 := n1_; have HO210 := n2_; have HB := n3_; clear n0_ n1_ n2_ n3_; (try clear hb); (try clear hb2); (try clear hk); (try clear hi); (try clear ho0); obtain ⟨Ao24, co24, eo24⟩ := Kd.R_slice HO210.out; subst eo24) | ((with_reducible refine gate_callee (f := 69) rfl ?_); refine goesL_ (some 32) rfl rfl Try.func69 (by kernel_rfl) rfl #[.slice (some ad207) t200.length co21, .slice Ao24 t208.length co24] rfl (by (try simp only [List.map_toArray, List.map_cons, List.map_nil]); first | done | rfl | (simp only [List.length_drop, List.length_take]; rfl)) ?_; (with_reducible refine (nat_Sub.calls _ _ t200 _ _ t208 t211 t212 _ ?side1 ?side2 ?side3 ?side4 A18.out).mono ?_); (case side1 => repeat (first | exact (Kd.R_reads' HO202.out).2.2 | (with_reducible refine Kd.C_alloc ?_ _) | (with_reducible refine Kd.C_drewN ?_ _) | (with_reducible refine Kd.C_drew ?_))); (case side2 => exact (Kd.R_reads' HO202.out).2.1); (case side3 => repeat (first | exact (Kd.R_reads' HO210.out).2.2 | (with_reducible refine Kd.C_alloc ?_ _) | (with_reducible refine Kd.C_drewN ?_ _) | (with_reducible refine Kd.C_drew ?_))); (case side4 => exact (Kd.R_reads' HO210.out).2.1); rintro e w25 ⟨v213, rfl, ho0, hb⟩; refine ⟨_, rfl, ?_⟩; have n0_ := Aside0.mk (Kd.R_elder' (by (with_reducible repeat (first | apply Kd.R_alloc | apply Kd.R_drewN | apply Kd.R_drew)); exact HO202.out) (Kd.R_base ho0) hb); have n1_ := Aside0.mk (Kd.R_elder' (by (with_reducible repeat (first | apply Kd.R_alloc | apply Kd.R_drewN | apply Kd.R_drew)); exact HO205.out) (Kd.R_base ho0) hb); have n2_ := Aside0.mk (Kd.R_elder' (by (with_reducible repeat (first | apply Kd.R_alloc | apply Kd.R_drewN | apply Kd.R_drew)); exact HO210.out) (Kd.R_base ho0) hb); have n3_ := Aside0.mk (Kd.R_lower (Kd.R_new' (Kd.R_new' (Kd.R_new' ho0 (Kd.R_lt (by (with_reducible repeat (first | apply Kd.R_alloc | apply Kd.R_drewN | apply Kd.R_drew)); exact HO202.out))) (Kd.R_lt (by (with_reducible repeat (first | apply Kd.R_alloc | apply Kd.R_drewN | apply Kd.R_drew)); exact HO205.out))) (Kd.R_lt (by (with_reducible repeat (first | apply Kd.R_alloc | apply Kd.R_drewN | apply Kd.R_drew)); exact HO210.out))) (below_size (by repeat (first | (with_reducible first | exact HB.out | apply below_alloc | apply pw_below_drewN | apply below_drew1) | exact HB.out)))); have n4_ := Aside0.mk (below_step (by repeat (first | (with_reducible first | exact HB.out | apply below_alloc | apply pw_below_drewN | apply below_drew1) | exact HB.out)) hb); clear HO202; clear HO205; clear HO210; clear HB; have HO202 := n0_; have HO205 := n1_; have HO210 := n2_; have HO214 := n3_; have HB := n4_; clear n0_ n1_ n2_ n3_ n4_; (try clear hb); (try clear hb2); (try clear hk); (try clear hi); (try clear ho0)))
        go_loopg [9] k (fun kq v9 w' => ∃ (x9_1 : Int), v9 = .int .i64 x9_1 ∧ Aside0 (modn_Tells.l0 kq t200 a1 t211 x9_1 = some r) ∧ Aside0 (kq ≤ k) ∧ Aside0 (Kd.R (Kd.int .u64) 40 w' w.heap.size (fun k_ => some k_ ≠ (v213 : Value).ownBlock) (.slice (some ad207) t200.length co21) t200) ∧ Aside0 (Kd.R (Kd.int .u64) 40 w' w.heap.size (fun k_ => some k_ ≠ ((.slice (some ad207) t200.length co21) : Value).ownBlock) v213 t211) ∧ Aside0 (Below w.heap.size w w'))
        case atStart => exact ⟨(0), (by first | rfl | (simp; done) | (simp [*]; done)), H', ⟨Nat.le_refl _⟩, ⟨by (with_reducible repeat (first | apply Kd.R_alloc | apply Kd.R_drewN | apply Kd.R_drew)); exact Kd.R_mono HO202.out (fun _ hk => hk.2)⟩, ⟨by (with_reducible repeat (first | apply Kd.R_alloc | apply Kd.R_drewN | apply Kd.R_drew)); exact Kd.R_mono HO214.out (fun _ hk => hk.1.1.2)⟩, ⟨by repeat (first | (with_reducible first | exact HB.out | apply below_alloc | apply pw_below_drewN | apply below_drew1) | exact HB.out)⟩⟩
        case round =>
          clear H'
          try clear c1
          try clear c2
          try clear p2
          try clear q2
          try clear hx2
          try clear qi2
          try clear c3
          try clear c5
          try clear c6
          try clear c6b0
          try clear c10
          try clear c11
          try clear c11b0
          try clear c11b1
          try clear c12
          try clear c12b0
          try clear c12b1
          try clear p20
          try clear q20
          try clear hx20
          try clear qi20
          try clear c22
          try clear hx207_0
          try clear p207
          try clear q207
          obtain ⟨x9_1, rfl, HA, HK1, HO_0, HO_7, HB⟩ := hrel
          cases gk with
          | zero => exact absurd HA.out (by simp [modn_Tells.l0])
          | succ k1 =>
            have H := HA.out
            clear HA
            simp only [modn_Tells.l0] at H
            replace H := Option.bind_eq_some_iff.mp H
            obtain ⟨t215, A260, H⟩ := H
            replace H : (if t215 = 0 then (modn_Tells.l0 k1 t200 a1 t211 (wrap64 (x9_1 + 1))) else ((nat_Of.f a1).bind fun t216 => ((modn_Mod.f t216 t200).bind fun bt219 => ((modn_zero.f bt219.1).bind fun t223 => (if t223 = true then (some false) else ((nat_Shift.f t211 (wrap64 (-x9_1))).bind fun t224 => ((modn_Pow.f k1 bt219.1 t224 t200).bind fun bt227 => ((nat_Of.f 1).bind fun t231 => ((nat_Cmp.f bt227.1 t231).bind fun t234 => (if t234 = 0 then (some false) else (modn_Tells.l1 k1 t200 t211 bt227.1 x9_1 0))))))))))) = some r := H
            have A26 := Aside0.mk A260
            clear A260
            by_cases c27 : t215 = 0
            · rw [if_pos c27] at H
              have c27b0 : (t215 == 0) = true := beq_iff_eq.mpr c27
              have c27b1 : (t215 != 0) = false := bne_eq_false_iff_eq.mpr c27
              clear c27
              have H' := Aside0.mk H
              clear H
              obtain ⟨Ao28, co28, eo28⟩ := Kd.R_slice HO_7.out
              subst eo28
              go_wp2_with (first | ((with_reducible refine gate_callee (f := 60) rfl ?_); refine goesL_ (some 37) rfl rfl Try.func60 (by kernel_rfl) rfl #[.slice Ao28 t211.length co28, .int .i64 x9_1] rfl (by (try simp only [List.map_toArray, List.map_cons, List.map_nil]); first | done | rfl | (simp only [List.length_drop, List.length_take]; rfl)) ?_; (with_reducible refine (nat_Bit.calls _ _ t211 x9_1 t215 _ ?side1 ?side2 A26.out).mono ?_); (case side1 => repeat (first | exact (Kd.R_reads' HO_7.out).2.2 | (with_reducible refine Kd.C_alloc ?_ _) | (with_reducible refine Kd.C_drewN ?_ _) | (with_reducible refine Kd.C_drew ?_))); (case side2 => exact (Kd.R_reads' HO_7.out).2.1); rintro e w' ⟨rfl, ⟨nd, rfl⟩⟩; refine ⟨_, rfl, ?_⟩))
              go_roundg k1
              case measure => have := HK1.out; omega
              case rel => exact ⟨(wrap64 (x9_1 + 1)), (by first | rfl | (simp; done) | (simp [*]; done)), H', ⟨by have := HK1.out; omega⟩, ⟨by (with_reducible repeat (first | apply Kd.R_alloc | apply Kd.R_drewN | apply Kd.R_drew)); exact HO_0.out⟩, ⟨by (with_reducible repeat (first | apply Kd.R_alloc | apply Kd.R_drewN | apply Kd.R_drew)); exact HO_7.out⟩, ⟨by repeat (first | (with_reducible first | exact HB.out | apply below_alloc | apply pw_below_drewN | apply below_drew1) | exact HB.out)⟩⟩
            · rw [if_neg c27] at H
              have c27b0 : (t215 == 0) = false := beq_eq_false_iff_ne.mpr c27
              have c27b1 : (t215 != 0) = true := bne_iff_ne.mpr c27
              replace H := Option.bind_eq_some_iff.mp H
              obtain ⟨t216, A290, H⟩ := H
              replace H : ((modn_Mod.f t216 t200).bind fun bt219 => ((modn_zero.f bt219.1).bind fun t223 => (if t223 = true then (some false) else ((nat_Shift.f t211 (wrap64 (-x9_1))).bind fun t224 => ((modn_Pow.f k1 bt219.1 t224 t200).bind fun bt227 => ((nat_Of.f 1).bind fun t231 => ((nat_Cmp.f bt227.1 t231).bind fun t234 => (if t234 = 0 then (some false) else (modn_Tells.l1 k1 t200 t211 bt227.1 x9_1 0))))))))) = some r := H
              have A29 := Aside0.mk A290
              clear A290
              replace H := Option.bind_eq_some_iff.mp H
              obtain ⟨⟨t219, t220⟩, A300, H⟩ := H
              replace H : ((modn_zero.f t219).bind fun t223 => (if t223 = true then (some false) else ((nat_Shift.f t211 (wrap64 (-x9_1))).bind fun t224 => ((modn_Pow.f k1 t219 t224 t200).bind fun bt227 => ((nat_Of.f 1).bind fun t231 => ((nat_Cmp.f bt227.1 t231).bind fun t234 => (if t234 = 0 then (some false) else (modn_Tells.l1 k1 t200 t211 bt227.1 x9_1 0)))))))) = some r := H
              have A30 := Aside0.mk A300
              clear A300
              replace H := Option.bind_eq_some_iff.mp H
              obtain ⟨t223, A310, H⟩ := H
              replace H : (if t223 = true then (some false) else ((nat_Shift.f t211 (wrap64 (-x9_1))).bind fun t224 => ((modn_Pow.f k1 t219 t224 t200).bind fun bt227 => ((nat_Of.f 1).bind fun t231 => ((nat_Cmp.f bt227.1 t231).bind fun t234 => (if t234 = 0 then (some false) else (modn_Tells.l1 k1 t200 t211 bt227.1 x9_1 0))))))) = some r := H
              have A31 := Aside0.mk A310
              clear A310
              by_cases c32 : t223 = true
              · subst c32
                have H1 : (some false) = some r := by rw [if_pos rfl] at H; exact H
                clear H
                have H := H1
                clear H1
                obtain rfl := Option.some.inj H
                simp only [Option.some.injEq, Prod.mk.injEq] at H
                obtain ⟨rfl⟩ := H
                obtain ⟨Ao33, co33, eo33⟩ := Kd.R_slice HO_7.out
                subst eo33
                go_wp2_with (first | ((with_reducible refine gate_callee (f := 60) rfl ?_); refine goesL_ (some 37) rfl rfl Try.func60 (by kernel_rfl) rfl #[.slice Ao33 t211.length co33, .int .i64 x9_1] rfl (by (try simp only [List.map_toArray, List.map_cons, List.map_nil]); first | done | rfl | (simp only [List.length_drop, List.length_take]; rfl)) ?_; (with_reducible refine (nat_Bit.calls _ _ t211 x9_1 t215 _ ?side1 ?side2 A26.out).mono ?_); (case side1 => repeat (first | exact (Kd.R_reads' HO_7.out).2.2 | (with_reducible refine Kd.C_alloc ?_ _) | (with_reducible refine Kd.C_drewN ?_ _) | (with_reducible refine Kd.C_drew ?_))); (case side2 => exact (Kd.R_reads' HO_7.out).2.1); rintro e w' ⟨rfl, ⟨nd, rfl⟩⟩; refine ⟨_, rfl, ?_⟩) | ((with_reducible refine gate_callee (f := 22) rfl ?_); refine goesL_ (some 43) rfl rfl Try.func22 (by kernel_rfl) rfl #[.int .u64 a1] rfl (by (try simp only [List.map_toArray, List.map_cons, List.map_nil]); first | done | rfl | (simp only [List.length_drop, List.length_take]; rfl)) ?_; (with_reducible refine (nat_Of.calls a1 t216 _ A29.out).mono ?_); rintro e w34 ⟨v217, rfl, ho0, hb⟩; refine ⟨_, rfl, ?_⟩; have n0_ := Aside0.mk (Kd.R_elder' (by (with_reducible repeat (first | apply Kd.R_alloc | apply Kd.R_drewN | apply Kd.R_drew)); exact HO_0.out) (Kd.R_base ho0) hb); have n1_ := Aside0.mk (Kd.R_elder' (by (with_reducible repeat (first | apply Kd.R_alloc | apply Kd.R_drewN | apply Kd.R_drew)); exact HO_7.out) (Kd.R_base ho0) hb); have n2_ := Aside0.mk (Kd.R_lower (Kd.R_new' (Kd.R_new' ho0 (Kd.R_lt (by (with_reducible repeat (first | apply Kd.R_alloc | apply Kd.R_drewN | apply Kd.R_drew)); exact HO_0.out))) (Kd.R_lt (by (with_reducible repeat (first | apply Kd.R_alloc | apply Kd.R_drewN | apply Kd.R_drew)); exact HO_7.out))) (below_size (by repeat (first | (with_reducible first | exact HB.out | apply below_alloc | apply pw_below_drewN | apply below_drew1) | exact HB.out)))); have n3_ := Aside0.mk (below_step (by repeat (first | (with_reducible first | exact HB.out | apply below_alloc | apply pw_below_drewN | apply below_drew1) | exact HB.out)) hb); clear HO_0; clear HO_7; clear HB; have HO_0 := n0_; have HO_7 := n1_; have HO218 := n2_; have HB := n3_; clear n0_ n1_ n2_ n3_; (try clear hb); (try clear hb2); (try clear hk); (try clear hi); (try clear ho0); obtain ⟨Ao35, co35, eo35⟩ := Kd.R_slice HO218.out; subst eo35) | ((with_reducible refine gate_callee (f := 36) rfl ?_); refine goesL_ (some 45) rfl rfl Try.func36 (by kernel_rfl) rfl #[.slice Ao35 t216.length co35, .slice (some ad207) t200.length co21] rfl (by (try simp only [List.map_toArray, List.map_cons, List.map_nil]); first | done | rfl | (simp only [List.length_drop, List.length_take]; rfl)) ?_; (with_reducible refine (modn_Mod.calls _ _ t216 _ _ t200 t219 t220 _ ?side1 ?side2 ?side3 ?side4 A30.out).mono ?_); (case side1 => repeat (first | exact (Kd.R_reads' HO218.out).2.2 | (with_reducible refine Kd.C_alloc ?_ _) | (with_reducible refine Kd.C_drewN ?_ _) | (with_reducible refine Kd.C_drew ?_))); (case side2 => exact (Kd.R_reads' HO218.out).2.1); (case side3 => repeat (first | exact (Kd.R_reads' HO_0.out).2.2 | (with_reducible refine Kd.C_alloc ?_ _) | (with_reducible refine Kd.C_drewN ?_ _) | (with_reducible refine Kd.C_drew ?_))); (case side4 => exact (Kd.R_reads' HO_0.out).2.1); rintro e w36 ⟨v221, rfl, ho0, hb⟩; refine ⟨_, rfl, ?_⟩; have n0_ := Aside0.mk (Kd.R_elder' (by (with_reducible repeat (first | apply Kd.R_alloc | apply Kd.R_drewN | apply Kd.R_drew)); exact HO_0.out) (Kd.R_base ho0) hb); have n1_ := Aside0.mk (Kd.R_elder' (by (with_reducible repeat (first | apply Kd.R_alloc | apply Kd.R_drewN | apply Kd.R_drew)); exact HO_7.out) (Kd.R_base ho0) hb); have n2_ := Aside0.mk (Kd.R_elder' (by (with_reducible repeat (first | apply Kd.R_alloc | apply Kd.R_drewN | apply Kd.R_drew)); exact HO218.out) (Kd.R_base ho0) hb); have n3_ := Aside0.mk (Kd.R_lower (Kd.R_new' (Kd.R_new' (Kd.R_new' ho0 (Kd.R_lt (by (with_reducible repeat (first | apply Kd.R_alloc | apply Kd.R_drewN | apply Kd.R_drew)); exact HO_0.out))) (Kd.R_lt (by (with_reducible repeat (first | apply Kd.R_alloc | apply Kd.R_drewN | apply Kd.R_drew)); exact HO_7.out))) (Kd.R_lt (by (with_reducible repeat (first | apply Kd.R_alloc | apply Kd.R_drewN | apply Kd.R_drew)); exact HO218.out))) (below_size (by repeat (first | (with_reducible first | exact HB.out | apply below_alloc | apply pw_below_drewN | apply below_drew1) | exact HB.out)))); have n4_ := Aside0.mk (below_step (by repeat (first | (with_reducible first | exact HB.out | apply below_alloc | apply pw_below_drewN | apply below_drew1) | exact HB.out)) hb); clear HO_0; clear HO_7; clear HO218; clear HB; have HO_0 := n0_; have HO_7 := n1_; have HO218 := n2_; have HO222 := n3_; have HB := n4_; clear n0_ n1_ n2_ n3_ n4_; (try clear hb); (try clear hb2); (try clear hk); (try clear hi); (try clear ho0); obtain ⟨Ao37, co37, eo37⟩ := Kd.R_slice HO222.out; subst eo37) | ((with_reducible refine gate_callee (f := 110) rfl ?_); refine goesL_ (some 49) rfl rfl Try.func110 (by kernel_rfl) rfl #[.slice Ao37 t219.length co37] rfl (by (try simp only [List.map_toArray, List.map_cons, List.map_nil]); first | done | rfl | (simp only [List.length_drop, List.length_take]; rfl)) ?_; (with_reducible refine (modn_zero.calls _ _ t219 true _ ?side1 ?side2 A31.out).mono ?_); (case side1 => repeat (first | exact (Kd.R_reads' HO222.out).2.2 | (with_reducible refine Kd.C_alloc ?_ _) | (with_reducible refine Kd.C_drewN ?_ _) | (with_reducible refine Kd.C_drew ?_))); (case side2 => exact (Kd.R_reads' HO222.out).2.1); rintro e w38 ⟨rfl, hb⟩; refine ⟨_, rfl, ?_⟩; have n0_ := Aside0.mk (Kd.R_below (by (with_reducible repeat (first | apply Kd.R_alloc | apply Kd.R_drewN | apply Kd.R_drew)); exact HO_0.out) hb); have n1_ := Aside0.mk (Kd.R_below (by (with_reducible repeat (first | apply Kd.R_alloc | apply Kd.R_drewN | apply Kd.R_drew)); exact HO_7.out) hb); have n2_ := Aside0.mk (Kd.R_below (by (with_reducible repeat (first | apply Kd.R_alloc | apply Kd.R_drewN | apply Kd.R_drew)); exact HO218.out) hb); have n3_ := Aside0.mk (Kd.R_below (by (with_reducible repeat (first | apply Kd.R_alloc | apply Kd.R_drewN | apply Kd.R_drew)); exact HO222.out) hb); have n4_ := Aside0.mk (below_step (by repeat (first | (with_reducible first | exact HB.out | apply below_alloc | apply pw_below_drewN | apply below_drew1) | exact HB.out)) hb); clear HO_0; clear HO_7; clear HO218; clear HO222; clear HB; have HO_0 := n0_; have HO_7 := n1_; have HO218 := n2_; have HO222 := n3_; have HB := n4_; clear n0_ n1_ n2_ n3_ n4_; (try clear hb); (try clear hb2); (try clear hk); (try clear hi)))
                go_ret
                exact ⟨by first | rfl | (simp [errW_none, errW_some] <;> rfl) | (simp [*, errW_none, errW_some] <;> rfl), by repeat (first | (with_reducible first | exact HB.out | apply below_alloc | apply pw_below_drewN | apply below_drew1) | exact HB.out)⟩
              · replace c32 := Bool.eq_false_iff.mpr c32
                subst c32
                have H1 : ((nat_Shift.f t211 (wrap64 (-x9_1))).bind fun t224 => ((modn_Pow.f k1 t219 t224 t200).bind fun bt227 => ((nat_Of.f 1).bind fun t231 => ((nat_Cmp.f bt227.1 t231).bind fun t234 => (if t234 = 0 then (some false) else (modn_Tells.l1 k1 t200 t211 bt227.1 x9_1 0)))))) = some r := by rw [if_neg (show ¬ (false = true) by decide)] at H; exact H
                clear H
                have H := H1
                clear H1
                replace H := Option.bind_eq_some_iff.mp H
                obtain ⟨t224, A390, H⟩ := H
                replace H : ((modn_Pow.f k1 t219 t224 t200).bind fun bt227 => ((nat_Of.f 1).bind fun t231 => ((nat_Cmp.f bt227.1 t231).bind fun t234 => (if t234 = 0 then (some false) else (modn_Tells.l1 k1 t200 t211 bt227.1 x9_1 0))))) = some r := H
                have A39 := Aside0.mk A390
                clear A390
                replace H := Option.bind_eq_some_iff.mp H
                obtain ⟨⟨t227, t228⟩, A400, H⟩ := H
                replace H : ((nat_Of.f 1).bind fun t231 => ((nat_Cmp.f t227 t231).bind fun t234 => (if t234 = 0 then (some false) else (modn_Tells.l1 k1 t200 t211 t227 x9_1 0)))) = some r := H
                have A40 := Aside0.mk A400
                clear A400
                replace H := Option.bind_eq_some_iff.mp H
                obtain ⟨t231, A410, H⟩ := H
                replace H : ((nat_Cmp.f t227 t231).bind fun t234 => (if t234 = 0 then (some false) else (modn_Tells.l1 k1 t200 t211 t227 x9_1 0))) = some r := H
                have A41 := Aside0.mk A410
                clear A410
                replace H := Option.bind_eq_some_iff.mp H
                obtain ⟨t234, A420, H⟩ := H
                replace H : (if t234 = 0 then (some false) else (modn_Tells.l1 k1 t200 t211 t227 x9_1 0)) = some r := H
                have A42 := Aside0.mk A420
                clear A420
                by_cases c43 : t234 = 0
                · rw [if_pos c43] at H
                  have c43b0 : (t234 == 0) = true := beq_iff_eq.mpr c43
                  have c43b1 : (t234 != 0) = false := bne_eq_false_iff_eq.mpr c43
                  clear c43
                  obtain rfl := Option.some.inj H
                  simp only [Option.some.injEq, Prod.mk.injEq] at H
                  obtain ⟨rfl⟩ := H
                  obtain ⟨Ao44, co44, eo44⟩ := Kd.R_slice HO_7.out
                  subst eo44
                  go_wp2_with (first | ((with_reducible refine gate_callee (f := 60) rfl ?_); refine goesL_ (some 37) rfl rfl Try.func60 (by kernel_rfl) rfl #[.slice Ao44 t211.length co44, .int .i64 x9_1] rfl (by (try simp only [List.map_toArray, List.map_cons, List.map_nil]); first | done | rfl | (simp only [List.length_drop, List.length_take]; rfl)) ?_; (with_reducible refine (nat_Bit.calls _ _ t211 x9_1 t215 _ ?side1 ?side2 A26.out).mono ?_); (case side1 => repeat (first | exact (Kd.R_reads' HO_7.out).2.2 | (with_reducible refine Kd.C_alloc ?_ _) | (with_reducible refine Kd.C_drewN ?_ _) | (with_reducible refine Kd.C_drew ?_))); (case side2 => exact (Kd.R_reads' HO_7.out).2.1); rintro e w' ⟨rfl, ⟨nd, rfl⟩⟩; refine ⟨_, rfl, ?_⟩) | ((with_reducible refine gate_callee (f := 22) rfl ?_); refine goesL_ (some 43) rfl rfl Try.func22 (by kernel_rfl) rfl #[.int .u64 a1] rfl (by (try simp only [List.map_toArray, List.map_cons, List.map_nil]); first | done | rfl | (simp only [List.length_drop, List.length_take]; rfl)) ?_; (with_reducible refine (nat_Of.calls a1 t216 _ A29.out).mono ?_); rintro e w45 ⟨v217, rfl, ho0, hb⟩; refine ⟨_, rfl, ?_⟩; have n0_ := Aside0.mk (Kd.R_elder' (by (with_reducible repeat (first | apply Kd.R_alloc | apply Kd.R_drewN | apply Kd.R_drew)); exact HO_0.out) (Kd.R_base ho0) hb); have n1_ := Aside0.mk (Kd.R_elder' (by (with_reducible repeat (first | apply Kd.R_alloc | apply Kd.R_drewN | apply Kd.R_drew)); exact HO_7.out) (Kd.R_base ho0) hb); have n2_ := Aside0.mk (Kd.R_lower (Kd.R_new' (Kd.R_new' ho0 (Kd.R_lt (by (with_reducible repeat (first | apply Kd.R_alloc | apply Kd.R_drewN | apply Kd.R_drew)); exact HO_0.out))) (Kd.R_lt (by (with_reducible repeat (first | apply Kd.R_alloc | apply Kd.R_drewN | apply Kd.R_drew)); exact HO_7.out))) (below_size (by repeat (first | (with_reducible first | exact HB.out | apply below_alloc | apply pw_below_drewN | apply below_drew1) | exact HB.out)))); have n3_ := Aside0.mk (below_step (by repeat (first | (with_reducible first | exact HB.out | apply below_alloc | apply pw_below_drewN | apply below_drew1) | exact HB.out)) hb); clear HO_0; clear HO_7; clear HB; have HO_0 := n0_; have HO_7 := n1_; have HO218 := n2_; have HB := n3_; clear n0_ n1_ n2_ n3_; (try clear hb); (try clear hb2); (try clear hk); (try clear hi); (try clear ho0); obtain ⟨Ao46, co46, eo46⟩ := Kd.R_slice HO218.out; subst eo46) | ((with_reducible refine gate_callee (f := 36) rfl ?_); refine goesL_ (some 45) rfl rfl Try.func36 (by kernel_rfl) rfl #[.slice Ao46 t216.length co46, .slice (some ad207) t200.length co21] rfl (by (try simp only [List.map_toArray, List.map_cons, List.map_nil]); first | done | rfl | (simp only [List.length_drop, List.length_take]; rfl)) ?_; (with_reducible refine (modn_Mod.calls _ _ t216 _ _ t200 t219 t220 _ ?side1 ?side2 ?side3 ?side4 A30.out).mono ?_); (case side1 => repeat (first | exact (Kd.R_reads' HO218.out).2.2 | (with_reducible refine Kd.C_alloc ?_ _) | (with_reducible refine Kd.C_drewN ?_ _) | (with_reducible refine Kd.C_drew ?_))); (case side2 => exact (Kd.R_reads' HO218.out).2.1); (case side3 => repeat (first | exact (Kd.R_reads' HO_0.out).2.2 | (with_reducible refine Kd.C_alloc ?_ _) | (with_reducible refine Kd.C_drewN ?_ _) | (with_reducible refine Kd.C_drew ?_))); (case side4 => exact (Kd.R_reads' HO_0.out).2.1); rintro e w47 ⟨v221, rfl, ho0, hb⟩; refine ⟨_, rfl, ?_⟩; have n0_ := Aside0.mk (Kd.R_elder' (by (with_reducible repeat (first | apply Kd.R_alloc | apply Kd.R_drewN | apply Kd.R_drew)); exact HO_0.out) (Kd.R_base ho0) hb); have n1_ := Aside0.mk (Kd.R_elder' (by (with_reducible repeat (first | apply Kd.R_alloc | apply Kd.R_drewN | apply Kd.R_drew)); exact HO_7.out) (Kd.R_base ho0) hb); have n2_ := Aside0.mk (Kd.R_elder' (by (with_reducible repeat (first | apply Kd.R_alloc | apply Kd.R_drewN | apply Kd.R_drew)); exact HO218.out) (Kd.R_base ho0) hb); have n3_ := Aside0.mk (Kd.R_lower (Kd.R_new' (Kd.R_new' (Kd.R_new' ho0 (Kd.R_lt (by (with_reducible repeat (first | apply Kd.R_alloc | apply Kd.R_drewN | apply Kd.R_drew)); exact HO_0.out))) (Kd.R_lt (by (with_reducible repeat (first | apply Kd.R_alloc | apply Kd.R_drewN | apply Kd.R_drew)); exact HO_7.out))) (Kd.R_lt (by (with_reducible repeat (first | apply Kd.R_alloc | apply Kd.R_drewN | apply Kd.R_drew)); exact HO218.out))) (below_size (by repeat (first | (with_reducible first | exact HB.out | apply below_alloc | apply pw_below_drewN | apply below_drew1) | exact HB.out)))); have n4_ := Aside0.mk (below_step (by repeat (first | (with_reducible first | exact HB.out | apply below_alloc | apply pw_below_drewN | apply below_drew1) | exact HB.out)) hb); clear HO_0; clear HO_7; clear HO218; clear HB; have HO_0 := n0_; have HO_7 := n1_; have HO218 := n2_; have HO222 := n3_; have HB := n4_; clear n0_ n1_ n2_ n3_ n4_; (try clear hb); (try clear hb2); (try clear hk); (try clear hi); (try clear ho0); obtain ⟨Ao48, co48, eo48⟩ := Kd.R_slice HO222.out; subst eo48) | ((with_reducible refine gate_callee (f := 110) rfl ?_); refine goesL_ (some 49) rfl rfl Try.func110 (by kernel_rfl) rfl #[.slice Ao48 t219.length co48] rfl (by (try simp only [List.map_toArray, List.map_cons, List.map_nil]); first | done | rfl | (simp only [List.length_drop, List.length_take]; rfl)) ?_; (with_reducible refine (modn_zero.calls _ _ t219 false _ ?side1 ?side2 A31.out).mono ?_); (case side1 => repeat (first | exact (Kd.R_reads' HO222.out).2.2 | (with_reducible refine Kd.C_alloc ?_ _) | (with_reducible refine Kd.C_drewN ?_ _) | (with_reducible refine Kd.C_drew ?_))); (case side2 => exact (Kd.R_reads' HO222.out).2.1); rintro e w49 ⟨rfl, hb⟩; refine ⟨_, rfl, ?_⟩; have n0_ := Aside0.mk (Kd.R_below (by (with_reducible repeat (first | apply Kd.R_alloc | apply Kd.R_drewN | apply Kd.R_drew)); exact HO_0.out) hb); have n1_ := Aside0.mk (Kd.R_below (by (with_reducible repeat (first | apply Kd.R_alloc | apply Kd.R_drewN | apply Kd.R_drew)); exact HO_7.out) hb); have n2_ := Aside0.mk (Kd.R_below (by (with_reducible repeat (first | apply Kd.R_alloc | apply Kd.R_drewN | apply Kd.R_drew)); exact HO218.out) hb); have n3_ := Aside0.mk (Kd.R_below (by (with_reducible repeat (first | apply Kd.R_alloc | apply Kd.R_drewN | apply Kd.R_drew)); exact HO222.out) hb); have n4_ := Aside0.mk (below_step (by repeat (first | (with_reducible first | exact HB.out | apply below_alloc | apply pw_below_drewN | apply below_drew1) | exact HB.out)) hb); clear HO_0; clear HO_7; clear HO218; clear HO222; clear HB; have HO_0 := n0_; have HO_7 := n1_; have HO218 := n2_; have HO222 := n3_; have HB := n4_; clear n0_ n1_ n2_ n3_ n4_; (try clear hb); (try clear hb2); (try clear hk); (try clear hi)) | ((with_reducible refine gate_callee (f := 84) rfl ?_); refine goesL_ (some 55) rfl rfl Try.func84 (by kernel_rfl) rfl #[.slice Ao44 t211.length co44, .int .i64 (wrap64 (-x9_1))] rfl (by (try simp only [List.map_toArray, List.map_cons, List.map_nil]); first | done | rfl | (simp only [List.length_drop, List.length_take]; rfl)) ?_; (with_reducible refine (nat_Shift.calls _ _ t211 (wrap64 (-x9_1)) t224 _ ?side1 ?side2 A39.out).mono ?_); (case side1 => repeat (first | exact (Kd.R_reads' HO_7.out).2.2 | (with_reducible refine Kd.C_alloc ?_ _) | (with_reducible refine Kd.C_drewN ?_ _) | (with_reducible refine Kd.C_drew ?_))); (case side2 => exact (Kd.R_reads' HO_7.out).2.1); rintro e w50 ⟨v225, rfl, ho0, hb⟩; refine ⟨_, rfl, ?_⟩; have n0_ := Aside0.mk (Kd.R_elder' (by (with_reducible repeat (first | apply Kd.R_alloc | apply Kd.R_drewN | apply Kd.R_drew)); exact HO_0.out) (Kd.R_base ho0) hb); have n1_ := Aside0.mk (Kd.R_elder' (by (with_reducible repeat (first | apply Kd.R_alloc | apply Kd.R_drewN | apply Kd.R_drew)); exact HO_7.out) (Kd.R_base ho0) hb); have n2_ := Aside0.mk (Kd.R_elder' (by (with_reducible repeat (first | apply Kd.R_alloc | apply Kd.R_drewN | apply Kd.R_drew)); exact HO218.out) (Kd.R_base ho0) hb); have n3_ := Aside0.mk (Kd.R_elder' (by (with_reducible repeat (first | apply Kd.R_alloc | apply Kd.R_drewN | apply Kd.R_drew)); exact HO222.out) (Kd.R_base ho0) hb); have n4_ := Aside0.mk (Kd.R_lower (Kd.R_new' (Kd.R_new' (Kd.R_new' (Kd.R_new' ho0 (Kd.R_lt (by (with_reducible repeat (first | apply Kd.R_alloc | apply Kd.R_drewN | apply Kd.R_drew)); exact HO_0.out))) (Kd.R_lt (by (with_reducible repeat (first | apply Kd.R_alloc | apply Kd.R_drewN | apply Kd.R_drew)); exact HO_7.out))) (Kd.R_lt (by (with_reducible repeat (first | apply Kd.R_alloc | apply Kd.R_drewN | apply Kd.R_drew)); exact HO218.out))) (Kd.R_lt (by (with_reducible repeat (first | apply Kd.R_alloc | apply Kd.R_drewN | apply Kd.R_drew)); exact HO222.out))) (below_size (by repeat (first | (with_reducible first | exact HB.out | apply below_alloc | apply pw_below_drewN | apply below_drew1) | exact HB.out)))); have n5_ := Aside0.mk (below_step (by repeat (first | (with_reducible first | exact HB.out | apply below_alloc | apply pw_below_drewN | apply below_drew1) | exact HB.out)) hb); clear HO_0; clear HO_7; clear HO218; clear HO222; clear HB; have HO_0 := n0_; have HO_7 := n1_; have HO218 := n2_; have HO222 := n3_; have HO226 := n4_; have HB := n5_; clear n0_ n1_ n2_ n3_ n4_ n5_; (try clear hb); (try clear hb2); (try clear hk); (try clear hi); (try clear ho0); obtain ⟨Ao51, co51, eo51⟩ := Kd.R_slice HO226.out; subst eo51) | ((with_reducible refine gate_callee (f := 21) rfl ?_); refine goesL_ (some 57) rfl rfl Try.func21 (by kernel_rfl) rfl #[.slice Ao48 t219.length co48, .slice Ao51 t224.length co51, .slice (some ad207) t200.length co21] rfl (by (try simp only [List.map_toArray, List.map_cons, List.map_nil]); first | done | rfl | (simp only [List.length_drop, List.length_take]; rfl)) ?_; (with_reducible refine (modn_Pow.calls k1 _ _ t219 _ _ t224 _ _ t200 t227 t228 _ ?side1 ?side2 ?side3 ?side4 ?side5 ?side6 A40.out).mono ?_); (case side1 => repeat (first | exact (Kd.R_reads' HO222.out).2.2 | (with_reducible refine Kd.C_alloc ?_ _) | (with_reducible refine Kd.C_drewN ?_ _) | (with_reducible refine Kd.C_drew ?_))); (case side2 => exact (Kd.R_reads' HO222.out).2.1); (case side3 => repeat (first | exact (Kd.R_reads' HO226.out).2.2 | (with_reducible refine Kd.C_alloc ?_ _) | (with_reducible refine Kd.C_drewN ?_ _) | (with_reducible refine Kd.C_drew ?_))); (case side4 => exact (Kd.R_reads' HO226.out).2.1); (case side5 => repeat (first | exact (Kd.R_reads' HO_0.out).2.2 | (with_reducible refine Kd.C_alloc ?_ _) | (with_reducible refine Kd.C_drewN ?_ _) | (with_reducible refine Kd.C_drew ?_))); (case side6 => exact (Kd.R_reads' HO_0.out).2.1); rintro e w52 ⟨v229, rfl, ho0, hb⟩; refine ⟨_, rfl, ?_⟩; have n0_ := Aside0.mk (Kd.R_elder' (by (with_reducible repeat (first | apply Kd.R_alloc | apply Kd.R_drewN | apply Kd.R_drew)); exact HO_0.out) (Kd.R_base ho0) hb); have n1_ := Aside0.mk (Kd.R_elder' (by (with_reducible repeat (first | apply Kd.R_alloc | apply Kd.R_drewN | apply Kd.R_drew)); exact HO_7.out) (Kd.R_base ho0) hb); have n2_ := Aside0.mk (Kd.R_elder' (by (with_reducible repeat (first | apply Kd.R_alloc | apply Kd.R_drewN | apply Kd.R_drew)); exact HO218.out) (Kd.R_base ho0) hb); have n3_ := Aside0.mk (Kd.R_elder' (by (with_reducible repeat (first | apply Kd.R_alloc | apply Kd.R_drewN | apply Kd.R_drew)); exact HO222.out) (Kd.R_base ho0) hb); have n4_ := Aside0.mk (Kd.R_elder' (by (with_reducible repeat (first | apply Kd.R_alloc | apply Kd.R_drewN | apply Kd.R_drew)); exact HO226.out) (Kd.R_base ho0) hb); have n5_ := Aside0.mk (Kd.R_lower (Kd.R_new' (Kd.R_new' (Kd.R_new' (Kd.R_new' (Kd.R_new' ho0 (Kd.R_lt (by (with_reducible repeat (first | apply Kd.R_alloc | apply Kd.R_drewN | apply Kd.R_drew)); exact HO_0.out))) (Kd.R_lt (by (with_reducible repeat (first | apply Kd.R_alloc | apply Kd.R_drewN | apply Kd.R_drew)); exact HO_7.out))) (Kd.R_lt (by (with_reducible repeat (first | apply Kd.R_alloc | apply Kd.R_drewN | apply Kd.R_drew)); exact HO218.out))) (Kd.R_lt (by (with_reducible repeat (first | apply Kd.R_alloc | apply Kd.R_drewN | apply Kd.R_drew)); exact HO222.out))) (Kd.R_lt (by (with_reducible repeat (first | apply Kd.R_alloc | apply Kd.R_drewN | apply Kd.R_drew)); exact HO226.out))) (below_size (by repeat (first | (with_reducible first | exact HB.out | apply below_alloc | apply pw_below_drewN | apply below_drew1) | exact HB.out)))); have n6_ := Aside0.mk (below_step (by repeat (first | (with_reducible first | exact HB.out | apply below_alloc | apply pw_below_drewN | apply below_drew1) | exact HB.out)) hb); clear HO_0; clear HO_7; clear HO218; clear HO222; clear HO226; clear HB; have HO_0 := n0_; have HO_7 := n1_; have HO218 := n2_; have HO222 := n3_; have HO226 := n4_; have HO230 := n5_; have HB := n6_; clear n0_ n1_ n2_ n3_ n4_ n5_ n6_; (try clear hb); (try clear hb2); (try clear hk); (try clear hi); (try clear ho0)) | ((with_reducible refine gate_callee (f := 22) rfl ?_); refine goesL_ (some 61) rfl rfl Try.func22 (by kernel_rfl) rfl #[.int .u64 1] rfl (by (try simp only [List.map_toArray, List.map_cons, List.map_nil]); first | done | rfl | (simp only [List.length_drop, List.length_take]; rfl)) ?_; (with_reducible refine (nat_Of.calls 1 t231 _ A41.out).mono ?_); rintro e w53 ⟨v232, rfl, ho0, hb⟩; refine ⟨_, rfl, ?_⟩; have n0_ := Aside0.mk (Kd.R_elder' (by (with_reducible repeat (first | apply Kd.R_alloc | apply Kd.R_drewN | apply Kd.R_drew)); exact HO_0.out) (Kd.R_base ho0) hb); have n1_ := Aside0.mk (Kd.R_elder' (by (with_reducible repeat (first | apply Kd.R_alloc | apply Kd.R_drewN | apply Kd.R_drew)); exact HO_7.out) (Kd.R_base ho0) hb); have n2_ := Aside0.mk (Kd.R_elder' (by (with_reducible repeat (first | apply Kd.R_alloc | apply Kd.R_drewN | apply Kd.R_drew)); exact HO218.out) (Kd.R_base ho0) hb); have n3_ := Aside0.mk (Kd.R_elder' (by (with_reducible repeat (first | apply Kd.R_alloc | apply Kd.R_drewN | apply Kd.R_drew)); exact HO222.out) (Kd.R_base ho0) hb); have n4_ := Aside0.mk (Kd.R_elder' (by (with_reducible repeat (first | apply Kd.R_alloc | apply Kd.R_drewN | apply Kd.R_drew)); exact HO226.out) (Kd.R_base ho0) hb); have n5_ := Aside0.mk (Kd.R_elder' (by (with_reducible repeat (first | apply Kd.R_alloc | apply Kd.R_drewN | apply Kd.R_drew)); exact HO230.out) (Kd.R_base ho0) hb); have n6_ := Aside0.mk (Kd.R_lower (Kd.R_new' (Kd.R_new' (Kd.R_new' (Kd.R_new' (Kd.R_new' (Kd.R_new' ho0 (Kd.R_lt (by (with_reducible repeat (first | apply Kd.R_alloc | apply Kd.R_drewN | apply Kd.R_drew)); exact HO_0.out))) (Kd.R_lt (by (with_reducible repeat (first | apply Kd.R_alloc | apply Kd.R_drewN | apply Kd.R_drew)); exact HO_7.out))) (Kd.R_lt (by (with_reducible repeat (first | apply Kd.R_alloc | apply Kd.R_drewN | apply Kd.R_drew)); exact HO218.out))) (Kd.R_lt (by (with_reducible repeat (first | apply Kd.R_alloc | apply Kd.R_drewN | apply Kd.R_drew)); exact HO222.out))) (Kd.R_lt (by (with_reducible repeat (first | apply Kd.R_alloc | apply Kd.R_drewN | apply Kd.R_drew)); exact HO226.out))) (Kd.R_lt (by (with_reducible repeat (first | apply Kd.R_alloc | apply Kd.R_drewN | apply Kd.R_drew)); exact HO230.out))) (below_size (by repeat (first | (with_reducible first | exact HB.out | apply below_alloc | apply pw_below_drewN | apply below_drew1) | exact HB.out)))); have n7_ := Aside0.mk (below_step (by repeat (first | (with_reducible first | exact HB.out | apply below_alloc | apply pw_below_drewN | apply below_drew1) | exact HB.out)) hb); clear HO_0; clear HO_7; clear HO218; clear HO222; clear HO226; clear HO230; clear HB; have HO_0 := n0_; have HO_7 := n1_; have HO218 := n2_; have HO222 := n3_; have HO226 := n4_; have HO230 := n5_; have HO233 := n6_; have HB := n7_; clear n0_ n1_ n2_ n3_ n4_ n5_ n6_ n7_; (try clear hb); (try clear hb2); (try clear hk); (try clear hi); (try clear ho0); obtain ⟨Ao54, co54, eo54⟩ := Kd.R_slice HO230.out; subst eo54; obtain ⟨Ao55, co55, eo55⟩ := Kd.R_slice HO233.out; subst eo55) | ((with_reducible refine gate_callee (f := 33) rfl ?_); refine goesL_ (some 62) rfl rfl Try.func33 (by kernel_rfl) rfl #[.slice Ao54 t227.length co54, .slice Ao55 t231.length co55] rfl (by (try simp only [List.map_toArray, List.map_cons, List.map_nil]); first | done | rfl | (simp only [List.length_drop, List.length_take]; rfl)) ?_; (with_reducible refine (nat_Cmp.calls _ _ t227 _ _ t231 t234 _ ?side1 ?side2 ?side3 ?side4 A42.out).mono ?_); (case side1 => repeat (first | exact (Kd.R_reads' HO230.out).2.2 | (with_reducible refine Kd.C_alloc ?_ _) | (with_reducible refine Kd.C_drewN ?_ _) | (with_reducible refine Kd.C_drew ?_))); (case side2 => exact (Kd.R_reads' HO230.out).2.1); (case side3 => repeat (first | exact (Kd.R_reads' HO233.out).2.2 | (with_reducible refine Kd.C_alloc ?_ _) | (with_reducible refine Kd.C_drewN ?_ _) | (with_reducible refine Kd.C_drew ?_))); (case side4 => exact (Kd.R_reads' HO233.out).2.1); rintro e w' ⟨rfl, ⟨nd, rfl⟩⟩; refine ⟨_, rfl, ?_⟩))
                  go_ret
                  exact ⟨by first | rfl | (simp [errW_none, errW_some] <;> rfl) | (simp [*, errW_none, errW_some] <;> rfl), by repeat (first | (with_reducible first | exact HB.out | apply below_alloc | apply pw_below_drewN | apply below_drew1) | exact HB.out)⟩
                · rw [if_neg c43] at H
                  have c43b0 : (t234 == 0) = false := beq_eq_false_iff_ne.mpr c43
                  have c43b1 : (t234 != 0) = true := bne_iff_ne.mpr c43
                  have H' := Aside0.mk H
                  clear H
                  obtain ⟨Ao56, co56, eo56⟩ := Kd.R_slice HO_7.out
                  subst eo56
                  go_wp2_with (first | ((with_reducible refine gate_callee (f := 60) rfl ?_); refine goesL_ (some 37) rfl rfl Try.func60 (by kernel_rfl) rfl #[.slice Ao56 t211.length co56, .int .i64 x9_1] rfl (by (try simp only [List.map_toArray, List.map_cons, List.map_nil]); first | done | rfl | (simp only [List.length_drop, List.length_take]; rfl)) ?_; (with_reducible refine (nat_Bit.calls _ _ t211 x9_1 t215 _ ?side1 ?side2 A26.out).mono ?_); (case side1 => repeat (first | exact (Kd.R_reads' HO_7.out).2.2 | (with_reducible refine Kd.C_alloc ?_ _) | (with_reducible refine Kd.C_drewN ?_ _) | (with_reducible refine Kd.C_drew ?_))); (case side2 => exact (Kd.R_reads' HO_7.out).2.1); rintro e w' ⟨rfl, ⟨nd, rfl⟩⟩; refine ⟨_, rfl, ?_⟩) | ((with_reducible refine gate_callee (f := 22) rfl ?_); refine goesL_ (some 43) rfl rfl Try.func22 (by kernel_rfl) rfl #[.int .u64 a1] rfl (by (try simp only [List.map_toArray, List.map_cons, List.map_nil]); first | done | rfl | (simp only [List.length_drop, List.length_take]; rfl)) ?_; (with_reducible refine (nat_Of.calls a1 t216 _ A29.out).mono ?_); rintro e w57 ⟨v217, rfl, ho0, hb⟩; refine ⟨_, rfl, ?_⟩; have n0_ := Aside0.mk (Kd.R_elder' (by (with_reducible repeat (first | apply Kd.R_alloc | apply Kd.R_drewN | apply Kd.R_drew)); exact HO_0.out) (Kd.R_base ho0) hb); have n1_ := Aside0.mk (Kd.R_elder' (by (with_reducible repeat (first | apply Kd.R_alloc | apply Kd.R_drewN | apply Kd.R_drew)); exact HO_7.out) (Kd.R_base ho0) hb); have n2_ := Aside0.mk (Kd.R_lower (Kd.R_new' (Kd.R_new' ho0 (Kd.R_lt (by (with_reducible repeat (first | apply Kd.R_alloc | apply Kd.R_drewN | apply Kd.R_drew)); exact HO_0.out))) (Kd.R_lt (by (with_reducible repeat (first | apply Kd.R_alloc | apply Kd.R_drewN | apply Kd.R_drew)); exact HO_7.out))) (below_size (by repeat (first | (with_reducible first | exact HB.out | apply below_alloc | apply pw_below_drewN | apply below_drew1) | exact HB.out)))); have n3_ := Aside0.mk (below_step (by repeat (first | (with_reducible first | exact HB.out | apply below_alloc | apply pw_below_drewN | apply below_drew1) | exact HB.out)) hb); clear HO_0; clear HO_7; clear HB; have HO_0 := n0_; have HO_7 := n1_; have HO218 := n2_; have HB := n3_; clear n0_ n1_ n2_ n3_; (try clear hb); (try clear hb2); (try clear hk); (try clear hi); (try clear ho0); obtain ⟨Ao58, co58, eo58⟩ := Kd.R_slice HO218.out; subst eo58) | ((with_reducible refine gate_callee (f := 36) rfl ?_); refine goesL_ (some 45) rfl rfl Try.func36 (by kernel_rfl) rfl #[.slice Ao58 t216.length co58, .slice (some ad207) t200.length co21] rfl (by (try simp only [List.map_toArray, List.map_cons, List.map_nil]); first | done | rfl | (simp only [List.length_drop, List.length_take]; rfl)) ?_; (with_reducible refine (modn_Mod.calls _ _ t216 _ _ t200 t219 t220 _ ?side1 ?side2 ?side3 ?side4 A30.out).mono ?_); (case side1 => repeat (first | exact (Kd.R_reads' HO218.out).2.2 | (with_reducible refine Kd.C_alloc ?_ _) | (with_reducible refine Kd.C_drewN ?_ _) | (with_reducible refine Kd.C_drew ?_))); (case side2 => exact (Kd.R_reads' HO218.out).2.1); (case side3 => repeat (first | exact (Kd.R_reads' HO_0.out).2.2 | (with_reducible refine Kd.C_alloc ?_ _) | (with_reducible refine Kd.C_drewN ?_ _) | (with_reducible refine Kd.C_drew ?_))); (case side4 => exact (Kd.R_reads' HO_0.out).2.1); rintro e w59 ⟨v221, rfl, ho0, hb⟩; refine ⟨_, rfl, ?_⟩; have n0_ := Aside0.mk (Kd.R_elder' (by (with_reducible repeat (first | apply Kd.R_alloc | apply Kd.R_drewN | apply Kd.R_drew)); exact HO_0.out) (Kd.R_base ho0) hb); have n1_ := Aside0.mk (Kd.R_elder' (by (with_reducible repeat (first | apply Kd.R_alloc | apply Kd.R_drewN | apply Kd.R_drew)); exact HO_7.out) (Kd.R_base ho0) hb); have n2_ := Aside0.mk (Kd.R_elder' (by (with_reducible repeat (first | apply Kd.R_alloc | apply Kd.R_drewN | apply Kd.R_drew)); exact HO218.out) (Kd.R_base ho0) hb); have n3_ := Aside0.mk (Kd.R_lower (Kd.R_new' (Kd.R_new' (Kd.R_new' ho0 (Kd.R_lt (by (with_reducible repeat (first | apply Kd.R_alloc | apply Kd.R_drewN | apply Kd.R_drew)); exact HO_0.out))) (Kd.R_lt (by (with_reducible repeat (first | apply Kd.R_alloc | apply Kd.R_drewN | apply Kd.R_drew)); exact HO_7.out))) (Kd.R_lt (by (with_reducible repeat (first | apply Kd.R_alloc | apply Kd.R_drewN | apply Kd.R_drew)); exact HO218.out))) (below_size (by repeat (first | (with_reducible first | exact HB.out | apply below_alloc | apply pw_below_drewN | apply below_drew1) | exact HB.out)))); have n4_ := Aside0.mk (below_step (by repeat (first | (with_reducible first | exact HB.out | apply below_alloc | apply pw_below_drewN | apply below_drew1) | exact HB.out)) hb); clear HO_0; clear HO_7; clear HO218; clear HB; have HO_0 := n0_; have HO_7 := n1_; have HO218 := n2_; have HO222 := n3_; have HB := n4_; clear n0_ n1_ n2_ n3_ n4_; (try clear hb); (try clear hb2); (try clear hk); (try clear hi); (try clear ho0); obtain ⟨Ao60, co60, eo60⟩ := Kd.R_slice HO222.out; subst eo60) | ((with_reducible refine gate_callee (f := 110) rfl ?_); refine goesL_ (some 49) rfl rfl Try.func110 (by kernel_rfl) rfl #[.slice Ao60 t219.length co60] rfl (by (try simp only [List.map_toArray, List.map_cons, List.map_nil]); first | done | rfl | (simp only [List.length_drop, List.length_take]; rfl)) ?_; (with_reducible refine (modn_zero.calls _ _ t219 false _ ?side1 ?side2 A31.out).mono ?_); (case side1 => repeat (first | exact (Kd.R_reads' HO222.out).2.2 | (with_reducible refine Kd.C_alloc ?_ _) | (with_reducible refine Kd.C_drewN ?_ _) | (with_reducible refine Kd.C_drew ?_))); (case side2 => exact (Kd.R_reads' HO222.out).2.1); rintro e w61 ⟨rfl, hb⟩; refine ⟨_, rfl, ?_⟩; have n0_ := Aside0.mk (Kd.R_below (by (with_reducible repeat (first | apply Kd.R_alloc | apply Kd.R_drewN | apply Kd.R_drew)); exact HO_0.out) hb); have n1_ := Aside0.mk (Kd.R_below (by (with_reducible repeat (first | apply Kd.R_alloc | apply Kd.R_drewN | apply Kd.R_drew)); exact HO_7.out) hb); have n2_ := Aside0.mk (Kd.R_below (by (with_reducible repeat (first | apply Kd.R_alloc | apply Kd.R_drewN | apply Kd.R_drew)); exact HO218.out) hb); have n3_ := Aside0.mk (Kd.R_below (by (with_reducible repeat (first | apply Kd.R_alloc | apply Kd.R_drewN | apply Kd.R_drew)); exact HO222.out) hb); have n4_ := Aside0.mk (below_step (by repeat (first | (with_reducible first | exact HB.out | apply below_alloc | apply pw_below_drewN | apply below_drew1) | exact HB.out)) hb); clear HO_0; clear HO_7; clear HO218; clear HO222; clear HB; have HO_0 := n0_; have HO_7 := n1_; have HO218 := n2_; have HO222 := n3_; have HB := n4_; clear n0_ n1_ n2_ n3_ n4_; (try clear hb); (try clear hb2); (try clear hk); (try clear hi)) | ((with_reducible refine gate_callee (f := 84) rfl ?_); refine goesL_ (some 55) rfl rfl Try.func84 (by kernel_rfl) rfl #[.slice Ao56 t211.length co56, .int .i64 (wrap64 (-x9_1))] rfl (by (try simp only [List.map_toArray, List.map_cons, List.map_nil]); first | done | rfl | (simp only [List.length_drop, List.length_take]; rfl)) ?_; (with_reducible refine (nat_Shift.calls _ _ t211 (wrap64 (-x9_1)) t224 _ ?side1 ?side2 A39.out).mono ?_); (case side1 => repeat (first | exact (Kd.R_reads' HO_7.out).2.2 | (with_reducible refine Kd.C_alloc ?_ _) | (with_reducible refine Kd.C_drewN ?_ _) | (with_reducible refine Kd.C_drew ?_))); (case side2 => exact (Kd.R_reads' HO_7.out).2.1); rintro e w62 ⟨v225, rfl, ho0, hb⟩; refine ⟨_, rfl, ?_⟩; have n0_ := Aside0.mk (Kd.R_elder' (by (with_reducible repeat (first | apply Kd.R_alloc | apply Kd.R_drewN | apply Kd.R_drew)); exact HO_0.out) (Kd.R_base ho0) hb); have n1_ := Aside0.mk (Kd.R_elder' (by (with_reducible repeat (first | apply Kd.R_alloc | apply Kd.R_drewN | apply Kd.R_drew)); exact HO_7.out) (Kd.R_base ho0) hb); have n2_ := Aside0.mk (Kd.R_elder' (by (with_reducible repeat (first | apply Kd.R_alloc | apply Kd.R_drewN | apply Kd.R_drew)); exact HO218.out) (Kd.R_base ho0) hb); have n3_ := Aside0.mk (Kd.R_elder' (by (with_reducible repeat (first | apply Kd.R_alloc | apply Kd.R_drewN | apply Kd.R_drew)); exact HO222.out) (Kd.R_base ho0) hb); have n4_ := Aside0.mk (Kd.R_lower (Kd.R_new' (Kd.R_new' (Kd.R_new' (Kd.R_new' ho0 (Kd.R_lt (by (with_reducible repeat (first | apply Kd.R_alloc | apply Kd.R_drewN | apply Kd.R_drew)); exact HO_0.out))) (Kd.R_lt (by (with_reducible repeat (first | apply Kd.R_alloc | apply Kd.R_drewN | apply Kd.R_drew)); exact HO_7.out))) (Kd.R_lt (by (with_reducible repeat (first | apply Kd.R_alloc | apply Kd.R_drewN | apply Kd.R_drew)); exact HO218.out))) (Kd.R_lt (by (with_reducible repeat (first | apply Kd.R_alloc | apply Kd.R_drewN | apply Kd.R_drew)); exact HO222.out))) (below_size (by repeat (first | (with_reducible first | exact HB.out | apply below_alloc | apply pw_below_drewN | apply below_drew1) | exact HB.out)))); have n5_ := Aside0.mk (below_step (by repeat (first | (with_reducible first | exact HB.out | apply below_alloc | apply pw_below_drewN | apply below_drew1) | exact HB.out)) hb); clear HO_0; clear HO_7; clear HO218; clear HO222; clear HB; have HO_0 := n0_; have HO_7 := n1_; have HO218 := n2_; have HO222 := n3_; have HO226 := n4_; have HB := n5_; clear n0_ n1_ n2_ n3_ n4_ n5_; (try clear hb); (try clear hb2); (try clear hk); (try clear hi); (try clear ho0); obtain ⟨Ao63, co63, eo63⟩ := Kd.R_slice HO226.out; subst eo63) | ((with_reducible refine gate_callee (f := 21) rfl ?_); refine goesL_ (some 57) rfl rfl Try.func21 (by kernel_rfl) rfl #[.slice Ao60 t219.length co60, .slice Ao63 t224.length co63, .slice (some ad207) t200.length co21] rfl (by (try simp only [List.map_toArray, List.map_cons, List.map_nil]); first | done | rfl | (simp only [List.length_drop, List.length_take]; rfl)) ?_; (with_reducible refine (modn_Pow.calls k1 _ _ t219 _ _ t224 _ _ t200 t227 t228 _ ?side1 ?side2 ?side3 ?side4 ?side5 ?side6 A40.out).mono ?_); (case side1 => repeat (first | exact (Kd.R_reads' HO222.out).2.2 | (with_reducible refine Kd.C_alloc ?_ _) | (with_reducible refine Kd.C_drewN ?_ _) | (with_reducible refine Kd.C_drew ?_))); (case side2 => exact (Kd.R_reads' HO222.out).2.1); (case side3 => repeat (first | exact (Kd.R_reads' HO226.out).2.2 | (with_reducible refine Kd.C_alloc ?_ _) | (with_reducible refine Kd.C_drewN ?_ _) | (with_reducible refine Kd.C_drew ?_))); (case side4 => exact (Kd.R_reads' HO226.out).2.1); (case side5 => repeat (first | exact (Kd.R_reads' HO_0.out).2.2 | (with_reducible refine Kd.C_alloc ?_ _) | (with_reducible refine Kd.C_drewN ?_ _) | (with_reducible refine Kd.C_drew ?_))); (case side6 => exact (Kd.R_reads' HO_0.out).2.1); rintro e w64 ⟨v229, rfl, ho0, hb⟩; refine ⟨_, rfl, ?_⟩; have n0_ := Aside0.mk (Kd.R_elder' (by (with_reducible repeat (first | apply Kd.R_alloc | apply Kd.R_drewN | apply Kd.R_drew)); exact HO_0.out) (Kd.R_base ho0) hb); have n1_ := Aside0.mk (Kd.R_elder' (by (with_reducible repeat (first | apply Kd.R_alloc | apply Kd.R_drewN | apply Kd.R_drew)); exact HO_7.out) (Kd.R_base ho0) hb); have n2_ := Aside0.mk (Kd.R_elder' (by (with_reducible repeat (first | apply Kd.R_alloc | apply Kd.R_drewN | apply Kd.R_drew)); exact HO218.out) (Kd.R_base ho0) hb); have n3_ := Aside0.mk (Kd.R_elder' (by (with_reducible repeat (first | apply Kd.R_alloc | apply Kd.R_drewN | apply Kd.R_drew)); exact HO222.out) (Kd.R_base ho0) hb); have n4_ := Aside0.mk (Kd.R_elder' (by (with_reducible repeat (first | apply Kd.R_alloc | apply Kd.R_drewN | apply Kd.R_drew)); exact HO226.out) (Kd.R_base ho0) hb); have n5_ := Aside0.mk (Kd.R_lower (Kd.R_new' (Kd.R_new' (Kd.R_new' (Kd.R_new' (Kd.R_new' ho0 (Kd.R_lt (by (with_reducible repeat (first | apply Kd.R_alloc | apply Kd.R_drewN | apply Kd.R_drew)); exact HO_0.out))) (Kd.R_lt (by (with_reducible repeat (first | apply Kd.R_alloc | apply Kd.R_drewN | apply Kd.R_drew)); exact HO_7.out))) (Kd.R_lt (by (with_reducible repeat (first | apply Kd.R_alloc | apply Kd.R_drewN | apply Kd.R_drew)); exact HO218.out))) (Kd.R_lt (by (with_reducible repeat (first | apply Kd.R_alloc | apply Kd.R_drewN | apply Kd.R_drew)); exact HO222.out))) (Kd.R_lt (by (with_reducible repeat (first | apply Kd.R_alloc | apply Kd.R_drewN | apply Kd.R_drew)); exact HO226.out))) (below_size (by repeat (first | (with_reducible first | exact HB.out | apply below_alloc | apply pw_below_drewN | apply below_drew1) | exact HB.out)))); have n6_ := Aside0.mk (below_step (by repeat (first | (with_reducible first | exact HB.out | apply below_alloc | apply pw_below_drewN | apply below_drew1) | exact HB.out)) hb); clear HO_0; clear HO_7; clear HO218; clear HO222; clear HO226; clear HB; have HO_0 := n0_; have HO_7 := n1_; have HO218 := n2_; have HO222 := n3_; have HO226 := n4_; have HO230 := n5_; have HB := n6_; clear n0_ n1_ n2_ n3_ n4_ n5_ n6_; (try clear hb); (try clear hb2); (try clear hk); (try clear hi); (try clear ho0)) | ((with_reducible refine gate_callee (f := 22) rfl ?_); refine goesL_ (some 61) rfl rfl Try.func22 (by kernel_rfl) rfl #[.int .u64 1] rfl (by (try simp only [List.map_toArray, List.map_cons, List.map_nil]); first | done | rfl | (simp only [List.length_drop, List.length_take]; rfl)) ?_; (with_reducible refine (nat_Of.calls 1 t231 _ A41.out).mono ?_); rintro e w65 ⟨v232, rfl, ho0, hb⟩; refine ⟨_, rfl, ?_⟩; have n0_ := Aside0.mk (Kd.R_elder' (by (with_reducible repeat (first | apply Kd.R_alloc | apply Kd.R_drewN | apply Kd.R_drew)); exact HO_0.out) (Kd.R_base ho0) hb); have n1_ := Aside0.mk (Kd.R_elder' (by (with_reducible repeat (first | apply Kd.R_alloc | apply Kd.R_drewN | apply Kd.R_drew)); exact HO_7.out) (Kd.R_base ho0) hb); have n2_ := Aside0.mk (Kd.R_elder' (by (with_reducible repeat (first | apply Kd.R_alloc | apply Kd.R_drewN | apply Kd.R_drew)); exact HO218.out) (Kd.R_base ho0) hb); have n3_ := Aside0.mk (Kd.R_elder' (by (with_reducible repeat (first | apply Kd.R_alloc | apply Kd.R_drewN | apply Kd.R_drew)); exact HO222.out) (Kd.R_base ho0) hb); have n4_ := Aside0.mk (Kd.R_elder' (by (with_reducible repeat (first | apply Kd.R_alloc | apply Kd.R_drewN | apply Kd.R_drew)); exact HO226.out) (Kd.R_base ho0) hb); have n5_ := Aside0.mk (Kd.R_elder' (by (with_reducible repeat (first | apply Kd.R_alloc | apply Kd.R_drewN | apply Kd.R_drew)); exact HO230.out) (Kd.R_base ho0) hb); have n6_ := Aside0.mk (Kd.R_lower (Kd.R_new' (Kd.R_new' (Kd.R_new' (Kd.R_new' (Kd.R_new' (Kd.R_new' ho0 (Kd.R_lt (by (with_reducible repeat (first | apply Kd.R_alloc | apply Kd.R_drewN | apply Kd.R_drew)); exact HO_0.out))) (Kd.R_lt (by (with_reducible repeat (first | apply Kd.R_alloc | apply Kd.R_drewN | apply Kd.R_drew)); exact HO_7.out))) (Kd.R_lt (by (with_reducible repeat (first | apply Kd.R_alloc | apply Kd.R_drewN | apply Kd.R_drew)); exact HO218.out))) (Kd.R_lt (by (with_reducible repeat (first | apply Kd.R_alloc | apply Kd.R_drewN | apply Kd.R_drew)); exact HO222.out))) (Kd.R_lt (by (with_reducible repeat (first | apply Kd.R_alloc | apply Kd.R_drewN | apply Kd.R_drew)); exact HO226.out))) (Kd.R_lt (by (with_reducible repeat (first | apply Kd.R_alloc | apply Kd.R_drewN | apply Kd.R_drew)); exact HO230.out))) (below_size (by repeat (first | (with_reducible first | exact HB.out | apply below_alloc | apply pw_below_drewN | apply below_drew1) | exact HB.out)))); have n7_ := Aside0.mk (below_step (by repeat (first | (with_reducible first | exact HB.out | apply below_alloc | apply pw_below_drewN | apply below_drew1) | exact HB.out)) hb); clear HO_0; clear HO_7; clear HO218; clear HO222; clear HO226; clear HO230; clear HB; have HO_0 := n0_; have HO_7 := n1_; have HO218 := n2_; have HO222 := n3_; have HO226 := n4_; have HO230 := n5_; have HO233 := n6_; have HB := n7_; clear n0_ n1_ n2_ n3_ n4_ n5_ n6_ n7_; (try clear hb); (try clear hb2); (try clear hk); (try clear hi); (try clear ho0); obtain ⟨Ao66, co66, eo66⟩ := Kd.R_slice HO230.out; subst eo66; obtain ⟨Ao67, co67, eo67⟩ := Kd.R_slice HO233.out; subst eo67) | ((with_reducible refine gate_callee (f := 33) rfl ?_); refine goesL_ (some 62) rfl rfl Try.func33 (by kernel_rfl) rfl #[.slice Ao66 t227.length co66, .slice Ao67 t231.length co67] rfl (by (try simp only [List.map_toArray, List.map_cons, List.map_nil]); first | done | rfl | (simp only [List.length_drop, List.length_take]; rfl)) ?_; (with_reducible refine (nat_Cmp.calls _ _ t227 _ _ t231 t234 _ ?side1 ?side2 ?side3 ?side4 A42.out).mono ?_); (case side1 => repeat (first | exact (Kd.R_reads' HO230.out).2.2 | (with_reducible refine Kd.C_alloc ?_ _) | (with_reducible refine Kd.C_drewN ?_ _) | (with_reducible refine Kd.C_drew ?_))); (case side2 => exact (Kd.R_reads' HO230.out).2.1); (case side3 => repeat (first | exact (Kd.R_reads' HO233.out).2.2 | (with_reducible refine Kd.C_alloc ?_ _) | (with_reducible refine Kd.C_drewN ?_ _) | (with_reducible refine Kd.C_drew ?_))); (case side4 => exact (Kd.R_reads' HO233.out).2.1); rintro e w' ⟨rfl, ⟨nd, rfl⟩⟩; refine ⟨_, rfl, ?_⟩))
                  go_loopg [12, 65] k1 (fun kq v12 v65 w' => ∃ (x12_2 : List Int) (x65_2 : Int), v65 = .int .i64 x65_2 ∧ Aside0 (modn_Tells.l1 kq t200 t211 x12_2 x9_1 x65_2 = some r) ∧ Aside0 (kq ≤ k1) ∧ Aside0 (Kd.R (Kd.int .u64) 40 w' w.heap.size (fun k_ => some k_ ≠ ((.slice Ao56 t211.length co56) : Value).ownBlock ∧ some k_ ≠ (v12 : Value).ownBlock) (.slice (some ad207) t200.length co21) t200) ∧ Aside0 (Kd.R (Kd.int .u64) 40 w' w.heap.size (fun k_ => some k_ ≠ ((.slice (some ad207) t200.length co21) : Value).ownBlock ∧ some k_ ≠ (v12 : Value).ownBlock) (.slice Ao56 t211.length co56) t211) ∧ Aside0 (Kd.R (Kd.int .u64) 40 w' w.heap.size (fun k_ => some k_ ≠ ((.slice (some ad207) t200.length co21) : Value).ownBlock ∧ some k_ ≠ ((.slice Ao56 t211.length co56) : Value).ownBlock) v12 x12_2) ∧ Aside0 (Below w.heap.size w w'))
                  case atStart => exact ⟨(t227), (0), (by first | rfl | (simp; done) | (simp [*]; done)), H', ⟨Nat.le_refl _⟩, ⟨by (with_reducible repeat (first | apply Kd.R_alloc | apply Kd.R_drewN | apply Kd.R_drew)); exact Kd.R_mono HO_0.out (fun _ hk => ⟨hk.1.1.1.1.1, hk.1.2⟩)⟩, ⟨by (with_reducible repeat (first | apply Kd.R_alloc | apply Kd.R_drewN | apply Kd.R_drew)); exact Kd.R_mono HO_7.out (fun _ hk => ⟨hk.1.1.1.1.1, hk.1.2⟩)⟩, ⟨by (with_reducible repeat (first | apply Kd.R_alloc | apply Kd.R_drewN | apply Kd.R_drew)); exact Kd.R_mono HO230.out (fun _ hk => ⟨hk.1.1.1.1.1.2, hk.1.1.1.1.2⟩)⟩, ⟨by repeat (first | (with_reducible first | exact HB.out | apply below_alloc | apply pw_below_drewN | apply below_drew1) | exact HB.out)⟩⟩
                  case round =>
                    clear H'
                    try clear c1
                    try clear c2
                    try clear p2
                    try clear q2
                    try clear hx2
                    try clear qi2
                    try clear c3
                    try clear c4
                    try clear c5
                    try clear c6
                    try clear c6b0
                    try clear p6
                    try clear c8
                    try clear c10
                    try clear c11
                    try clear c11b0
                    try clear c11b1
                    try clear c12
                    try clear c12b0
                    try clear c12b1
                    try clear p20
                    try clear q20
                    try clear hx20
                    try clear qi20
                    try clear c21
                    try clear c22
                    try clear c27
                    try clear c27b0
                    try clear c27b1
                    try clear c32
                    try clear c33
                    try clear c36
                    try clear c43
                    try clear c43b0
                    try clear c43b1
                    try clear c58
                    try clear c60
                    try clear p64
                    try clear hx207_0
                    try clear p2
                    try clear p20
                    try clear p207
                    try clear q2
                    try clear q20
                    try clear q207
                    obtain ⟨x12_2, x65_2, rfl, HA, HK2, HO_0, HO_7, HO_12, HB⟩ := hrel
                    cases gk with
                    | zero => exact absurd HA.out (by simp [modn_Tells.l1])
                    | succ k2 =>
                      have H := HA.out
                      clear HA
                      simp only [modn_Tells.l1] at H
                      by_cases c68 : x65_2 < x9_1
                      · rw [if_pos c68] at H
                        have c68b0 : decide (x65_2 < x9_1) = true := decide_eq_true c68
                        clear c68
                        replace H := Option.bind_eq_some_iff.mp H
                        obtain ⟨t235, A690, H⟩ := H
                        replace H : (if t235 = 0 then (some false) else ((modn_Mul.f x12_2 x12_2 t200).bind fun bt236 => (modn_Tells.l1 k2 t200 t211 bt236.1 x9_1 (wrap64 (x65_2 + 1))))) = some r := H
                        have A69 := Aside0.mk A690
                        clear A690
                        by_cases c70 : t235 = 0
                        · rw [if_pos c70] at H
                          have c70b0 : (t235 == 0) = true := beq_iff_eq.mpr c70
                          have c70b1 : (t235 != 0) = false := bne_eq_false_iff_eq.mpr c70
                          clear c70
                          obtain rfl := Option.some.inj H
                          simp only [Option.some.injEq, Prod.mk.injEq] at H
                          obtain ⟨rfl⟩ := H
                          obtain ⟨Ao71, co71, eo71⟩ := Kd.R_slice HO_12.out
                          subst eo71
                          go_wp2_with (first | ((with_reducible refine gate_callee (f := 33) rfl ?_); refine goesL_ (some 69) rfl rfl Try.func33 (by kernel_rfl) rfl #[.slice Ao71 x12_2.length co71, .slice Ao56 t211.length co56] rfl (by (try simp only [List.map_toArray, List.map_cons, List.map_nil]); first | done | rfl | (simp only [List.length_drop, List.length_take]; rfl)) ?_; (with_reducible refine (nat_Cmp.calls _ _ x12_2 _ _ t211 t235 _ ?side1 ?side2 ?side3 ?side4 A69.out).mono ?_); (case side1 => repeat (first | exact (Kd.R_reads' HO_12.out).2.2 | (with_reducible refine Kd.C_alloc ?_ _) | (with_reducible refine Kd.C_drewN ?_ _) | (with_reducible refine Kd.C_drew ?_))); (case side2 => exact (Kd.R_reads' HO_12.out).2.1); (case side3 => repeat (first | exact (Kd.R_reads' HO_7.out).2.2 | (with_reducible refine Kd.C_alloc ?_ _) | (with_reducible refine Kd.C_drewN ?_ _) | (with_reducible refine Kd.C_drew ?_))); (case side4 => exact (Kd.R_reads' HO_7.out).2.1); rintro e w' ⟨rfl, ⟨nd, rfl⟩⟩; refine ⟨_, rfl, ?_⟩))
                          go_ret
                          exact ⟨by first | rfl | (simp [errW_none, errW_some] <;> rfl) | (simp [*, errW_none, errW_some] <;> rfl), by repeat (first | (with_reducible first | exact HB.out | apply below_alloc | apply pw_below_drewN | apply below_drew1) | exact HB.out)⟩
                        · rw [if_neg c70] at H
                          have c70b0 : (t235 == 0) = false := beq_eq_false_iff_ne.mpr c70
                          have c70b1 : (t235 != 0) = true := bne_iff_ne.mpr c70
                          replace H := Option.bind_eq_some_iff.mp H
                          obtain ⟨⟨t236, t237⟩, A720, H⟩ := H
                          replace H : (modn_Tells.l1 k2 t200 t211 t236 x9_1 (wrap64 (x65_2 + 1))) = some r := H
                          have A72 := Aside0.mk A720
                          clear A720
                          have H' := Aside0.mk H
                          clear H
                          obtain ⟨Ao73, co73, eo73⟩ := Kd.R_slice HO_12.out
                          subst eo73
                          go_wp2_with (first | ((with_reducible refine gate_callee (f := 33) rfl ?_); refine goesL_ (some 69) rfl rfl Try.func33 (by kernel_rfl) rfl #[.slice Ao73 x12_2.length co73, .slice Ao56 t211.length co56] rfl (by (try simp only [List.map_toArray, List.map_cons, List.map_nil]); first | done | rfl | (simp only [List.length_drop, List.length_take]; rfl)) ?_; (with_reducible refine (nat_Cmp.calls _ _ x12_2 _ _ t211 t235 _ ?side1 ?side2 ?side3 ?side4 A69.out).mono ?_); (case side1 => repeat (first | exact (Kd.R_reads' HO_12.out).2.2 | (with_reducible refine Kd.C_alloc ?_ _) | (with_reducible refine Kd.C_drewN ?_ _) | (with_reducible refine Kd.C_drew ?_))); (case side2 => exact (Kd.R_reads' HO_12.out).2.1); (case side3 => repeat (first | exact (Kd.R_reads' HO_7.out).2.2 | (with_reducible refine Kd.C_alloc ?_ _) | (with_reducible refine Kd.C_drewN ?_ _) | (with_reducible refine Kd.C_drew ?_))); (case side4 => exact (Kd.R_reads' HO_7.out).2.1); rintro e w' ⟨rfl, ⟨nd, rfl⟩⟩; refine ⟨_, rfl, ?_⟩) | ((with_reducible refine gate_callee (f := 62) rfl ?_); refine goesL_ (some 75) rfl rfl Try.func62 (by kernel_rfl) rfl #[.slice Ao73 x12_2.length co73, .slice Ao73 x12_2.length co73, .slice (some ad207) t200.length co21] rfl (by (try simp only [List.map_toArray, List.map_cons, List.map_nil]); first | done | rfl | (simp only [List.length_drop, List.length_take]; rfl)) ?_; (with_reducible refine (modn_Mul.calls _ _ x12_2 _ _ x12_2 _ _ t200 t236 t237 _ ?side1 ?side2 ?side3 ?side4 ?side5 ?side6 A72.out).mono ?_); (case side1 => repeat (first | exact (Kd.R_reads' HO_12.out).2.2 | (with_reducible refine Kd.C_alloc ?_ _) | (with_reducible refine Kd.C_drewN ?_ _) | (with_reducible refine Kd.C_drew ?_))); (case side2 => exact (Kd.R_reads' HO_12.out).2.1); (case side3 => repeat (first | exact (Kd.R_reads' HO_12.out).2.2 | (with_reducible refine Kd.C_alloc ?_ _) | (with_reducible refine Kd.C_drewN ?_ _) | (with_reducible refine Kd.C_drew ?_))); (case side4 => exact (Kd.R_reads' HO_12.out).2.1); (case side5 => repeat (first | exact (Kd.R_reads' HO_0.out).2.2 | (with_reducible refine Kd.C_alloc ?_ _) | (with_reducible refine Kd.C_drewN ?_ _) | (with_reducible refine Kd.C_drew ?_))); (case side6 => exact (Kd.R_reads' HO_0.out).2.1); rintro e w74 ⟨v238, rfl, ho0, hb⟩; refine ⟨_, rfl, ?_⟩; have n0_ := Aside0.mk (Kd.R_elder' (by (with_reducible repeat (first | apply Kd.R_alloc | apply Kd.R_drewN | apply Kd.R_drew)); exact HO_0.out) (Kd.R_base ho0) hb); have n1_ := Aside0.mk (Kd.R_elder' (by (with_reducible repeat (first | apply Kd.R_alloc | apply Kd.R_drewN | apply Kd.R_drew)); exact HO_7.out) (Kd.R_base ho0) hb); have n2_ := Aside0.mk (Kd.R_elder' (by (with_reducible repeat (first | apply Kd.R_alloc | apply Kd.R_drewN | apply Kd.R_drew)); exact HO_12.out) (Kd.R_base ho0) hb); have n3_ := Aside0.mk (Kd.R_lower (Kd.R_new' (Kd.R_new' (Kd.R_new' ho0 (Kd.R_lt (by (with_reducible repeat (first | apply Kd.R_alloc | apply Kd.R_drewN | apply Kd.R_drew)); exact HO_0.out))) (Kd.R_lt (by (with_reducible repeat (first | apply Kd.R_alloc | apply Kd.R_drewN | apply Kd.R_drew)); exact HO_7.out))) (Kd.R_lt (by (with_reducible repeat (first | apply Kd.R_alloc | apply Kd.R_drewN | apply Kd.R_drew)); exact HO_12.out))) (below_size (by repeat (first | (with_reducible first | exact HB.out | apply below_alloc | apply pw_below_drewN | apply below_drew1) | exact HB.out)))); have n4_ := Aside0.mk (below_step (by repeat (first | (with_reducible first | exact HB.out | apply below_alloc | apply pw_below_drewN | apply below_drew1) | exact HB.out)) hb); clear HO_0; clear HO_7; clear HO_12; clear HB; have HO_0 := n0_; have HO_7 := n1_; have HO_12 := n2_; have HO239 := n3_; have HB := n4_; clear n0_ n1_ n2_ n3_ n4_; (try clear hb); (try clear hb2); (try clear hk); (try clear hi); (try clear ho0)))
                          go_roundg k2
                          case measure => have := HK1.out; have := HK2.out; omega
                          case rel => exact ⟨(t236), (wrap64 (x65_2 + 1)), (by first | rfl | (simp; done) | (simp [*]; done)), H', ⟨by have := HK1.out; have := HK2.out; omega⟩, ⟨by (with_reducible repeat (first | apply Kd.R_alloc | apply Kd.R_drewN | apply Kd.R_drew)); exact Kd.R_mono HO_0.out (fun _ hk => ⟨hk.1.1, hk.2⟩)⟩, ⟨by (with_reducible repeat (first | apply Kd.R_alloc | apply Kd.R_drewN | apply Kd.R_drew)); exact Kd.R_mono HO_7.out (fun _ hk => ⟨hk.1.1, hk.2⟩)⟩, ⟨by (with_reducible repeat (first | apply Kd.R_alloc | apply Kd.R_drewN | apply Kd.R_drew)); exact Kd.R_mono HO239.out (fun _ hk => ⟨hk.1.1.2, hk.1.2⟩)⟩, ⟨by repeat (first | (with_reducible first | exact HB.out | apply below_alloc | apply pw_below_drewN | apply below_drew1) | exact HB.out)⟩⟩
                      · rw [if_neg c68] at H
                        have c68b0 : decide (x65_2 < x9_1) = false := decide_eq_false c68
                        clear c68
                        obtain rfl := Option.some.inj H
                        simp only [Option.some.injEq, Prod.mk.injEq] at H
                        obtain ⟨rfl⟩ := H
                        go_wp2
                        go_ret
                        exact ⟨by first | rfl | (simp [errW_none, errW_some] <;> rfl) | (simp [*, errW_none, errW_some] <;> rfl), by repeat (first | (with_reducible first | exact HB.out | apply below_alloc | apply pw_below_drewN | apply below_drew1) | exact HB.out)⟩
    · rw [if_neg c11] at H
      exact absurd H (by simp)
end Go.Proofs.Ytdmglajfmfjmlaa.Cm
namespace Go.Proofs.Ytdmglajfmfjmlaa.Cm
open Go.RowKit Go.Proofs.YtdmglajfmfjmlaaW.PrintWords Go.Proofs.YtdmglajfmfjmlaaW.PrintLast Go.Proofs.YtdmglajfmfjmlaaW.PrintMore
attribute [local go_sem] max2_int min2_int max_two min_two max_three min_three max_four min_four   -- for this text's walks alone
set_option linter.unusedVariables false
set_option linter.unusedSimpArgs false
end Go.Proofs.Ytdmglajfmfjmlaa.Cm
namespace Go.Proofs.Ytdmglajfmfjmlaa
set_option linter.unusedSimpArgs false
set_option linter.unusedVariables false
set_option maxRecDepth 100000
open Go.RowKit
theorem ok {n m : Nat} (h : ln n ≤ m) (hm : m ≤ 262144) : okN 262144 (ofN n) := okN_ofN (Nat.le_trans h hm)
end Go.Proofs.Ytdmglajfmfjmlaa
namespace Go.Proofs.Ytdmglajfmfjmlaa
set_option linter.unusedSimpArgs false
set_option linter.unusedVariables false
set_option maxRecDepth 100000
open Go.RowKit Go.Proofs.YtdmglajfmfjmlaaW.PrintWords Go.Proofs.YtdmglajfmfjmlaaW.PrintLast Go.Proofs.YtdmglajfmfjmlaaW.PrintMore
section
variable {a b c : List Int}
theorem cm_trim (h : okN 262144 a) : Cm.nat_Trim.f a = some (ofN (nI a)) := if_pos h
theorem cm_div (h : okN 262144 a) (h' : okN 262144 b) : Cm.nat_Div.f a b = some (divR (nI a) (nI b)) := if_pos ⟨h, h'⟩
theorem cm_nmul (h : okN 262144 a) (h' : okN 262144 b) : Cm.nat_Mul.f a b = some (ofN (nI a * nI b)) := if_pos ⟨h, h'⟩
theorem cm_cmp (h : okN 262144 a) (h' : okN 262144 b) : Cm.nat_Cmp.f a b = some (cmpN (nI a) (nI b)) := if_pos ⟨h, h'⟩
theorem cm_add (h : okN 262144 a) (h' : okN 262144 b) : Cm.nat_Add.f a b = some (ofN (nI a + nI b)) := if_pos ⟨h, h'⟩
theorem cm_sub (h : okN 262144 a) (h' : okN 262144 b) : Cm.nat_Sub.f a b = some (ofN (nI a - nI b), (if nI a < nI b then 10 else 0 : Int)) := if_pos ⟨h, h'⟩
theorem cm_bits (h : okN 262144 a) : Cm.nat_Bits.f a = some ((blen (nI a) : Nat) : Int) := if_pos h
theorem cm_bit (h : okN 262144 a) {i : Nat} (hi : i ≤ 9223372036854775807) : Cm.nat_Bit.f a (i : Int) = some ((nI a / 2 ^ i % 2 : Nat) : Int) := by
  unfold Cm.nat_Bit.f; rw [if_pos ⟨h, by omega⟩, if_neg (by omega), Int.toNat_natCast]
theorem cm_of {n : Nat} (h : n < 18446744073709551616) : Cm.nat_Of.f (n : Int) = some (ofN n) := by
  unfold Cm.nat_Of.f; rw [if_pos (by omega), Int.toNat_natCast]
theorem cm_shift (h : okN 262144 a) (i : Int) : Cm.nat_Shift.f a i = some (ofN (shiftN (nI a) i)) := if_pos h
theorem cm_odd (h : okN 4096 a) (h' : okN 4096 b) (h'' : okN 1024 c) (h3 : nI c % 2 = 1) (h4 : 1 < nI c) : Cm.modn_odd.f a b c = some (ofN (powM (nI a) (nI b) (nI c))) := if_pos ⟨h, h', h'', h3, h4⟩
def modR (x m : Nat) : List Int × Int := (ofN (if m = 0 then 0 else x % m), if m = 0 then 11 else 0)
theorem modR_pos {x m : Nat} (h : 0 < m) : modR x m = (ofN (x % m), 0) := by unfold modR; rw [if_neg (by omega), if_neg (by omega)]
theorem mod_pure (h : okN 262144 a) (h' : okN 262144 b) : Cm.modn_Mod.f a b = some (modR (nI a) (nI b)) := by
  unfold Cm.modn_Mod.f
  rw [cm_div h h', Option.bind_some]; rfl
theorem okmul (h : okN 131072 a) (h' : okN 131072 b) : okN 262144 (ofN (nI a * nI b)) := ok (lnm (ln_nI h) (ln_nI h') (Nat.le_refl _)) (by omega)
theorem mmul_pure (h : okN 131072 a) (h' : okN 131072 b) (h'' : okN 262144 c) : Cm.modn_Mul.f a b c = some (modR (nI a * nI b) (nI c)) := by
  unfold Cm.modn_Mul.f
  rw [cm_nmul (h.le (by omega)) (h'.le (by omega)), Option.bind_some, mod_pure (okmul h h') h'', Option.bind_some, nI_ofN]
theorem zero_pure (h : okN 262144 a) : Cm.modn_zero.f a = some (decide (nI a = 0)) := by
  unfold Cm.modn_zero.f
  rw [cm_bits h, Option.bind_some]
  by_cases h0 : nI a = 0
  · rw [h0, blen_zero]; rfl
  · have : blen (nI a) ≠ 0 := by rw [blen_pos h0]; omega
    simp [h0, this]
end
theorem powM_lt {a e m : Nat} (h : 0 < m) : powM a e m < m := Nat.mod_lt _ h
theorem powM_zero {a m : Nat} (h : 1 < m) : powM a 0 m = 1 := by unfold powM; rw [Nat.pow_zero]; exact Nat.mod_eq_of_lt h
theorem powM_mod (a e m : Nat) : powM (a % m) e m = powM a e m := by unfold powM; exact (Nat.pow_mod a e m).symm
theorem powM_add (a e f m : Nat) : powM a e m * powM a f m % m = powM a (e + f) m := by unfold powM; rw [← Nat.mul_mod, ← Nat.pow_add]
theorem powM_one (a m : Nat) : powM a 1 m = a % m := by unfold powM; rw [Nat.pow_one]
theorem half_split (e j : Nat) : e / 2 ^ j = 2 * (e / 2 ^ (j + 1)) + e / 2 ^ j % 2 := div_next e j
theorem powM_sq (a e m : Nat) : powM a e m * powM a e m % m = powM a (2 * e) m := by rw [powM_add]; congr 1; omega
theorem ln_modlt {x m k : Nat} (hm : 0 < m) (h : ln m ≤ k) : ln (x % m) ≤ k := Nat.le_trans (ln_mono (Nat.le_of_lt (Nat.mod_lt x hm))) h
theorem pow_loop {m x e : Nat} (hm : 1 < m) (hl : ln m ≤ 65536) {le : List Int} (he : okN 262144 le) (hle : nI le = e) : ∀ (j k : Nat), j < k → j ≤ 16777216 →
    Cm.modn_Pow.l0 k le (ofN m) (ofN (x % m)) (ofN (powM x (e / 2 ^ j) m)) ((j : Int) - 1) = some (ofN (powM x e m), 0) := by
  intro j
  induction j with
  | zero =>
    intro k hk _
    obtain ⟨k, rfl⟩ : ∃ q, k = q + 1 := ⟨k - 1, by omega⟩
    simp only [Cm.modn_Pow.l0]
    rw [if_neg (by omega), Nat.pow_zero, Nat.div_one]
  | succ j ih =>
    intro k hk hj
    obtain ⟨k, rfl⟩ : ∃ q, k = q + 1 := ⟨k - 1, by omega⟩
    have hm0 : 0 < m := by omega
    have lm : okN 262144 (ofN m) := ok hl (by omega)
    have lo : ∀ y, okN 131072 (ofN (y % m)) := fun y => okN_ofN (Nat.le_trans (ln_modlt hm0 hl) (by omega))
    have lp : ∀ f, okN 131072 (ofN (powM x f m)) := fun f => lo _
    have ej : ((j + 1 : Nat) : Int) - 1 = (j : Int) := by omega
    simp only [Cm.modn_Pow.l0]
    rw [ej, if_pos (by omega), mmul_pure (lp _) (lp _) lm, nI_ofN, nI_ofN, modR_pos hm0, Option.bind_some, powM_sq, cm_bit he (by omega), Option.bind_some, hle]
    have hw : wrap64 ((j : Int) - 1) = (j : Int) - 1 := wr (by omega) (by omega)
    have hs := half_split e j
    have hb := Nat.mod_lt (e / 2 ^ j) (show 0 < 2 by omega)
    rw [hw]
    by_cases h1 : e / 2 ^ j % 2 = 1
    · rw [if_pos (by rw [h1]; rfl)]
      simp only
      rw [mmul_pure (lp _) (lo _) lm, nI_ofN, nI_ofN, nI_ofN, modR_pos hm0, Option.bind_some]
      have e1 : powM x (2 * (e / 2 ^ (j + 1))) m * (x % m) % m = powM x (e / 2 ^ j) m := by
        have := powM_add x (2 * (e / 2 ^ (j + 1))) 1 m
        rw [powM_one] at this
        rw [this, hs, h1]
      simp only
      rw [e1]
      exact ih k (by omega) (by omega)
    · have h0 : e / 2 ^ j % 2 = 0 := by omega
      rw [if_neg (by rw [h0]; decide)]
      have e1 : powM x (2 * (e / 2 ^ (j + 1))) m = powM x (e / 2 ^ j) m := by rw [hs, h0]; rfl
      simp only
      rw [e1]
      exact ih k (by omega) (by omega)
theorem lead_odd {m : Nat} (hm : 0 < m) : rd (ofN m) 0 = ((m % 18446744073709551616 : Nat) : Int) := by
  have h := rd_ofN m 0 (by have := ln_pos (show m ≠ 0 by omega); omega)
  rw [show ((0 : Nat) : Int) = 0 from rfl] at h
  rw [h, gd0_mod (limbs_b64 m), nv_limbs]
theorem blen_of_ln {f K : Nat} (h : ln f ≤ K) : blen f ≤ 64 * K := by
  have h3 := ln_le.1 h
  rw [show (18446744073709551616 : Nat) = 2 ^ 64 by decide +kernel, ← Nat.pow_mul] at h3
  exact blen_le.2 h3
theorem pow_pure {a e n : List Int} (ha : okN 4096 a) (he : okN 4096 e) (hn : okN 1024 n) : ∀ k, blen (nI e) < k →
    Cm.modn_Pow.f k a e n = some (ofN (if nI n = 0 then 0 else powM (nI a) (nI e) (nI n)), if nI n = 0 then 11 else 0) := by
  intro k hk
  have hn' := hn.le (m' := 262144) (by omega)
  have he' := he.le (m' := 262144) (by omega)
  have hln := ln_nI hn
  have hle := ln_nI he
  obtain ⟨m, hm⟩ : ∃ m, nI n = m := ⟨_, rfl⟩
  obtain ⟨x, hx⟩ : ∃ x, nI a = x := ⟨_, rfl⟩
  obtain ⟨f, hf⟩ : ∃ f, nI e = f := ⟨_, rfl⟩
  rw [hm] at hln
  rw [hf] at hle hk
  have lm : okN 262144 (ofN m) := ok hln (by omega)
  have c1 := cm_of (n := 1) (by omega)
  rw [show ((1 : Nat) : Int) = 1 from rfl] at c1
  unfold Cm.modn_Pow.f
  rw [cm_trim hn', hm, Option.bind_some, mod_pure (ha.le (by omega)) lm, nI_ofN, hx, hf, Option.bind_some]
  rcases Nat.eq_zero_or_pos m with h0 | h0
  · subst h0
    rw [show modR x 0 = (ofN 0, 11) from rfl]
    simp [ofN_zero]
  · rw [modR_pos h0, if_neg (show ¬ m = 0 by omega), if_neg (show ¬ m = 0 by omega)]
    simp only [if_true]
    rw [c1, Option.bind_some, cm_cmp lm (okS (by omega)), nI_ofN, nI_ofN, Option.bind_some]
    by_cases h1 : m = 1
    · subst h1
      rw [cmpN_eq rfl]
      simp [powM, Nat.mod_one, ofN_zero]
    · have hm1 : 1 < m := by omega
      have lx : okN 4096 (ofN (x % m)) := okN_ofN (Nat.le_trans (ln_modlt h0 hln) (by omega))
      rw [cmpN_gt hm1, if_neg (by omega), ofN_length, if_pos (by have := ln_pos (show m ≠ 0 by omega); omega), lead_odd h0, nv_bits_and _ (Nat.mod_lt _ (by omega))]
      have hpar : m % 18446744073709551616 % 2 = m % 2 := by omega
      rw [hpar]
      by_cases ho : m % 2 = 1
      · rw [if_pos (by rw [ho]; rfl), cm_odd lx he (okN_ofN hln) (by rw [nI_ofN]; exact ho) (by rw [nI_ofN]; exact hm1), Option.bind_some, nI_ofN, nI_ofN, hf, powM_mod]
      · have h0' : m % 2 = 0 := by omega
        rw [if_neg (by rw [h0']; decide), Option.bind_some, cm_bits he', hf, Option.bind_some]
        have hb : blen f ≤ 262144 := Nat.le_trans (blen_of_ln hle) (by omega)
        have hw : wrap64 (((blen f : Nat) : Int) - 1) = ((blen f : Nat) : Int) - 1 := wr (by omega) (by omega)
        have h := pow_loop (x := x) hm1 (Nat.le_trans hln (by omega)) he' hf (blen f) k hk (by omega)
        rw [Nat.div_eq_of_lt (lt_blen f), powM_zero hm1] at h
        rw [hw]
        exact h
end Go.Proofs.Ytdmglajfmfjmlaa
namespace Go.Proofs.Ytdmglajfmfjmlaa
set_option linter.unusedSimpArgs false
set_option linter.unusedVariables false
set_option maxRecDepth 100000
open Go.RowKit Go.Proofs.YtdmglajfmfjmlaaW.PrintWords Go.Proofs.YtdmglajfmfjmlaaW.PrintLast Go.Proofs.YtdmglajfmfjmlaaW.PrintMore
def invN (a n : Nat) : Nat := ((List.range n).find? fun x => a * x % n == 1 % n).getD 0
theorem invN_spec {a n : Nat} (h : ∃ x, x < n ∧ a * x % n = 1 % n) : invN a n < n ∧ a * invN a n % n = 1 % n := by
  unfold invN
  cases hf : (List.range n).find? fun x => a * x % n == 1 % n with
  | none =>
    obtain ⟨x, hx, he⟩ := h
    have := List.find?_eq_none.1 hf x (List.mem_range.2 hx)
    simp [he] at this
  | some y =>
    have h1 := List.find?_some hf
    have h2 := List.mem_of_find?_eq_some hf
    exact ⟨List.mem_range.1 h2, by simpa using h1⟩
theorem inv_uniq {a n x y : Nat} (hx : x < n) (hy : y < n) (h1 : a * x % n = 1 % n) (h2 : a * y % n = 1 % n) : x = y := by
  have e1 : x * (a * y) % n = x := by rw [Nat.mul_mod, h2, ← Nat.mul_mod, Nat.mul_one, Nat.mod_eq_of_lt hx]
  have e2 : a * x * y % n = y := by rw [Nat.mul_mod, h1, ← Nat.mul_mod, Nat.one_mul, Nat.mod_eq_of_lt hy]
  rw [show x * (a * y) = a * x * y by rw [Nat.mul_comm a x, Nat.mul_assoc]] at e1
  exact e1.symm.trans e2
theorem invN_eq {a n x : Nat} (hx : x < n) (h : a * x % n = 1 % n) : invN a n = x :=
  have s := invN_spec ⟨x, hx, h⟩
  inv_uniq s.1 hx s.2 h
def subM (a b m : Nat) : Nat := if a < b then a + m - b else a - b
theorem minus_pure {a b c : List Int} (ha : okN 131072 a) (hb : okN 131072 b) (hc : okN 131072 c) : Cm.modn_minus.f a b c = some (ofN (subM (nI a) (nI b) (nI c))) := by
  unfold Cm.modn_minus.f subM
  rw [cm_sub (ha.le (by omega)) (hb.le (by omega)), Option.bind_some]
  by_cases h : nI a < nI b
  · simp only [if_pos h]
    rw [if_neg (by omega), cm_add (ha.le (by omega)) (hc.le (by omega)), Option.bind_some, cm_sub (ok (ln2 (ln_nI ha) (ln_nI hc) (by omega : 131072 + 1 ≤ 262144)) (by omega)) (hb.le (by omega)), Option.bind_some, nI_ofN]
  · simp only [if_neg h, if_true]
theorem subM_lt {a b m : Nat} (ha : a < m) (hb : b < m) : subM a b m < m := by unfold subM; split <;> omega
theorem subM_int {a b m : Nat} (hb : b < m) : ∃ t : Int, ((subM a b m : Nat) : Int) = a - b + m * t := by
  unfold subM
  split
  · exact ⟨1, by omega⟩
  · exact ⟨0, by omega⟩
def Cong (n a l o : Nat) : Prop := ∃ c : Int, (l : Int) * a - o = n * c
theorem cong_alg (n a l o x r q rest st new u t c d : Int) (h1 : l * a - o = n * c) (h2 : x * a - r = n * d) (h3 : o = q * r + rest) (h4 : q * x = st + n * u) (h5 : new = l - st + n * t) : new * a - rest = n * (c - q * d + u * a + t * a) := by
  subst h5 h3
  have e : st = q * x - n * u := by omega
  subst e
  grind
theorem Cong.next {n a l o x r : Nat} (h1 : Cong n a l o) (h2 : Cong n a x r) (hr : 0 < r) (hn : 0 < n) : Cong n a (subM l (o / r * x % n) n) (o % r) := by
  obtain ⟨c, h1⟩ := h1
  obtain ⟨d, h2⟩ := h2
  obtain ⟨t, ht⟩ := subM_int (a := l) (Nat.mod_lt (o / r * x) hn)
  refine ⟨_, cong_alg n a l o x r ((o / r : Nat) : Int) ((o % r : Nat) : Int) ((o / r * x % n : Nat) : Int) _ ((o / r * x / n : Nat) : Int) t c d h1 h2 ?_ ?_ ht⟩
  · have := Nat.div_add_mod o r
    rw [Nat.mul_comm] at this
    exact_mod_cast this.symm
  · have := Nat.div_add_mod (o / r * x) n
    rw [Nat.add_comm] at this
    exact_mod_cast this.symm
theorem Cong.unit {n a l : Nat} (h : Cong n a l 1) : a * l % n = 1 % n := by
  obtain ⟨c, h⟩ := h
  have e : ((a * l : Nat) : Int) = 1 + n * c := by push_cast; rw [Int.mul_comm]; omega
  have e2 : ((a * l % n : Nat) : Int) = ((1 % n : Nat) : Int) := by
    rw [Int.natCast_emod, e, Int.add_mul_emod_self_left]; rfl
  exact_mod_cast e2
theorem cong_gcd {n a l o : Nat} (h : Cong n a l o) (h1 : o = 1) : a * l % n = 1 % n := by subst h1; exact h.unit
theorem inverse_loop {n a G K : Nat} (hn : 0 < n) (hK : K ≤ 65536) (hl : ln n ≤ K) : ∀ (r o l x : Nat), ln o ≤ K → ln r ≤ K → l < n → x < n → Cong n a l o → Cong n a x r → Nat.gcd o r = G →
    ∃ k0, ∀ k, k0 ≤ k → Cm.modn_Inverse.l0 k (ofN n) (ofN r) (ofN o) (ofN x) (ofN l) = some (if G = 1 then (ofN (invN a n), 0) else ([], 30)) := by
  intro r
  induction r using Nat.strongRecOn with
  | ind r ih =>
    intro o l x ho hr hlt hxt c1 c2 hg
    have hln : ∀ y, y < n → ln y ≤ K := fun y hy => Nat.le_trans (ln_mono (Nat.le_of_lt hy)) hl
    by_cases h0 : r = 0
    · refine ⟨1, fun k hk => ?_⟩
      obtain ⟨k, rfl⟩ : ∃ q, k = q + 1 := ⟨k - 1, by omega⟩
      have e1 := cm_of (n := 1) (by omega)
      rw [show ((1 : Nat) : Int) = 1 from rfl] at e1
      rw [h0, Nat.gcd_zero_right] at hg
      simp only [Cm.modn_Inverse.l0]
      rw [zero_pure (ok hr (by omega)), nI_ofN, Option.bind_some, decide_eq_true h0, if_pos rfl, e1, Option.bind_some, cm_cmp (ok ho (by omega)) (okS (by omega)), nI_ofN, nI_ofN, Option.bind_some]
      by_cases h1 : o = 1
      · rw [cmpN_eq h1, if_pos rfl, if_pos (by omega), invN_eq hlt (cong_gcd c1 h1)]
      · have : cmpN o 1 ≠ 0 := by
          unfold cmpN; split
          · omega
          · rw [if_pos (by omega)]; omega
        rw [if_neg this, if_neg (by omega)]
    · have hp : 0 < r := by omega
      have hm : o / r * x % n < n := Nat.mod_lt _ hn
      have hs := subM_lt hlt hm
      obtain ⟨k0, h⟩ := ih (o % r) (Nat.mod_lt o hp) r x (subM l (o / r * x % n) n) hr (ln_modlt hp hr) hxt hs c2 (c1.next c2 hp hn)
        (by rw [← hg, Nat.gcd_comm o r, Nat.gcd_rec r o, Nat.gcd_comm r])
      refine ⟨k0 + 1, fun k hk => ?_⟩
      obtain ⟨k, rfl⟩ : ∃ q, k = q + 1 := ⟨k - 1, by omega⟩
      simp only [Cm.modn_Inverse.l0]
      have ed : divR o r = (ofN (o / r), ofN (o % r), 0) := by unfold divR; rw [if_neg h0, if_neg h0, if_neg h0]
      have lq : ln (o / r) ≤ K := Nat.le_trans (ln_div o r) ho
      rw [zero_pure (ok hr (by omega)), nI_ofN, Option.bind_some, decide_eq_false h0, if_neg (by decide), cm_div (ok ho (by omega)) (ok hr (by omega)), nI_ofN, nI_ofN, ed, Option.bind_some]
      simp only
      rw [mmul_pure (okN_ofN (by omega)) (okN_ofN (by have := hln _ hxt; omega)) (ok hl (by omega)), nI_ofN, nI_ofN, nI_ofN, modR_pos hn, Option.bind_some]
      simp only
      rw [minus_pure (okN_ofN (by have := hln _ hlt; omega)) (okN_ofN (by have := hln _ hm; omega)) (okN_ofN (by omega)), nI_ofN, nI_ofN, nI_ofN, Option.bind_some]
      exact h k (by omega)
def invR (a n : Nat) : List Int × Int := if n = 0 then ([], 11) else if Nat.gcd a n = 1 then (ofN (invN a n), 0) else ([], 30)
theorem inverse_pure {a n : List Int} (ha : okN 65536 a) (hn : okN 65536 n) : ∃ k0, ∀ k, k0 ≤ k → Cm.modn_Inverse.f k a n = some (invR (nI a) (nI n)) := by
  have hn' := hn.le (m' := 262144) (by omega)
  have hln := ln_nI hn
  obtain ⟨m, hm⟩ : ∃ m, nI n = m := ⟨_, rfl⟩
  obtain ⟨x, hx⟩ : ∃ x, nI a = x := ⟨_, rfl⟩
  rw [hm] at hln
  rcases Nat.eq_zero_or_pos m with h0 | h0
  · refine ⟨0, fun k _ => ?_⟩
    unfold Cm.modn_Inverse.f invR
    rw [zero_pure hn', Option.bind_some, hm, h0]
    rfl
  · have lm : okN 262144 (ofN m) := ok hln (by omega)
    have e1 := cm_of (n := 1) (by omega)
    rw [show ((1 : Nat) : Int) = 1 from rfl] at e1
    have cong1 : Cong m x 0 m := ⟨-1, by simp⟩
    have cong2 : Cong m x (1 % m) (x % m) := by
      have h1 := Nat.div_add_mod x m
      have h2 := Nat.div_add_mod 1 m
      refine ⟨(x / m : Nat) - (1 / m : Nat) * x, ?_⟩
      have h1' : ((x % m : Nat) : Int) = x - m * (x / m : Nat) := by have : ((m * (x / m) + x % m : Nat) : Int) = x := by rw [h1]
                                                                     rw [← this]; push_cast; omega
      have h2' : ((1 % m : Nat) : Int) = 1 - m * (1 / m : Nat) := by have : ((m * (1 / m) + 1 % m : Nat) : Int) = (1 : Nat) := by rw [h2]
                                                                     rw [← Int.natCast_one, ← this]; push_cast; omega
      rw [h1', h2']
      grind
    obtain ⟨k0, h⟩ := inverse_loop (a := x) (G := Nat.gcd x m) h0 (Nat.le_refl 65536) hln (x % m) m 0 (1 % m) hln (ln_modlt h0 hln) h0 (Nat.mod_lt _ h0) cong1 cong2
      (by rw [Nat.gcd_comm x m, Nat.gcd_rec m x, Nat.gcd_comm m])
    refine ⟨k0, fun k hk => ?_⟩
    unfold Cm.modn_Inverse.f invR
    rw [zero_pure hn', Option.bind_some, hm, hx, decide_eq_false (by omega), if_neg (by decide), cm_trim hn', Option.bind_some, hm, mod_pure (ha.le (by omega)) lm, nI_ofN, hx, modR_pos h0, Option.bind_some, e1, Option.bind_some, mod_pure (okS (by omega)) lm, nI_ofN, nI_ofN, modR_pos h0, Option.bind_some, if_neg (show ¬ m = 0 by omega)]
    simp only
    rw [← ofN_zero, h k hk]
    rw [ofN_zero]
end Go.Proofs.Ytdmglajfmfjmlaa
namespace Go.Proofs.Ytdmglajfmfjmlaa
set_option linter.unusedSimpArgs false
set_option linter.unusedVariables false
set_option maxRecDepth 100000
open Go.RowKit Go.Proofs.YtdmglajfmfjmlaaW.PrintWords Go.Proofs.YtdmglajfmfjmlaaW.PrintLast Go.Proofs.YtdmglajfmfjmlaaW.PrintMore
def twos (m : Nat) : Nat := if h : m = 0 ∨ m % 2 = 1 then 0 else twos (m / 2) + 1
termination_by m
decreasing_by omega
theorem twos_step {m : Nat} (h : m ≠ 0) (h' : m % 2 = 0) : twos m = twos (m / 2) + 1 := by rw [twos, dif_neg (by omega)]
theorem twos_odd {m : Nat} (h' : m % 2 = 1) : twos m = 0 := by rw [twos, dif_pos (by omega)]
theorem twos_spec {m : Nat} (h : m ≠ 0) : m = 2 ^ twos m * (m / 2 ^ twos m) ∧ m / 2 ^ twos m % 2 = 1 := by
  induction m using Nat.strongRecOn with
  | ind m ih =>
    by_cases ho : m % 2 = 1
    · rw [twos_odd ho]; simp [ho]
    · have h2 : m / 2 ≠ 0 := by omega
      obtain ⟨e1, e2⟩ := ih (m / 2) (by omega) h2
      rw [twos_step h (by omega), Nat.pow_succ, Nat.mul_comm _ 2, ← Nat.div_div_eq_div_mul]
      refine ⟨?_, e2⟩
      rw [Nat.mul_assoc, ← e1]; omega
theorem twos_lt {m : Nat} (h : m ≠ 0) : 2 ^ twos m ≤ m := by
  have := (twos_spec h).1
  rcases Nat.eq_zero_or_pos (m / 2 ^ twos m) with h0 | h0
  · rw [h0] at this; omega
  · have := Nat.mul_le_mul_left (2 ^ twos m) h0
    omega
theorem twos_bit {m j : Nat} (h : m ≠ 0) (hj : j < twos m) : m / 2 ^ j % 2 = 0 := by
  induction j generalizing m with
  | zero =>
    rcases Nat.mod_two_eq_zero_or_one m with h0 | h0
    · simpa using h0
    · rw [twos_odd h0] at hj; omega
  | succ j ih =>
    have h0 : m % 2 = 0 := by
      rcases Nat.mod_two_eq_zero_or_one m with h0 | h0
      · exact h0
      · rw [twos_odd h0] at hj; omega
    rw [twos_step h h0] at hj
    rw [Nat.pow_succ, Nat.mul_comm _ 2, ← Nat.div_div_eq_div_mul]
    exact ih (by omega) (by omega)
def sqs (b m : Nat) : Nat → Nat → Bool
  | 0, _ => false
  | s + 1, e => powM b e m == m - 1 || sqs b m s (2 * e)
def tellsN (n b : Nat) : Bool :=
  if n < 2 then true else if n = 2 then false else if n % 2 = 0 then true else
    if b % n = 0 then false else if powM b ((n - 1) / 2 ^ twos (n - 1)) n = 1 then false else !sqs b n (twos (n - 1)) ((n - 1) / 2 ^ twos (n - 1))
def primeN (n : Nat) (bs : List Nat) : Bool := if n < 2 then false else bs.all fun b => !tellsN n b
theorem tells_l1 {m b : Nat} (hm : 1 < m) (hl : ln m ≤ 1024) : ∀ (s e i S : Nat), i + s = S → S ≤ 65536 → ∀ k, s < k →
    Cm.modn_Tells.l1 k (ofN m) (ofN (m - 1)) (ofN (powM b e m)) (S : Int) (i : Int) = some (!sqs b m s e) := by
  intro s
  induction s with
  | zero =>
    intro e i S hi _ k hk
    obtain ⟨k, rfl⟩ : ∃ q, k = q + 1 := ⟨k - 1, by omega⟩
    simp only [Cm.modn_Tells.l1]
    rw [if_neg (by omega)]; rfl
  | succ s ih =>
    intro e i S hi hS k hk
    obtain ⟨k, rfl⟩ : ∃ q, k = q + 1 := ⟨k - 1, by omega⟩
    have hm0 : 0 < m := by omega
    have lm : okN 262144 (ofN m) := ok hl (by omega)
    have lp : ∀ f, ln (powM b f m) ≤ 1024 := fun f => ln_modlt hm0 hl
    have l1 : ln (m - 1) ≤ 1024 := Nat.le_trans (ln_mono (by omega)) hl
    simp only [Cm.modn_Tells.l1]
    rw [if_pos (by omega), cm_cmp (ok (lp e) (by omega)) (ok l1 (by omega)), nI_ofN, nI_ofN, Option.bind_some]
    unfold sqs
    by_cases h : powM b e m = m - 1
    · rw [cmpN_eq h, if_pos rfl, h]; simp
    · have hc : cmpN (powM b e m) (m - 1) ≠ 0 := by
        unfold cmpN; split
        · omega
        · rw [if_pos (by omega)]; omega
      rw [if_neg hc, mmul_pure (okN_ofN (by have := lp e; omega)) (okN_ofN (by have := lp e; omega)) lm, nI_ofN, nI_ofN, modR_pos hm0, Option.bind_some]
      have hw : wrap64 ((i : Int) + 1) = ((i + 1 : Nat) : Int) := by rw [wr (by omega) (by omega)]; omega
      have hb : (powM b e m == m - 1) = false := by simpa using h
      simp only
      rw [powM_sq, hw, ih (2 * e) (i + 1) S (by omega) hS k (by omega), hb, Bool.false_or]
theorem tells_l0 {m b : Nat} (hb64 : b < 18446744073709551616) (hm : 2 < m) (ho : m % 2 = 1) (hl : ln m ≤ 1024) : ∀ (d j : Nat), j + d = twos (m - 1) → ∃ k0, ∀ k, k0 ≤ k →
    Cm.modn_Tells.l0 k (ofN m) (b : Int) (ofN (m - 1)) (j : Int) = some (if b % m = 0 then false else if powM b ((m - 1) / 2 ^ twos (m - 1)) m = 1 then false else !sqs b m (twos (m - 1)) ((m - 1) / 2 ^ twos (m - 1))) := by
  have hm0 : 0 < m := by omega
  have h0 : m - 1 ≠ 0 := by omega
  have lm : okN 262144 (ofN m) := ok hl (by omega)
  have l1 : ln (m - 1) ≤ 1024 := Nat.le_trans (ln_mono (by omega)) hl
  have ts : twos (m - 1) ≤ 65536 := by
    have h1 := twos_lt h0
    have h2 : blen (m - 1) ≤ 65536 := Nat.le_trans (blen_of_ln l1) (by omega)
    have h3 := lt_blen (m - 1)
    rcases Nat.lt_or_ge (twos (m - 1)) (blen (m - 1)) with h | h
    · omega
    · have := Nat.pow_le_pow_right (show 0 < 2 by omega) h
      omega
  intro d
  induction d with
  | zero =>
    intro j hj
    obtain rfl : j = twos (m - 1) := by omega
    have hbit := (twos_spec h0).2
    have lsh : ln ((m - 1) / 2 ^ twos (m - 1)) ≤ 1024 := Nat.le_trans (ln_div _ _) l1
    have e1 := cm_of (n := 1) (by omega)
    rw [show ((1 : Nat) : Int) = 1 from rfl] at e1
    have hw : wrap64 (-((twos (m - 1) : Nat) : Int)) = -((twos (m - 1) : Nat) : Int) := wr (by omega) (by omega)
    have hsh : shiftN (m - 1) (-((twos (m - 1) : Nat) : Int)) = (m - 1) / 2 ^ twos (m - 1) := by
      unfold shiftN
      by_cases hz : twos (m - 1) = 0
      · rw [hz, show -((0 : Nat) : Int) = 0 from rfl, if_pos (by omega), show (min (0 : Int) 65536).toNat = 0 from rfl, Nat.pow_zero, Nat.mul_one, Nat.div_one]
      · rw [if_neg (by omega), Int.neg_neg]
        have : (min ((twos (m - 1) : Nat) : Int) 65536).toNat = twos (m - 1) := by omega
        rw [this]
    refine ⟨blen ((m - 1) / 2 ^ twos (m - 1)) + twos (m - 1) + 3, fun k hk => ?_⟩
    obtain ⟨k, rfl⟩ : ∃ q, k = q + 1 := ⟨k - 1, by omega⟩
    simp only [Cm.modn_Tells.l0]
    rw [cm_bit (ok l1 (by omega)) (by omega), nI_ofN, Option.bind_some, hbit, if_neg (by decide), cm_of hb64, Option.bind_some, mod_pure (okS hb64) lm, nI_ofN, nI_ofN, modR_pos hm0, Option.bind_some]
    simp only
    rw [zero_pure (ok (ln_modlt hm0 hl) (by omega)), nI_ofN, Option.bind_some]
    by_cases hb : b % m = 0
    · rw [decide_eq_true hb, if_pos rfl, if_pos hb]
    · rw [decide_eq_false hb, if_neg (by decide), if_neg hb, hw, cm_shift (ok l1 (by omega)), Option.bind_some, nI_ofN, hsh,
        pow_pure (okN_ofN (by have : ln (b % m) ≤ 1024 := ln_modlt hm0 hl
                              omega)) (okN_ofN (by omega)) (okN_ofN hl) k (by rw [nI_ofN]; omega), nI_ofN, nI_ofN, nI_ofN, Option.bind_some, if_neg (show ¬ m = 0 by omega), if_neg (show ¬ m = 0 by omega), powM_mod]
      simp only
      have lpw : okN 262144 (ofN (powM b ((m - 1) / 2 ^ twos (m - 1)) m)) := ok (ln_modlt hm0 hl) (by omega)
      rw [e1, Option.bind_some, cm_cmp lpw (okS (by omega)), nI_ofN, nI_ofN, Option.bind_some]
      by_cases h1 : powM b ((m - 1) / 2 ^ twos (m - 1)) m = 1
      · rw [cmpN_eq h1, if_pos rfl, if_pos h1]
      · have hc : cmpN (powM b ((m - 1) / 2 ^ twos (m - 1)) m) 1 ≠ 0 := by
          unfold cmpN; split
          · omega
          · rw [if_pos (by omega)]; omega
        rw [if_neg hc, if_neg h1]
        exact tells_l1 (by omega) hl _ _ 0 _ (by omega) ts k (by omega)
  | succ d ih =>
    intro j hj
    obtain ⟨k0, h⟩ := ih (j + 1) (by omega)
    refine ⟨k0 + 1, fun k hk => ?_⟩
    obtain ⟨k, rfl⟩ : ∃ q, k = q + 1 := ⟨k - 1, by omega⟩
    have hj1 : j ≤ 9223372036854775807 := by omega
    have hj2 : j < twos (m - 1) := by omega
    have lm1 : okN 262144 (ofN (m - 1)) := ok l1 (by omega)
    have hkk : k0 ≤ k := by omega
    have hw : wrap64 ((j : Int) + 1) = ((j + 1 : Nat) : Int) := by rw [wr (by omega) (by omega)]; omega
    simp only [Cm.modn_Tells.l0]
    rw [cm_bit lm1 hj1, nI_ofN, Option.bind_some, twos_bit h0 hj2, if_pos (show ((0 : Nat) : Int) = 0 from rfl), hw]
    exact h k hkk
theorem tells_pure {n : List Int} (hn : okN 1024 n) {b : Nat} (hb : b < 18446744073709551616) : ∃ k0, ∀ k, k0 ≤ k → Cm.modn_Tells.f k n (b : Int) = some (tellsN (nI n) b) := by
  have hn' := hn.le (m' := 262144) (by omega)
  have hln := ln_nI hn
  obtain ⟨m, hm⟩ : ∃ m, nI n = m := ⟨_, rfl⟩
  rw [hm] at hln
  have lm : okN 262144 (ofN m) := ok hln (by omega)
  have e2 := cm_of (n := 2) (by omega)
  rw [show ((2 : Nat) : Int) = 2 from rfl] at e2
  have e1 := cm_of (n := 1) (by omega)
  rw [show ((1 : Nat) : Int) = 1 from rfl] at e1
  rcases Nat.lt_trichotomy m 2 with h | h | h
  · refine ⟨0, fun k _ => ?_⟩
    unfold Cm.modn_Tells.f tellsN
    rw [cm_trim hn', hm, Option.bind_some, e2, Option.bind_some, cm_cmp lm (okS (by omega)), nI_ofN, nI_ofN, Option.bind_some, cmpN_lt h, if_pos (by decide), if_pos h]
    rfl
  · refine ⟨0, fun k _ => ?_⟩
    unfold Cm.modn_Tells.f tellsN
    rw [cm_trim hn', hm, Option.bind_some, e2, Option.bind_some, cm_cmp lm (okS (by omega)), nI_ofN, nI_ofN, Option.bind_some, cmpN_eq h, if_pos (by decide), if_neg (by omega), if_pos h]
    rfl
  · have hpar : m % 18446744073709551616 % 2 = m % 2 := by omega
    by_cases ho : m % 2 = 1
    · obtain ⟨k0, hk⟩ := tells_l0 hb h ho hln (twos (m - 1)) 0 (by omega)
      refine ⟨k0, fun k hk0 => ?_⟩
      have hk' := hk k hk0
      rw [show ((0 : Nat) : Int) = 0 from rfl] at hk'
      unfold Cm.modn_Tells.f tellsN
      rw [cm_trim hn', hm, Option.bind_some, e2, Option.bind_some, cm_cmp lm (okS (by omega)), nI_ofN, nI_ofN, Option.bind_some, cmpN_gt h, if_neg (by decide), ofN_length, if_pos (by have := ln_pos (show m ≠ 0 by omega); omega), lead_odd (by omega), nv_bits_and _ (Nat.mod_lt _ (by omega)), hpar, ho, if_neg (by decide), e1, Option.bind_some, cm_sub lm (okS (by omega)), nI_ofN, nI_ofN, Option.bind_some]
      simp only
      rw [hk', if_neg (show ¬ m < 2 by omega), if_neg (show ¬ m = 2 by omega), if_neg (show ¬ (1 : Nat) = 0 by decide)]
    · refine ⟨0, fun k _ => ?_⟩
      unfold Cm.modn_Tells.f tellsN
      rw [cm_trim hn', hm, Option.bind_some, e2, Option.bind_some, cm_cmp lm (okS (by omega)), nI_ofN, nI_ofN, Option.bind_some, cmpN_gt h, if_neg (by decide), ofN_length, if_pos (by have := ln_pos (show m ≠ 0 by omega); omega), lead_odd (by omega), nv_bits_and _ (Nat.mod_lt _ (by omega)), hpar, if_pos (by rw [show m % 2 = 0 by omega]; rfl), if_neg (show ¬ m < 2 by omega), if_neg (show ¬ m = 2 by omega), if_pos (show m % 2 = 0 by omega)]
end Go.Proofs.Ytdmglajfmfjmlaa
namespace Go.Proofs.Ytdmglajfmfjmlaa
set_option linter.unusedSimpArgs false
set_option linter.unusedVariables false
set_option maxRecDepth 100000
open Go.RowKit Go.Proofs.YtdmglajfmfjmlaaW.PrintWords Go.Proofs.YtdmglajfmfjmlaaW.PrintLast Go.Proofs.YtdmglajfmfjmlaaW.PrintMore
def powR (a e n : Nat) : List Int × Int := (ofN (if n = 0 then 0 else powM a e n), if n = 0 then 11 else 0)
theorem powR_pos {a e n : Nat} (h : n ≠ 0) : powR a e n = (ofN (powM a e n), 0) := by unfold powR; rw [if_neg h, if_neg h]
theorem invR_pos {a n : Nat} (h : n ≠ 0) (h' : Nat.gcd a n = 1) : invR a n = (ofN (invN a n), 0) := by unfold invR; rw [if_neg h, if_pos h']
section
variable {A0 A1 A2 : Option Addr} {c0 c1 c2 : Nat} {l0 l1 l2 : List Int} {w : World}
theorem mod_giv {r1 : List Int} {r2 : Int} (hr0 : Kd.C (Kd.int .u64) w A0 l0.length l0) (hc0 : l0.length ≤ c0) (hr1 : Kd.C (Kd.int .u64) w A1 l1.length l1) (hc1 : l1.length ≤ c1) (h : (if okN 262144 l0 ∧ okN 262144 l1 then some (modR (nI l0) (nI l1)) else none) = some (r1, r2)) :
    Calls Try.prog 36 #[.slice A0 l0.length c0, .slice A1 l1.length c1] w fun e w' => ∃ v0_ : Value, e = .returned (.tuple #[v0_, .int .i64 r2]) ∧ Kd.R (Kd.int .u64) 40 w' w.heap.size (fun _ => True) v0_ r1 ∧ Below w.heap.size w w' := by
  obtain ⟨⟨h0, h1⟩, h⟩ := of_ite h
  exact Cm.modn_Mod.calls _ _ _ _ _ _ _ _ _ hr0 hc0 hr1 hc1 ((mod_pure h0 h1).trans (congrArg some h))
theorem pow_giv {r1 : List Int} {r2 : Int} (hr0 : Kd.C (Kd.int .u64) w A0 l0.length l0) (hc0 : l0.length ≤ c0) (hr1 : Kd.C (Kd.int .u64) w A1 l1.length l1) (hc1 : l1.length ≤ c1) (hr2 : Kd.C (Kd.int .u64) w A2 l2.length l2) (hc2 : l2.length ≤ c2) (h : (if okN 4096 l0 ∧ okN 4096 l1 ∧ okN 1024 l2 then some (powR (nI l0) (nI l1) (nI l2)) else none) = some (r1, r2)) :
    Calls Try.prog 21 #[.slice A0 l0.length c0, .slice A1 l1.length c1, .slice A2 l2.length c2] w fun e w' => ∃ v0_ : Value, e = .returned (.tuple #[v0_, .int .i64 r2]) ∧ Kd.R (Kd.int .u64) 40 w' w.heap.size (fun _ => True) v0_ r1 ∧ Below w.heap.size w w' := by
  obtain ⟨⟨h0, h1, h2⟩, h⟩ := of_ite h
  exact Cm.modn_Pow.calls (blen (nI l1) + 1) _ _ _ _ _ _ _ _ _ _ _ _ hr0 hc0 hr1 hc1 hr2 hc2 ((pow_pure h0 h1 h2 _ (by omega)).trans (congrArg some h))
theorem inverse_giv {r1 : List Int} {r2 : Int} (hr0 : Kd.C (Kd.int .u64) w A0 l0.length l0) (hc0 : l0.length ≤ c0) (hr1 : Kd.C (Kd.int .u64) w A1 l1.length l1) (hc1 : l1.length ≤ c1) (h : (if okN 65536 l0 ∧ okN 65536 l1 then some (invR (nI l0) (nI l1)) else none) = some (r1, r2)) :
    Calls Try.prog 77 #[.slice A0 l0.length c0, .slice A1 l1.length c1] w fun e w' => ∃ v0_ : Value, e = .returned (.tuple #[v0_, .int .i64 r2]) ∧ Kd.R (Kd.int .u64) 40 w' w.heap.size (fun _ => True) v0_ r1 ∧ Below w.heap.size w w' := by
  obtain ⟨⟨h0, h1⟩, h⟩ := of_ite h
  obtain ⟨k, hk⟩ := inverse_pure h0 h1
  exact Cm.modn_Inverse.calls k _ _ _ _ _ _ _ _ _ hr0 hc0 hr1 hc1 ((hk k (Nat.le_refl _)).trans (congrArg some h))
theorem tells_giv {a1 : Int} {r : Bool} (hr0 : Kd.C (Kd.int .u64) w A0 l0.length l0) (hc0 : l0.length ≤ c0) (h : (if okN 1024 l0 ∧ 0 ≤ a1 ∧ a1 < 18446744073709551616 then some (tellsN (nI l0) a1.toNat) else none) = some r) :
    Calls Try.prog 107 #[.slice A0 l0.length c0, .int .u64 a1] w fun e w' => e = .returned (.bool r) ∧ Below w.heap.size w w' := by
  obtain ⟨⟨h0, h1, h2⟩, rfl⟩ := of_ite h
  obtain ⟨b, rfl⟩ : ∃ b : Nat, a1 = b := ⟨a1.toNat, by omega⟩
  obtain ⟨k, hk⟩ := tells_pure h0 (b := b) (by omega)
  exact Cm.modn_Tells.calls k _ _ _ _ _ _ hr0 hc0 (hk k (Nat.le_refl _))
end
end Go.Proofs.Ytdmglajfmfjmlaa
namespace Go.Proofs.Ytdmglajfmfjmlaa
set_option linter.unusedSimpArgs false
set_option linter.unusedVariables false
set_option maxRecDepth 100000
open Go.RowKit Go.Proofs.YtdmglajfmfjmlaaW.PrintWords Go.Proofs.YtdmglajfmfjmlaaW.PrintLast
theorem lit_any (w : World) {A : Option Addr} {c g b : Nat} {l : List Int} (hc : Kd.C (Kd.int .u64) w A l.length l) (hlc : l.length ≤ c) (ho : okN 1024 l) (hb : b < 18446744073709551616) (hcell : w.cell? ⟨g, 0, none⟩ = some (.slice A l.length c)) :
    Calls Try.prog 106 #[.int .u64 b, .pointer (some ⟨g, 0, none⟩)] w fun e w' => e = .returned (.bool (tellsN (nI l) b)) ∧ Below w.heap.size w w' := by
  have HT := Lib.hid (tells_giv (a1 := (b : Int)) (r := tellsN (nI l) b) hc hlc (by rw [if_pos ⟨ho, by omega, by omega⟩, Int.toNat_natCast]))
  clear hc ho
  go_enter Try.func106, Try.ntmps106
  go_wp2_with fail
  refine HT.out.mono ?_
  rintro e w' ⟨rfl, hbel⟩
  go_wp2_with fail
  go_ret
  exact ⟨rfl, hbel⟩
def firstT (n : Nat) : List Nat → Nat → Int
  | [], _ => -1
  | b :: bs, i => if tellsN n b then (i : Int) else firstT n bs (i + 1)
theorem firstT_neg (n : Nat) (bs : List Nat) : ∀ i, (decide (0 ≤ firstT n bs i)) = bs.any (tellsN n) := by
  induction bs with
  | nil => intro i; rfl
  | cons b bs ih =>
    intro i
    unfold firstT
    rw [List.any_cons]
    cases h : tellsN n b
    · rw [if_neg (by simp), ih]; rfl
    · rw [if_pos rfl]; simp
theorem firstT_drop {n : Nat} {bs : List Nat} {k : Nat} (h : k < bs.length) : firstT n (bs.drop k) k = if tellsN n (gd bs k) then (k : Int) else firstT n (bs.drop (k + 1)) (k + 1) := by
  rw [List.drop_eq_getElem_cons h, gd_lt h]; rfl
structure PrW (w : World) (A : Option Addr) (c g : Nat) (l : List Int) : Prop where
  rd : Kd.C (Kd.int .u64) w A l.length l
  cap : l.length ≤ c
  ok : okN 1024 l
  box : w.cell? ⟨g, 0, none⟩ = some (.slice A l.length c)
  lt : g < w.heap.size
theorem PrW.below {w w' : World} {A : Option Addr} {c g : Nat} {l : List Int} (h : PrW w A c g l) (hb : Below w.heap.size w w') : PrW w' A c g l :=
  ⟨Kd.C_below h.rd hb, h.cap, h.ok, (hb.cell (p := ⟨g, 0, none⟩) h.lt).trans h.box, Nat.lt_of_lt_of_le h.lt hb.size⟩
set_option maxHeartbeats 400000 in
theorem index_any (w : World) {A B : Option Addr} {c g n d : Nat} {l : List Int} {bs : List Nat} (h : PrW w A c g l) (hb : Rd .u64 w B n d bs) (bb : B64 bs) (hn : n ≤ 1099511627776) :
    Calls Try.prog 124 #[.slice B n d, .func (.func 106) #[] #[.pointer (some ⟨g, 0, none⟩)]] w fun e w' => e = .returned (.int .i64 (firstT (nI l) bs 0)) ∧ Below w.heap.size w w' := by
  have H := Lib.hid h
  have HB := Lib.hid hb
  have BB := Lib.hid bb
  have hmax := hb.max
  have hcap := hb.cap
  clear h hb bb
  go_enter Try.func124, Try.ntmps124
  go_wp2_with fail
  go_loopw [8] (fun i wr => ∃ k : Nat, k ≤ n ∧ i = .int .i64 (k : Int) ∧ Below w.heap.size w wr ∧ firstT (nI l) (bs.drop k) k = firstT (nI l) bs 0) (fun i _ => n - (intOf i).toNat)
  case atStart => exact ⟨0, Nat.zero_le _, rfl, Below.refl _ _, rfl⟩
  case round =>
    obtain ⟨k, hk, rfl, hbel, hf⟩ := hrel
    have HBEL := Lib.hid hbel
    have HF := Lib.hid hf
    clear hf
    by_cases hlt : k < n
    · obtain ⟨ad, rfl, hab, hac⟩ := (HB.out.below hbel).form (by omega)
      have hx := hac k hlt
      obtain ⟨b, hb⟩ : ∃ b, gd bs k = b := ⟨_, rfl⟩
      rw [hb] at hx
      have hb64 : b < 18446744073709551616 := by rw [← hb]; exact BB.out.gd k
      have HST := Lib.hid (firstT_drop (n := nI l) (bs := bs) (k := k) (by rw [HB.out.len]; exact hlt))
      have HP := Lib.hid (H.out.below HBEL.out)
      have HGB := Lib.hid hb
      clear hac hbel hb
      have HL := Lib.hid (lit_any wr HP.out.rd HP.out.cap HP.out.ok hb64 HP.out.box)
      by_cases htl : tellsN (nI l) b = true
      · have HTL := Lib.hid htl
        rw [htl] at HL
        clear htl
        go_wp2_with fail
        refine HL.out.mono ?_
        rintro e w1 ⟨rfl, hb1⟩
        have HB1 := Lib.hid (HBEL.out.trans (hb1.mono HBEL.out.size))
        clear hb1
        go_wp2_with fail
        go_ret
        refine ⟨?_, HB1.out⟩
        rw [← HF.out, HST.out, HGB.out, if_pos HTL.out]; rfl
      · have htl' : tellsN (nI l) b = false := by simpa using htl
        have HTL := Lib.hid htl'
        rw [htl'] at HL
        clear htl htl'
        go_wp2_with fail
        refine HL.out.mono ?_
        rintro e w1 ⟨rfl, hb1⟩
        have HB1 := Lib.hid (HBEL.out.trans (hb1.mono HBEL.out.size))
        clear hb1
        go_wp2_with fail
        refine ⟨⟨k + 1, by omega, by go_num, HB1.out, ?_⟩, by simp [intOf]; omega⟩
        rw [← HF.out, HST.out, HGB.out, HTL.out]; rfl
    · obtain rfl : n = k := by omega
      have HZ := Lib.hid (show firstT (nI l) bs 0 = -1 by rw [← HF.out, List.drop_eq_nil_of_le (by rw [HB.out.len]; exact Nat.le_refl _)]; rfl)
      clear hbel
      go_wp2_with fail
      go_ret
      exact ⟨by rw [HZ.out]; rfl, HBEL.out⟩
theorem contains_any (w : World) {A B : Option Addr} {c g n d : Nat} {l : List Int} {bs : List Nat} (h : PrW w A c g l) (hb : Rd .u64 w B n d bs) (bb : B64 bs) (hn : n ≤ 1099511627776) :
    Calls Try.prog 105 #[.slice B n d, .func (.func 106) #[] #[.pointer (some ⟨g, 0, none⟩)]] w fun e w' => e = .returned (.bool (bs.any (tellsN (nI l)))) ∧ Below w.heap.size w w' := by
  have HI := Lib.hid (index_any w h hb bb hn)
  have HN := Lib.hid (firstT_neg (nI l) bs 0)
  obtain ⟨z, hz⟩ : ∃ z, firstT (nI l) bs 0 = z := ⟨_, rfl⟩
  rw [hz] at HI HN
  clear h hb bb hz
  go_enter Try.func105, Try.ntmps105
  go_wp2_with fail
  refine HI.out.mono ?_
  rintro e w1 ⟨rfl, hb1⟩
  go_wp2_with fail
  go_ret
  exact ⟨by rw [← HN.out]; rfl, hb1⟩
set_option maxHeartbeats 1000000 in
theorem prime_any (w : World) {A B : Option Addr} {c n d : Nat} {l : List Int} {bs : List Nat} (hc : Kd.C (Kd.int .u64) w A l.length l) (hlc : l.length ≤ c) (ho : okN 1024 l) (hb : Rd .u64 w B n d bs) (bb : B64 bs) (hn : n ≤ 1099511627776) :
    Calls Try.prog 70 #[.slice A l.length c, .slice B n d] w fun e w' => e = .returned (.bool (primeN (nI l) bs)) ∧ Below w.heap.size w w' := by
  have hP0 : PrW (w.alloc (.cells #[.slice A l.length c] 24)).drew A c w.heap.size l :=
    ⟨Kd.C_drew (Kd.C_alloc hc _), hlc, ho, ((Bk.new w 24 #[.slice A l.length c]).cell 0).trans rfl, by simp⟩
  have S0 := hP0.box
  have HP := Lib.hid hP0
  have B0 : Below w.heap.size w (w.alloc (.cells #[.slice A l.length c] 24)).drew := by (repeat (first | (with_reducible exact Below.refl _ _) | (with_reducible assumption) | (with_reducible refine Below.drew ?_) | (with_reducible refine below_drewN ?_ _) | ((with_reducible refine Below.setCell ?_ (p := ⟨_, _, _⟩) ?_ _); rotate_left; (simp <;> omega)) | ((with_reducible refine Below.alloc ?_ ?_ _); rotate_left; (simp <;> omega)) | ((with_reducible refine Below.trans ?_ (Below.mono (by with_reducible assumption) ?_)); rotate_left; (simp <;> omega))))
  have hs0 : (w.alloc (.cells #[.slice A l.length c] 24)).drew.heap.size = w.heap.size + 1 := by simp
  have HB := Lib.hid hb
  have BB := Lib.hid bb
  have HO := Lib.hid (show Calls Try.prog 22 #[.int .u64 2] (w.alloc (.cells #[.slice A l.length c] 24)).drew (RetN 2 (w.alloc (.cells #[.slice A l.length c] 24)).drew) from of_any _ 2 (by omega))
  have hlen := ho.1
  have HCMP := Lib.hid (fun (W : World) (hW : PrW W A c w.heap.size l) (A1 : Option Addr) (c1 : Nat) (h1 : NA W A1 (ln 2) c1 2) => cmp_any W (na_of_C hW.rd hW.cap hW.ok) h1 (by omega) (Nat.le_trans (ln_small (by omega)) (by omega)))
  obtain ⟨z, hz⟩ : ∃ z, cmpN (nI l) 2 = z := ⟨_, rfl⟩
  rw [hz] at HCMP
  have hz2 : (z < 0) ↔ nI l < 2 := by
    rw [← hz]; unfold cmpN
    constructor
    · intro h
      by_cases h1 : nI l < 2
      · exact h1
      · rw [if_neg h1] at h; split at h <;> omega
    · intro h; rw [if_pos h]; omega
  have HZ := Lib.hid hz2
  clear hc ho hb bb hP0 hz hz2
  go_enter Try.func70, Try.ntmps70
  go_wp2_with fail
  go_region_held3 (fun w' => w'.cell? ⟨w.heap.size, 0, none⟩ = some (.slice A l.length c))
    (with_reducible assumption)
    ((first | (go_at_call 22; (with_reducible refine HO.out.mono ?_); rintro e w1 ⟨A1, c1, rfl, ho1, hb1⟩; have hp1 := HP.out.below hb1; have S1 := hp1.box) | (go_at_call 33; refine (HCMP.out _ hp1 A1 c1 ho1.na).mono ?_; rintro e w2 ⟨rfl, rfl⟩)))
  have HB1 := Lib.hid (B0.trans (hb1.mono (by simp)))
  have HP1 := Lib.hid hp1
  clear S0 S1 hb1 ho1 B0 hp1
  by_cases h2 : nI l < 2
  · have hzd : z < 0 := HZ.out.2 h2
    have HPR := Lib.hid (show primeN (nI l) bs = false by unfold primeN; rw [if_pos h2])
    clear h2
    go_wp2_with fail
    go_ret
    exact ⟨by rw [HPR.out]; rfl, HB1.out⟩
  · have hzd : ¬ z < 0 := fun h => h2 (HZ.out.1 h)
    have HC := Lib.hid (contains_any w1 HP1.out (HB.out.below HB1.out) BB.out hn)
    have HPR := Lib.hid (show primeN (nI l) bs = !(bs.any (tellsN (nI l))) by unfold primeN; rw [if_neg h2, List.not_any_eq_all_not])
    obtain ⟨q, hq⟩ : ∃ q, bs.any (tellsN (nI l)) = q := ⟨_, rfl⟩
    rw [hq] at HC HPR
    clear h2 hq
    go_wp2_with fail
    refine HC.out.mono ?_
    rintro e w2 ⟨rfl, hb2⟩
    have HB2 := Lib.hid (HB1.out.trans (hb2.mono HB1.out.size))
    clear hb2
    go_wp2_with fail
    go_ret
    exact ⟨by rw [HPR.out]; rfl, HB2.out⟩
theorem prime_giv {A0 A1 : Option Addr} {c0 c1 : Nat} {l0 l1 : List Int} {w : World} {r : Bool} (hr0 : Kd.C (Kd.int .u64) w A0 l0.length l0) (hc0 : l0.length ≤ c0) (hr1 : Kd.C (Kd.int .u64) w A1 l1.length l1) (hc1 : l1.length ≤ c1) (h : (if okN 1024 l0 ∧ okN 1048576 l1 then some (primeN (nI l0) (toN l1)) else none) = some r) :
    Calls Try.prog 70 #[.slice A0 l0.length c0, .slice A1 l1.length c1] w fun e w' => e = .returned (.bool r) ∧ Below w.heap.size w w' := by
  obtain ⟨⟨h0, h1⟩, rfl⟩ := of_ite h
  exact prime_any w hr0 hc0 h0 (rd_of_C hr1 hc1 h1) h1.b64 (by have := h1.1; omega)
end Go.Proofs.Ytdmglajfmfjmlaa
namespace Go.Proofs.Ytdmglajfmfjmlaa.Ck
open Go.RowKit Go.Proofs.YtdmglajfmfjmlaaW.PrintWords Go.Proofs.YtdmglajfmfjmlaaW.PrintLast Go.Proofs.YtdmglajfmfjmlaaW.PrintMore
attribute [local go_sem] max2_int min2_int max_two min_two max_three min_three max_four min_four   -- for this text's walks alone
set_option linter.unusedVariables false
set_option linter.unusedSimpArgs false
def errW : Option Int → Value
  | none => .nilIface
  | some c => .iface 0 (.int .i64 c)
theorem errW_none : errW none = .nilIface := rfl
theorem errW_some (c : Int) : errW (some c) = .iface 0 (.int .i64 c) := rfl
theorem info40 : (Try.prog.info? 40).map (fun i => (i.zero, i.size, i.bytes)) = some (some (.int .u64 0), 1, 8) := by kernel_rfl
end Go.Proofs.Ytdmglajfmfjmlaa.Ck
