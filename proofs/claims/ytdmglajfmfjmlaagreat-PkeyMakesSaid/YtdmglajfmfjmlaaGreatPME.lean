/- Texts of this claim, joined: what its laws use. -/
import Derived.Test.YtdmglajfmfjmlaaGreatPMD
import Derived.Test.YtdmglajfmfjmlaaGreatProg
import Derived.Below
import Derived.Deep.Draws
import Derived.Deep.AppendLies
import Derived.Maps.AppendAt
import Derived.OwnWalk
import Derived.Laws.BytesArg
import Derived.Laws.MakeOwn
import Derived.Laws.OwnMore
import Derived.Deep.OwnRows
import Derived.Tactics
import Derived.Lib.ConvBytes
import Derived.Laws.Slices
import Derived.WalkKit
import Derived.KernelRfl
import Derived.RowKit3
import Derived.Deep.LoopGhost
import Derived.Deep.QuietTactic
import Derived.BigQuiet
import Derived.WideLaws
import Derived.Deep.DeepCutAuto
import Derived.Deep.CutBlock
import Derived.Deep.RegionHeld3
import Derived.Laws.Rows
import Derived.Lib.AppendStr
import Derived.ArgAppend
import Derived.Laws.IdiomCopy
import Derived.OrdersHeld
import Derived.Laws.BitsLemmas
import Derived.RowKit
namespace Go.Proofs.YtdmglajfmfjmlaaGreat.Cq
open Go.RowKit Go.Proofs.YtdmglajfmfjmlaaGreatW.PrintWords Go.Proofs.YtdmglajfmfjmlaaGreatW.PrintLast Go.Proofs.YtdmglajfmfjmlaaGreatW.PrintMore
attribute [local go_sem] max2_int min2_int max_two min_two max_three min_three max_four min_four   -- for this text's walks alone
set_option linter.unusedVariables false
set_option linter.unusedSimpArgs false
def clepsydraref03_Number.l0 : Nat → List Int → List Int → Int → Option (List Int)
 | 0, _, _, _ => none
 | k + 1, x0, x3, x4 => if x4 < (x0.length : Int) then (if (Int.tmod x4 4) = 0 then (if x3.length < 17592186044416 then ((some (x3 ++ [0] : List Int)).bind fun y118 => (if 0 ≤ (wrap64 (Int.tdiv x4 4)) then (if (wrap64 (Int.tdiv x4 4)) < (y118.length : Int) then (if 0 ≤ x4 then (if 0 ≤ (IntKind.u64.wrap (wrap64 (16 * (Int.tmod x4 4)))) then (clepsydraref03_Number.l0 k x0 (y118.set ((wrap64 (Int.tdiv x4 4)) : Int).toNat (IntKind.u64.wrap ((rd y118 (wrap64 (Int.tdiv x4 4))) + (shl .u64 (IntKind.u64.wrap (rd x0 x4)) (IntKind.u64.wrap (wrap64 (16 * (Int.tmod x4 4)))))))) (wrap64 (x4 + 1))) else (none)) else (none)) else (none)) else (none))) else (none)) else (if 0 ≤ (wrap64 (Int.tdiv x4 4)) then (if (wrap64 (Int.tdiv x4 4)) < (x3.length : Int) then (if 0 ≤ x4 then (if 0 ≤ (IntKind.u64.wrap (wrap64 (16 * (Int.tmod x4 4)))) then (clepsydraref03_Number.l0 k x0 (x3.set ((wrap64 (Int.tdiv x4 4)) : Int).toNat (IntKind.u64.wrap ((rd x3 (wrap64 (Int.tdiv x4 4))) + (shl .u64 (IntKind.u64.wrap (rd x0 x4)) (IntKind.u64.wrap (wrap64 (16 * (Int.tmod x4 4)))))))) (wrap64 (x4 + 1))) else (none)) else (none)) else (none)) else (none))) else (some x3)
def clepsydraref03_Number.f (k : Nat) (l0 : List Int) : Option (List Int) := (clepsydraref03_cut.f k l0).bind fun t115 => (clepsydraref03_Number.l0 k t115 ([] : List Int) 0)
def clepsydraref03_Number.T8 : Bool × List (List Nat × List Nat) := (true, [([], []), ([], []), ([1], [1]), ([], []), ([], []), ([4], [4]), ([3, 5], [3, 5]), ([6], [6]), ([], []), ([], []), ([8, 9], [8, 9]), ([10], [10]), ([11], [11]), ([], []), ([13], [13]), ([14], [14]), ([15], [15]), ([12, 16], [12, 16]), ([7, 17], [7, 17]), ([0, 2, 0, 1, 2, 3, 4, 5, 6, 7, 8, 9, 10, 11, 12, 13, 14, 15, 16, 17, 18], [0, 2]), ([19, 18, 0, 1, 2, 3, 4, 5, 6, 7, 8, 9, 10, 11, 12, 13, 14, 15, 16, 17, 18], [18, 19])])
def clepsydraref03_Number.B8 : List Nat := [0, 0, 2, 0, 0, 16, 56, 120, 0, 0, 768, 1792, 3840, 0, 8192, 24576, 57344, 130816, 262136, 524287, 1048575]
theorem clepsydraref03_Number.tab8 : rtab .any (opsOf Tryz.f143 8) = clepsydraref03_Number.T8 := by kernel_rfl
theorem clepsydraref03_Number.bits8 : waitsOk clepsydraref03_Number.T8.2 clepsydraref03_Number.B8 = true := by kernel_rfl
set_option maxHeartbeats 8000000 in
set_option maxRecDepth 100000 in
theorem clepsydraref03_Number.calls (k : Nat) (P0_ : Nat → Prop) (u9000_ : Value) (l0 : List Int) (r : List Int) (w0 w : World) (hB : Below w0.heap.size w0 w) (ho0 : Kd.R (Kd.int .i64) 3 w w0.heap.size P0_ u9000_ l0) (h : clepsydraref03_Number.f k l0 = some r) :
  Calls Tryz.prog 143 #[u9000_] w fun e w' => ∃ v0_ : Value, e = .returned (v0_) ∧ Kd.R (Kd.int .u64) 23 w' w0.heap.size (fun k_ => (P0_ k_ ∨ w.heap.size ≤ k_)) v0_ r ∧ Below w0.heap.size w0 w' ∧ Kept w w' (fun k_ => P0_ k_) := by
 have HO0 := Aside0.mk (show Kd.R (Kd.int .i64) 3 w w0.heap.size (fun k_ => (P0_ k_ ∨ w.heap.size ≤ k_)) u9000_ l0 from Kd.R_mono ho0 (fun k_ hk => (.inl hk)))
 have HK := Aside0.mk (Kept.refl w (fun k_ => P0_ k_))
 have HW0 := Aside0.mk hB.size
 have HB := Aside0.mk hB
 clear hB
 have H : ((clepsydraref03_cut.f k l0).bind fun t115 => (clepsydraref03_Number.l0 k t115 ([] : List Int) 0)) = some r := h
 clear h
 replace H := Option.bind_eq_some_iff.mp H
 obtain ⟨t115, A20, H⟩ := H
 try dsimp only at H
 have A2 := Aside0.mk A20
 clear A20
 have H' := Aside0.mk H
 clear H
 obtain ⟨Ao3, co3, eo3⟩ := Kd.R_slice HO0.out
 subst eo3
 go_enter Tryz.func143, Tryz.ntmps143
 go_wp2_with ((((with_reducible refine gate_callee (f := 179) rfl ?_); refine goesL_ (some 6) rfl rfl Tryz.func179 (by kernel_rfl) rfl #[.slice Ao3 l0.length co3] rfl (by (try simp only [List.map_toArray, List.map_cons, List.map_nil]); rfl) ?_; (with_reducible refine (clepsydraref03_cut.calls k (fun k_ => some k_ = (.slice Ao3 l0.length co3 : Value).ownBlock) (.slice Ao3 l0.length co3) l0 t115 w0 _ ?side1 ?side2 A2.out).mono ?_); (case side1 => exact HB.out); (case side2 => exact Kd.R_tight rfl HO0.out); rintro e w4 ⟨v116, rfl, ho0, hb, hkp⟩; refine ⟨_, rfl, ?_⟩; have HO117 := Aside0.mk (Kd.R_mono (ok' := fun k_ => (P0_ k_ ∨ w.heap.size ≤ k_)) ho0 (fun k_ hk_ => Or.elim hk_ (fun hs_ => (HO0.out.1 k_ (hs_).symm)) (fun hn_ => (.inr (Nat.le_trans (by (exact HK.out.1)) hn_))))); replace HK := Aside0.mk (Kept.then_ (S := (fun k_ => P0_ k_)) HK.out hkp (fun k_ hs_ => (fun e_ => (HO0.out.1 k_ e_.symm)) hs_)); replace HB := Aside0.mk (hb); clear HO0; clear hb hkp ho0)))
 go_loopg [3, 4] k (fun kq v3 v4 w' => ∃ (x3_1 : List Int) (x4_1 : Int), v4 = .int .i64 x4_1 ∧ Aside0 (clepsydraref03_Number.l0 kq t115 x3_1 x4_1 = some r) ∧ Aside0 (kq ≤ k) ∧ Aside0 (Kd.R (Kd.int .i64) 3 w' w0.heap.size (fun k_ => (P0_ k_ ∨ w.heap.size ≤ k_)) v116 t115) ∧ Aside0 (Kd.R (Kd.int .u64) 23 w' w0.heap.size (fun k_ => (P0_ k_ ∨ w.heap.size ≤ k_)) v3 x3_1) ∧ Aside0 (Kept w w' (fun k_ => P0_ k_)) ∧ Aside0 (Below w0.heap.size w0 w'))
 case atStart => exact ⟨(([] : List Int)), (0), (by rfl), H', ⟨Nat.le_refl _⟩, ⟨by exact HO117.out⟩, ⟨by (exact Kd.R_nil _ _ _ _ _)⟩, ⟨HK.out⟩, ⟨HB.out⟩⟩
 case round =>
  clear H'
  try clear c1
  try clear p2
  obtain ⟨x3_1, x4_1, rfl, HA, HK1, HO_0, HO_3, HK, HB⟩ := hrel
  cases gk with
  | zero => exact absurd HA.out (by simp [clepsydraref03_Number.l0])
  | succ k1 =>
   have H := HA.out
   clear HA
   simp only [clepsydraref03_Number.l0] at H
   by_cases c5 : x4_1 < (t115.length : Int)
   ·rw [if_pos c5] at H
    have c5b0 : decide (x4_1 < (t115.length : Int)) = true := decide_eq_true c5
    clear c5
    by_cases c6 : (Int.tmod x4_1 4) = 0
    ·rw [if_pos c6] at H
     have c6b0 : ((Int.tmod x4_1 4) == 0) = true := beq_iff_eq.mpr c6
     have c6b1 : ((Int.tmod x4_1 4) != 0) = false := bne_eq_false_iff_eq.mpr c6
     clear c6
     by_cases c7 : x3_1.length < 17592186044416
     ·rw [if_pos c7] at H
      have LMc7 := Aside0.mk c7
      clear c7
      obtain ⟨y118, hy118⟩ : ∃ y_ : List Int, y_ = (x3_1 ++ [0]) := ⟨_, rfl⟩
      replace H : (if 0 ≤ (wrap64 (Int.tdiv x4_1 4)) then (if (wrap64 (Int.tdiv x4_1 4)) < (y118.length : Int) then (if 0 ≤ x4_1 then (if 0 ≤ (IntKind.u64.wrap (wrap64 (16 * (Int.tmod x4_1 4)))) then (clepsydraref03_Number.l0 k1 t115 (y118.set ((wrap64 (Int.tdiv x4_1 4)) : Int).toNat (IntKind.u64.wrap ((rd y118 (wrap64 (Int.tdiv x4_1 4))) + (shl .u64 (IntKind.u64.wrap (rd t115 x4_1)) (IntKind.u64.wrap (wrap64 (16 * (Int.tmod x4_1 4)))))))) (wrap64 (x4_1 + 1))) else (none)) else (none)) else (none)) else (none)) = some r := by (have H2_ := (Option.bind_some _ _).symm.trans H; rw [hy118]; with_reducible exact H2_)
      have Ny118 := Aside0.mk hy118
      clear hy118
      obtain ⟨ji8, hji8⟩ : ∃ j_ : Int, (wrap64 (Int.tdiv x4_1 4)) = j_ := ⟨_, rfl⟩
      rw [hji8] at H
      have hji8w : (IntKind.i64.wrap (Int.tdiv x4_1 4)) = ji8 := (i64_w _).trans hji8
      by_cases c9 : 0 ≤ (ji8)
      ·rw [if_pos c9] at H
       have c9b0 : decide (0 ≤ (ji8)) = true := decide_eq_true c9
       clear c9
       by_cases c10 : (ji8) < (y118.length : Int)
       ·rw [if_pos c10] at H
        have c10b0 : decide ((ji8) < (y118.length : Int)) = true := decide_eq_true c10
        clear c10
        by_cases c11 : 0 ≤ x4_1
        ·rw [if_pos c11] at H
         have c11b0 : decide (0 ≤ x4_1) = true := decide_eq_true c11
         clear c11
         obtain ⟨ji12, hji12⟩ : ∃ j_ : Int, (IntKind.u64.wrap (wrap64 (16 * (Int.tmod x4_1 4)))) = j_ := ⟨_, rfl⟩
         rw [hji12] at H
         by_cases c13 : 0 ≤ (ji12)
         ·rw [if_pos c13] at H
          have c13b0 := eq_true c13
          have c13b1 : decide (0 ≤ (ji12)) = true := decide_eq_true c13
          clear c13
          obtain ⟨ji14, hji14⟩ : ∃ j_ : Int, (shl .u64 (IntKind.u64.wrap (rd t115 x4_1)) (ji12)) = j_ := ⟨_, rfl⟩
          rw [hji14] at H
          have hji14_ : (IntKind.u64.wrap ((IntKind.u64.wrap (rd t115 x4_1)) * 2 ^ min (ji12).toNat 64)) = ji14 := hji14
          have hji14z : (ji12) ≤ 64 → (IntKind.u64.wrap ((IntKind.u64.wrap (rd t115 x4_1)) * 2 ^ (ji12).toNat)) = ji14 := shl_small hji14
          obtain ⟨y123, hy123⟩ : ∃ y_ : List Int, y_ = (y118.set ((ji8) : Int).toNat (IntKind.u64.wrap ((rd y118 (ji8)) + (ji14)))) := ⟨_, rfl⟩
          rw [← hy123] at H
          have Ny123 := Aside0.mk hy123
          clear hy123
          have H' := Aside0.mk H
          clear H
          obtain ⟨Ao16, co16, eo16⟩ := Kd.R_slice HO_0.out
          subst eo16
          try go_wp2_with ((((with_reducible refine gate_builtin (b := .append) (xs := #[.tmp 16, .tmp 17]) rfl ?_); at_builtin; refine Kd.R_append (Kd.int .u64) (w0 := w0) w0.heap.size rfl (.tmp 16) (.tmp 17) 22 23 (.int .u64 0) 8 rfl Tryz.underlying22 info23 rfl (by decide) (by omega) u3 x3_1 0 [.int .u64 0] (fun k_ => (P0_ k_ ∨ w.heap.size ≤ k_)) (fun _ => False) rfl rfl ?aP (fun _ hk => hk.elim) ?aF ?aO ?aB ?aS ?aL ?_; (case aP => exact rfl); (case aB => exact HB.out); (case aF => exact (fun k_ hk => (.inr (Nat.le_trans (by (exact HK.out.1)) hk)))); (case aO => exact HO_3.out); (case aS => exact (below_size HB.out)); (case aL => have := LMc7.out; omega); intro v119 w17 ho hb hg hat; rw [← Ny118.out] at ho; replace HO_0 := Aside0.mk (Kd.R_over' HO_0.out (Kd.R_typed HO_3.out) (by decide) hg); replace HB := Aside0.mk (hb); replace HK := Aside0.mk (Kept.of_grown (S := (fun k_ => P0_ k_)) hg HK.out (fun k_ e_ => (HO_3.out.1 k_ e_))); have HO120 := Aside0.mk (ho); clear HO_3; clear ho hb hg hat)))
          have n0_ := Aside0.mk (Kd.R_drew HO_0.out)
          have n1_ := Aside0.mk (Kd.R_drew HO120.out)
          have n2_ := Aside0.mk (Kept.drew HK.out)
          have n3_ := Aside0.mk (below_drew1 HB.out)
          clear HO_0
          clear HO120
          clear HK
          clear HB
          have HO_0 := n0_
          have HO120 := n1_
          have HK := n2_
          have HB := n3_
          clear n0_ n1_ n2_ n3_
          obtain ⟨Ao19, co19, eo19⟩ := Kd.R_slice HO120.out
          ((subst eo19))
          have p121 : 0 ≤ ((ji8) : Int) := of_decide_eq_true (by (with_reducible assumption))
          have q121 : (ji8) < (y118.length : Int) := of_decide_eq_true (by (with_reducible assumption))
          obtain ⟨ad121, e121, hx121_0⟩ := Kd.at_int (Kd.R_reads' HO120.out).2.2 (ji8) p121 q121
          cases e121
          replace p121 := eq_true p121
          replace q121 := eq_true q121
          have p122 : 0 ≤ (x4_1 : Int) := of_decide_eq_true (by (with_reducible assumption))
          have q122 : x4_1 < (t115.length : Int) := of_decide_eq_true (by (with_reducible assumption))
          obtain ⟨ad122, e122, hx122_0⟩ := Kd.at_int (Kd.R_reads' HO_0.out).2.2 x4_1 p122 q122
          cases e122
          replace p122 := eq_true p122
          replace q122 := eq_true q122
          have p15 : 0 ≤ ((ji8) : Int) := of_decide_eq_true (by (with_reducible assumption))
          have q15 : ((ji8) : Int) < ((y118.length : Int) : Int) := of_decide_eq_true (by (with_reducible assumption))
          obtain ⟨go15, co15, eo15, gb15, gl15, cl15, HG15⟩ := Kd.R_form HO120.out (by omega)
          ((cases eo15))
          have GB15 := Aside0.mk gb15
          have GG15 := Aside0.mk HG15
          clear gb15 gl15 HG15
          have HMgo15 := Aside0.mk (show (P0_ go15 ∨ w.heap.size ≤ go15) from (HO120.out.1 _ rfl))
          ((simp only [add_plain] at hx121_0))
          obtain ⟨hx15_0, hf15_0⟩ := Kd.R_celln 0 HO120.out ((ji8) : Int) p15 q15
          replace p15 := eq_true p15
          replace q15 := eq_true q15
          have HP20 := Kd.R_putn HO120.out ((ji8) : Int) (IntKind.u64.wrap ((rd y118 (ji8)) + (ji14)))
          rw [← Ny123.out] at HP20
          have HQ20 := Aside0.mk HP20
          clear HP20
          refine start_ (n := 21) (S := fun w' => w'.cell? ⟨go15, ((ji8)).toNat, none⟩ = some (.int .u64 (rd y118 (ji8))) ∧ w'.cell? (ad122.add (x4_1).toNat) = some (.int .i64 (rd t115 x4_1))) (ds := [20]) #[false, false, false, false, false, false, false, false, false, false, false, false, false, false, false, false, false, false, false, false, false] (by kernel_rfl) rfl rfl ⟨hx121_0, hx122_0⟩ (fun hHeld => ?_); refine with_tabW clepsydraref03_Number.tab8 clepsydraref03_Number.bits8 (fun HT_ HW_ => ?_)
          generalize w17.drew = w18 at HO_0 HO120 HK HB GG15 HQ20 hf15_0 hx121_0 hx122_0 hx15_0 hHeld ⊢
          refine pure_ (i := 0) (N := some 19) (v := ?_) (a' := ?_) #[true, false, false, false, false, false, false, false, false, false, false, false, false, false, false, false, false, false, false, false, false] rfl rfl (any_of HT_.out (by kernel_rfl)) (fun _ _ _ h => h) (Or.inl ⟨by rfl, ?_⟩) ?_ ?_
          rotate_left
          ·intro w'
           go_simp
           with_reducible rfl
          rotate_left
          ·simp only [Act.put, List.setIfInBounds_toArray, List.set_cons_zero, List.set_cons_succ, i64_w, i32_w]
           rfl
          refine pure_ (i := 1) (N := some 20) (v := ?_) (a' := ?_) #[true, true, false, false, false, false, false, false, false, false, false, false, false, false, false, false, false, false, false, false, false] rfl rfl (any_of HT_.out (by kernel_rfl)) (fun _ _ _ h => h) (Or.inl ⟨by rfl, ?_⟩) ?_ ?_
          rotate_left
          ·intro w'
           go_simp
           with_reducible rfl
          rotate_left
          ·simp only [Act.put, List.setIfInBounds_toArray, List.set_cons_zero, List.set_cons_succ, i64_w, i32_w]
           rfl
          refine pure_ (i := 2) (N := some 21) (v := ?_) (a' := ?_) #[true, true, true, false, false, false, false, false, false, false, false, false, false, false, false, false, false, false, false, false, false] rfl rfl (any_of HT_.out (by kernel_rfl)) (fun _ _ _ h => h) (Or.inl ⟨by rfl, ?_⟩) ?_ ?_
          rotate_left
          ·intro w'
           go_simp
           with_reducible rfl
          rotate_left
          ·simp only [Act.put, List.setIfInBounds_toArray, List.set_cons_zero, List.set_cons_succ, i64_w, i32_w]
           rfl
          refine pure_ (i := 3) (N := some 22) (v := ?_) (a' := ?_) #[true, true, true, true, false, false, false, false, false, false, false, false, false, false, false, false, false, false, false, false, false] rfl rfl (any_of HT_.out (by kernel_rfl)) (fun _ _ _ h => h) (Or.inl ⟨by rfl, ?_⟩) ?_ ?_
          rotate_left
          ·intro w'
           go_simp
           with_reducible rfl
          rotate_left
          ·simp only [Act.put, List.setIfInBounds_toArray, List.set_cons_zero, List.set_cons_succ, i64_w, i32_w]
           rfl
          refine pure_ (i := 4) (N := some 23) (v := ?_) (a' := ?_) #[true, true, true, true, true, false, false, false, false, false, false, false, false, false, false, false, false, false, false, false, false] rfl rfl (any_of HT_.out (by kernel_rfl)) (fun _ _ _ h => h) (Or.inl ⟨by rfl, ?_⟩) ?_ ?_
          rotate_left
          ·intro w'
           go_simp
           with_reducible rfl
          rotate_left
          ·simp only [Act.put, List.setIfInBounds_toArray, List.set_cons_zero, List.set_cons_succ, i64_w, i32_w]
           rfl
          refine pure_ (i := 5) (N := some 24) (v := ?_) (a' := ?_) #[true, true, true, true, true, true, false, false, false, false, false, false, false, false, false, false, false, false, false, false, false] rfl rfl (any_of HT_.out (by kernel_rfl)) (fun _ _ _ h => h) (Or.inl ⟨by rfl, ?_⟩) ?_ ?_
          rotate_left
          ·intro w'
           go_simp
           with_reducible rfl
          rotate_left
          ·simp only [Act.put, List.setIfInBounds_toArray, List.set_cons_zero, List.set_cons_succ, i64_w, i32_w]
           rfl
          refine pure_ (i := 6) (N := some 25) (v := ?_) (a' := ?_) #[true, true, true, true, true, true, true, false, false, false, false, false, false, false, false, false, false, false, false, false, false] rfl rfl (any_of HT_.out (by kernel_rfl)) (fun _ _ _ h => h) (Or.inl ⟨by rfl, ?_⟩) ?_ ?_
          rotate_left
          ·intro w'
           go_simp
           with_reducible rfl
          rotate_left
          ·simp only [Act.put, List.setIfInBounds_toArray, List.set_cons_zero, List.set_cons_succ, i64_w, i32_w]
           rfl
          refine pure_ (i := 8) (N := some 27) (v := ?_) (a' := ?_) #[true, true, true, true, true, true, true, false, true, false, false, false, false, false, false, false, false, false, false, false, false] rfl rfl (any_of HT_.out (by kernel_rfl)) (fun _ _ _ h => h) (Or.inl ⟨by rfl, ?_⟩) ?_ ?_
          rotate_left
          ·intro w'
           go_simp
           with_reducible rfl
          rotate_left
          ·simp only [Act.put, List.setIfInBounds_toArray, List.set_cons_zero, List.set_cons_succ, i64_w, i32_w]
           rfl
          refine pure_ (i := 9) (N := some 28) (v := ?_) (a' := ?_) #[true, true, true, true, true, true, true, false, true, true, false, false, false, false, false, false, false, false, false, false, false] rfl rfl (any_of HT_.out (by kernel_rfl)) (fun _ _ _ h => h) (Or.inl ⟨by rfl, ?_⟩) ?_ ?_
          rotate_left
          ·intro w'
           go_simp
           with_reducible rfl
          rotate_left
          ·simp only [Act.put, List.setIfInBounds_toArray, List.set_cons_zero, List.set_cons_succ, i64_w, i32_w]
           rfl
          refine pure_ (i := 10) (N := some 29) (v := ?_) (a' := ?_) #[true, true, true, true, true, true, true, false, true, true, true, false, false, false, false, false, false, false, false, false, false] rfl rfl (any_of HT_.out (by kernel_rfl)) (fun _ _ _ h => h) (Or.inl ⟨by rfl, ?_⟩) ?_ ?_
          rotate_left
          ·intro w'
           go_simp
           with_reducible rfl
          rotate_left
          ·simp only [Act.put, List.setIfInBounds_toArray, List.set_cons_zero, List.set_cons_succ, i64_w, i32_w]
           rfl
          refine pure_ (i := 13) (N := some 32) (v := ?_) (a' := ?_) #[true, true, true, true, true, true, true, false, true, true, true, false, false, true, false, false, false, false, false, false, false] rfl rfl (any_of HT_.out (by kernel_rfl)) (fun _ _ _ h => h) (Or.inl ⟨by rfl, ?_⟩) ?_ ?_
          rotate_left
          ·intro w'
           go_simp
           with_reducible rfl
          rotate_left
          ·simp only [Act.put, List.setIfInBounds_toArray, List.set_cons_zero, List.set_cons_succ, i64_w, i32_w]
           rfl
          refine pure_ (i := 14) (N := some 33) (v := ?_) (a' := ?_) #[true, true, true, true, true, true, true, false, true, true, true, false, false, true, true, false, false, false, false, false, false] rfl rfl (any_of HT_.out (by kernel_rfl)) (fun _ _ _ h => h) (Or.inl ⟨by rfl, ?_⟩) ?_ ?_
          rotate_left
          ·intro w'
           go_simp
           with_reducible rfl
          rotate_left
          ·simp only [Act.put, List.setIfInBounds_toArray, List.set_cons_zero, List.set_cons_succ, i64_w, i32_w]
           rfl
          refine pure_ (i := 15) (N := some 34) (v := ?_) (a' := ?_) #[true, true, true, true, true, true, true, false, true, true, true, false, false, true, true, true, false, false, false, false, false] rfl rfl (any_of HT_.out (by kernel_rfl)) (fun _ _ _ h => h) (Or.inl ⟨by rfl, ?_⟩) ?_ ?_
          rotate_left
          ·intro w'
           go_simp
           with_reducible rfl
          rotate_left
          ·simp only [Act.put, List.setIfInBounds_toArray, List.set_cons_zero, List.set_cons_succ, i64_w, i32_w]
           rfl
          refine pure_ (i := 16) (N := some 35) (v := ?_) (a' := ?_) #[true, true, true, true, true, true, true, false, true, true, true, false, false, true, true, true, true, false, false, false, false] rfl rfl (any_of HT_.out (by kernel_rfl)) (fun _ _ _ h => h) (Or.inl ⟨by rfl, ?_⟩) ?_ ?_
          rotate_left
          ·intro w'
           go_simp
           with_reducible rfl
          rotate_left
          ·simp only [Act.put, List.setIfInBounds_toArray, List.set_cons_zero, List.set_cons_succ, i64_w, i32_w]
           rfl
          refine take_ (i := 7) (N := some 26) (v := ?_) (a' := ?_) #[true, true, true, true, true, true, true, true, true, true, true, false, false, true, true, true, true, false, false, false, false] rfl rfl (take_ofW HT_.out HW_.out (by kernel_rfl)) (fun _ _ _ h => h) (Or.inl ⟨by rfl, ?_⟩) hHeld ?_ ?_
          rotate_left
          ·rintro w' ⟨s0, s1⟩
           go_simp
           with_reducible rfl
          rotate_left
          ·simp only [Act.put, List.setIfInBounds_toArray, List.set_cons_zero, List.set_cons_succ, i64_w, i32_w]
           rfl
          refine take_ (i := 11) (N := some 30) (v := ?_) (a' := ?_) #[true, true, true, true, true, true, true, true, true, true, true, true, false, true, true, true, true, false, false, false, false] rfl rfl (take_ofW HT_.out HW_.out (by kernel_rfl)) (fun _ _ _ h => h) (Or.inl ⟨by rfl, ?_⟩) hHeld ?_ ?_
          rotate_left
          ·rintro w' ⟨s0, s1⟩
           go_simp
           with_reducible rfl
          rotate_left
          ·simp only [Act.put, List.setIfInBounds_toArray, List.set_cons_zero, List.set_cons_succ, i64_w, i32_w]
           rfl
          refine pure_ (i := 12) (N := some 31) (v := ?_) (a' := ?_) #[true, true, true, true, true, true, true, true, true, true, true, true, true, true, true, true, true, false, false, false, false] rfl rfl (any_of HT_.out (by kernel_rfl)) (fun _ _ _ h => h) (Or.inl ⟨by rfl, ?_⟩) ?_ ?_
          rotate_left
          ·intro w'
           go_simp
           with_reducible rfl
          rotate_left
          ·simp only [Act.put, List.setIfInBounds_toArray, List.set_cons_zero, List.set_cons_succ, i64_w, i32_w]
           rfl
          refine pure_ (i := 17) (N := some 36) (v := ?_) (a' := ?_) #[true, true, true, true, true, true, true, true, true, true, true, true, true, true, true, true, true, true, false, false, false] rfl rfl (any_of HT_.out (by kernel_rfl)) (fun _ _ _ h => h) (Or.inl ⟨by rfl, ?_⟩) ?_ ?_
          rotate_left
          ·intro w'
           go_simp
           with_reducible rfl
          rotate_left
          ·simp only [Act.put, List.setIfInBounds_toArray, List.set_cons_zero, List.set_cons_succ, i64_w, i32_w]
           rfl
          refine pure_ (i := 18) (N := some 37) (v := ?_) (a' := ?_) #[true, true, true, true, true, true, true, true, true, true, true, true, true, true, true, true, true, true, true, false, false] rfl rfl (any_of HT_.out (by kernel_rfl)) (fun _ _ _ h => h) (Or.inl ⟨by rfl, ?_⟩) ?_ ?_
          rotate_left
          ·intro w'
           go_simp
           with_reducible rfl
          rotate_left
          ·simp only [Act.put, List.setIfInBounds_toArray, List.set_cons_zero, List.set_cons_succ, i64_w, i32_w]
           rfl
          refine pure_ (i := 19) (N := some 38) (v := ?_) (a' := ?_) #[true, true, true, true, true, true, true, true, true, true, true, true, true, true, true, true, true, true, true, true, false] rfl rfl (any_of HT_.out (by kernel_rfl)) (fun _ _ _ h => h) (Or.inl ⟨by rfl, ?_⟩) ?_ ?_
          rotate_left
          ·intro w'
           go_simp
           with_reducible rfl
          rotate_left
          ·simp only [Act.put, List.setIfInBounds_toArray, List.set_cons_zero, List.set_cons_succ, i64_w, i32_w]
           rfl
          refine last_ (i := 20) (N := none) #[true, true, true, true, true, true, true, true, true, true, true, true, true, true, true, true, true, true, true, true, true] rfl rfl (one_of HT_.out (by kernel_rfl)) (by decide) (fun K hK => ?_)
          refine skip_ (w1 := ?_) (by rfl) rfl ?_ ?_
          rotate_left
          ·go_simp
           rfl
          refine hK.out _ _ ?_
          clear hK K
          refine done_ (done_of HT_.out (by kernel_rfl)) ?_
          try go_wp2
          go_roundg k1
          case measure => have := HK1.out; omega
          case rel => exact ⟨(y123), (wrap64 (x4_1 + 1)), (by rfl), H', ⟨by have := HK1.out; omega⟩, ⟨by exact Kd.R_mono (Kd.R_far (p := ⟨go15, ((ji8) : Int).toNat, none⟩) (Kd.R_types HO_0.out GG15.out (by decide)) (fun _ hk => hk.2) (.int .u64 (IntKind.u64.wrap ((rd y118 (ji8)) + (ji14))))) (fun _ hk => hk.1)⟩, ⟨by exact HQ20.out⟩, ⟨by repeat ((with_reducible first | exact HK.out | refine Kept.setCell ?_ HMgo15.out _))⟩, ⟨by repeat ((with_reducible first | exact HB.out | refine below_set ?_ GB15.out))⟩⟩
         ·rw [if_neg c13] at H
          exact absurd H (by simp)
        ·rw [if_neg c11] at H
         exact absurd H (by simp)
       ·rw [if_neg c10] at H
        exact absurd H (by simp)
      ·rw [if_neg c9] at H
       exact absurd H (by simp)
     ·rw [if_neg c7] at H
      exact absurd H (by simp)
    ·rw [if_neg c6] at H
     have c6b0 : ((Int.tmod x4_1 4) == 0) = false := beq_eq_false_iff_ne.mpr c6
     have c6b1 : ((Int.tmod x4_1 4) != 0) = true := bne_iff_ne.mpr c6
     obtain ⟨ji21, hji21⟩ : ∃ j_ : Int, (wrap64 (Int.tdiv x4_1 4)) = j_ := ⟨_, rfl⟩
     rw [hji21] at H
     have hji21w : (IntKind.i64.wrap (Int.tdiv x4_1 4)) = ji21 := (i64_w _).trans hji21
     by_cases c22 : 0 ≤ (ji21)
     ·rw [if_pos c22] at H
      have c22b0 : decide (0 ≤ (ji21)) = true := decide_eq_true c22
      clear c22
      by_cases c23 : (ji21) < (x3_1.length : Int)
      ·rw [if_pos c23] at H
       have c23b0 : decide ((ji21) < (x3_1.length : Int)) = true := decide_eq_true c23
       clear c23
       by_cases c24 : 0 ≤ x4_1
       ·rw [if_pos c24] at H
        have c24b0 : decide (0 ≤ x4_1) = true := decide_eq_true c24
        clear c24
        obtain ⟨ji25, hji25⟩ : ∃ j_ : Int, (IntKind.u64.wrap (wrap64 (16 * (Int.tmod x4_1 4)))) = j_ := ⟨_, rfl⟩
        rw [hji25] at H
        by_cases c26 : 0 ≤ (ji25)
        ·rw [if_pos c26] at H
         have c26b0 := eq_true c26
         have c26b1 : decide (0 ≤ (ji25)) = true := decide_eq_true c26
         clear c26
         obtain ⟨ji27, hji27⟩ : ∃ j_ : Int, (shl .u64 (IntKind.u64.wrap (rd t115 x4_1)) (ji25)) = j_ := ⟨_, rfl⟩
         rw [hji27] at H
         have hji27_ : (IntKind.u64.wrap ((IntKind.u64.wrap (rd t115 x4_1)) * 2 ^ min (ji25).toNat 64)) = ji27 := hji27
         have hji27z : (ji25) ≤ 64 → (IntKind.u64.wrap ((IntKind.u64.wrap (rd t115 x4_1)) * 2 ^ (ji25).toNat)) = ji27 := shl_small hji27
         obtain ⟨y126, hy126⟩ : ∃ y_ : List Int, y_ = (x3_1.set ((ji21) : Int).toNat (IntKind.u64.wrap ((rd x3_1 (ji21)) + (ji27)))) := ⟨_, rfl⟩
         rw [← hy126] at H
         have Ny126 := Aside0.mk hy126
         clear hy126
         have H' := Aside0.mk H
         clear H
         obtain ⟨Ao29, co29, eo29⟩ := Kd.R_slice HO_0.out
         subst eo29
         try go_wp2
         have n0_ := Aside0.mk (Kd.R_drew HO_0.out)
         have n1_ := Aside0.mk (Kd.R_drew HO_3.out)
         have n2_ := Aside0.mk (Kept.drew HK.out)
         have n3_ := Aside0.mk (below_drew1 HB.out)
         clear HO_0
         clear HO_3
         clear HK
         clear HB
         have HO_0 := n0_
         have HO_3 := n1_
         have HK := n2_
         have HB := n3_
         clear n0_ n1_ n2_ n3_
         obtain ⟨Ao31, co31, eo31⟩ := Kd.R_slice HO_3.out
         ((subst eo31))
         have p124 : 0 ≤ ((ji21) : Int) := of_decide_eq_true (by (with_reducible assumption))
         have q124 : (ji21) < (x3_1.length : Int) := of_decide_eq_true (by (with_reducible assumption))
         obtain ⟨ad124, e124, hx124_0⟩ := Kd.at_int (Kd.R_reads' HO_3.out).2.2 (ji21) p124 q124
         cases e124
         replace p124 := eq_true p124
         replace q124 := eq_true q124
         have p125 : 0 ≤ (x4_1 : Int) := of_decide_eq_true (by (with_reducible assumption))
         have q125 : x4_1 < (t115.length : Int) := of_decide_eq_true (by (with_reducible assumption))
         obtain ⟨ad125, e125, hx125_0⟩ := Kd.at_int (Kd.R_reads' HO_0.out).2.2 x4_1 p125 q125
         cases e125
         replace p125 := eq_true p125
         replace q125 := eq_true q125
         have p28 : 0 ≤ ((ji21) : Int) := of_decide_eq_true (by (with_reducible assumption))
         have q28 : ((ji21) : Int) < ((x3_1.length : Int) : Int) := of_decide_eq_true (by (with_reducible assumption))
         obtain ⟨go28, co28, eo28, gb28, gl28, cl28, HG28⟩ := Kd.R_form HO_3.out (by omega)
         ((cases eo28))
         have GB28 := Aside0.mk gb28
         have GG28 := Aside0.mk HG28
         clear gb28 gl28 HG28
         have HMgo28 := Aside0.mk (show (P0_ go28 ∨ w.heap.size ≤ go28) from (HO_3.out.1 _ rfl))
         ((simp only [add_plain] at hx124_0))
         obtain ⟨hx28_0, hf28_0⟩ := Kd.R_celln 0 HO_3.out ((ji21) : Int) p28 q28
         replace p28 := eq_true p28
         replace q28 := eq_true q28
         have HP32 := Kd.R_putn HO_3.out ((ji21) : Int) (IntKind.u64.wrap ((rd x3_1 (ji21)) + (ji27)))
         rw [← Ny126.out] at HP32
         have HQ32 := Aside0.mk HP32
         clear HP32
         refine start_ (n := 21) (S := fun w' => w'.cell? ⟨go28, ((ji21)).toNat, none⟩ = some (.int .u64 (rd x3_1 (ji21))) ∧ w'.cell? (ad125.add (x4_1).toNat) = some (.int .i64 (rd t115 x4_1))) (ds := [20]) #[false, false, false, false, false, false, false, false, false, false, false, false, false, false, false, false, false, false, false, false, false] (by kernel_rfl) rfl rfl ⟨hx124_0, hx125_0⟩ (fun hHeld => ?_); refine with_tabW clepsydraref03_Number.tab8 clepsydraref03_Number.bits8 (fun HT_ HW_ => ?_)
         generalize wr.drew = w30 at HO_0 HO_3 HK HB GG28 HQ32 hf28_0 hx124_0 hx125_0 hx28_0 hHeld ⊢
         refine pure_ (i := 0) (N := some 19) (v := ?_) (a' := ?_) #[true, false, false, false, false, false, false, false, false, false, false, false, false, false, false, false, false, false, false, false, false] rfl rfl (any_of HT_.out (by kernel_rfl)) (fun _ _ _ h => h) (Or.inl ⟨by rfl, ?_⟩) ?_ ?_
         rotate_left
         ·intro w'
          go_simp
          with_reducible rfl
         rotate_left
         ·simp only [Act.put, List.setIfInBounds_toArray, List.set_cons_zero, List.set_cons_succ, i64_w, i32_w]
          rfl
         refine pure_ (i := 1) (N := some 20) (v := ?_) (a' := ?_) #[true, true, false, false, false, false, false, false, false, false, false, false, false, false, false, false, false, false, false, false, false] rfl rfl (any_of HT_.out (by kernel_rfl)) (fun _ _ _ h => h) (Or.inl ⟨by rfl, ?_⟩) ?_ ?_
         rotate_left
         ·intro w'
          go_simp
          with_reducible rfl
         rotate_left
         ·simp only [Act.put, List.setIfInBounds_toArray, List.set_cons_zero, List.set_cons_succ, i64_w, i32_w]
          rfl
         refine pure_ (i := 2) (N := some 21) (v := ?_) (a' := ?_) #[true, true, true, false, false, false, false, false, false, false, false, false, false, false, false, false, false, false, false, false, false] rfl rfl (any_of HT_.out (by kernel_rfl)) (fun _ _ _ h => h) (Or.inl ⟨by rfl, ?_⟩) ?_ ?_
         rotate_left
         ·intro w'
          go_simp
          with_reducible rfl
         rotate_left
         ·simp only [Act.put, List.setIfInBounds_toArray, List.set_cons_zero, List.set_cons_succ, i64_w, i32_w]
          rfl
         refine pure_ (i := 3) (N := some 22) (v := ?_) (a' := ?_) #[true, true, true, true, false, false, false, false, false, false, false, false, false, false, false, false, false, false, false, false, false] rfl rfl (any_of HT_.out (by kernel_rfl)) (fun _ _ _ h => h) (Or.inl ⟨by rfl, ?_⟩) ?_ ?_
         rotate_left
         ·intro w'
          go_simp
          with_reducible rfl
         rotate_left
         ·simp only [Act.put, List.setIfInBounds_toArray, List.set_cons_zero, List.set_cons_succ, i64_w, i32_w]
          rfl
         refine pure_ (i := 4) (N := some 23) (v := ?_) (a' := ?_) #[true, true, true, true, true, false, false, false, false, false, false, false, false, false, false, false, false, false, false, false, false] rfl rfl (any_of HT_.out (by kernel_rfl)) (fun _ _ _ h => h) (Or.inl ⟨by rfl, ?_⟩) ?_ ?_
         rotate_left
         ·intro w'
          go_simp
          with_reducible rfl
         rotate_left
         ·simp only [Act.put, List.setIfInBounds_toArray, List.set_cons_zero, List.set_cons_succ, i64_w, i32_w]
          rfl
         refine pure_ (i := 5) (N := some 24) (v := ?_) (a' := ?_) #[true, true, true, true, true, true, false, false, false, false, false, false, false, false, false, false, false, false, false, false, false] rfl rfl (any_of HT_.out (by kernel_rfl)) (fun _ _ _ h => h) (Or.inl ⟨by rfl, ?_⟩) ?_ ?_
         rotate_left
         ·intro w'
          go_simp
          with_reducible rfl
         rotate_left
         ·simp only [Act.put, List.setIfInBounds_toArray, List.set_cons_zero, List.set_cons_succ, i64_w, i32_w]
          rfl
         refine pure_ (i := 6) (N := some 25) (v := ?_) (a' := ?_) #[true, true, true, true, true, true, true, false, false, false, false, false, false, false, false, false, false, false, false, false, false] rfl rfl (any_of HT_.out (by kernel_rfl)) (fun _ _ _ h => h) (Or.inl ⟨by rfl, ?_⟩) ?_ ?_
         rotate_left
         ·intro w'
          go_simp
          with_reducible rfl
         rotate_left
         ·simp only [Act.put, List.setIfInBounds_toArray, List.set_cons_zero, List.set_cons_succ, i64_w, i32_w]
          rfl
         refine pure_ (i := 8) (N := some 27) (v := ?_) (a' := ?_) #[true, true, true, true, true, true, true, false, true, false, false, false, false, false, false, false, false, false, false, false, false] rfl rfl (any_of HT_.out (by kernel_rfl)) (fun _ _ _ h => h) (Or.inl ⟨by rfl, ?_⟩) ?_ ?_
         rotate_left
         ·intro w'
          go_simp
          with_reducible rfl
         rotate_left
         ·simp only [Act.put, List.setIfInBounds_toArray, List.set_cons_zero, List.set_cons_succ, i64_w, i32_w]
          rfl
         refine pure_ (i := 9) (N := some 28) (v := ?_) (a' := ?_) #[true, true, true, true, true, true, true, false, true, true, false, false, false, false, false, false, false, false, false, false, false] rfl rfl (any_of HT_.out (by kernel_rfl)) (fun _ _ _ h => h) (Or.inl ⟨by rfl, ?_⟩) ?_ ?_
         rotate_left
         ·intro w'
          go_simp
          with_reducible rfl
         rotate_left
         ·simp only [Act.put, List.setIfInBounds_toArray, List.set_cons_zero, List.set_cons_succ, i64_w, i32_w]
          rfl
         refine pure_ (i := 10) (N := some 29) (v := ?_) (a' := ?_) #[true, true, true, true, true, true, true, false, true, true, true, false, false, false, false, false, false, false, false, false, false] rfl rfl (any_of HT_.out (by kernel_rfl)) (fun _ _ _ h => h) (Or.inl ⟨by rfl, ?_⟩) ?_ ?_
         rotate_left
         ·intro w'
          go_simp
          with_reducible rfl
         rotate_left
         ·simp only [Act.put, List.setIfInBounds_toArray, List.set_cons_zero, List.set_cons_succ, i64_w, i32_w]
          rfl
         refine pure_ (i := 13) (N := some 32) (v := ?_) (a' := ?_) #[true, true, true, true, true, true, true, false, true, true, true, false, false, true, false, false, false, false, false, false, false] rfl rfl (any_of HT_.out (by kernel_rfl)) (fun _ _ _ h => h) (Or.inl ⟨by rfl, ?_⟩) ?_ ?_
         rotate_left
         ·intro w'
          go_simp
          with_reducible rfl
         rotate_left
         ·simp only [Act.put, List.setIfInBounds_toArray, List.set_cons_zero, List.set_cons_succ, i64_w, i32_w]
          rfl
         refine pure_ (i := 14) (N := some 33) (v := ?_) (a' := ?_) #[true, true, true, true, true, true, true, false, true, true, true, false, false, true, true, false, false, false, false, false, false] rfl rfl (any_of HT_.out (by kernel_rfl)) (fun _ _ _ h => h) (Or.inl ⟨by rfl, ?_⟩) ?_ ?_
         rotate_left
         ·intro w'
          go_simp
          with_reducible rfl
         rotate_left
         ·simp only [Act.put, List.setIfInBounds_toArray, List.set_cons_zero, List.set_cons_succ, i64_w, i32_w]
          rfl
         refine pure_ (i := 15) (N := some 34) (v := ?_) (a' := ?_) #[true, true, true, true, true, true, true, false, true, true, true, false, false, true, true, true, false, false, false, false, false] rfl rfl (any_of HT_.out (by kernel_rfl)) (fun _ _ _ h => h) (Or.inl ⟨by rfl, ?_⟩) ?_ ?_
         rotate_left
         ·intro w'
          go_simp
          with_reducible rfl
         rotate_left
         ·simp only [Act.put, List.setIfInBounds_toArray, List.set_cons_zero, List.set_cons_succ, i64_w, i32_w]
          rfl
         refine pure_ (i := 16) (N := some 35) (v := ?_) (a' := ?_) #[true, true, true, true, true, true, true, false, true, true, true, false, false, true, true, true, true, false, false, false, false] rfl rfl (any_of HT_.out (by kernel_rfl)) (fun _ _ _ h => h) (Or.inl ⟨by rfl, ?_⟩) ?_ ?_
         rotate_left
         ·intro w'
          go_simp
          with_reducible rfl
         rotate_left
         ·simp only [Act.put, List.setIfInBounds_toArray, List.set_cons_zero, List.set_cons_succ, i64_w, i32_w]
          rfl
         refine take_ (i := 7) (N := some 26) (v := ?_) (a' := ?_) #[true, true, true, true, true, true, true, true, true, true, true, false, false, true, true, true, true, false, false, false, false] rfl rfl (take_ofW HT_.out HW_.out (by kernel_rfl)) (fun _ _ _ h => h) (Or.inl ⟨by rfl, ?_⟩) hHeld ?_ ?_
         rotate_left
         ·rintro w' ⟨s0, s1⟩
          go_simp
          with_reducible rfl
         rotate_left
         ·simp only [Act.put, List.setIfInBounds_toArray, List.set_cons_zero, List.set_cons_succ, i64_w, i32_w]
          rfl
         refine take_ (i := 11) (N := some 30) (v := ?_) (a' := ?_) #[true, true, true, true, true, true, true, true, true, true, true, true, false, true, true, true, true, false, false, false, false] rfl rfl (take_ofW HT_.out HW_.out (by kernel_rfl)) (fun _ _ _ h => h) (Or.inl ⟨by rfl, ?_⟩) hHeld ?_ ?_
         rotate_left
         ·rintro w' ⟨s0, s1⟩
          go_simp
          with_reducible rfl
         rotate_left
         ·simp only [Act.put, List.setIfInBounds_toArray, List.set_cons_zero, List.set_cons_succ, i64_w, i32_w]
          rfl
         refine pure_ (i := 12) (N := some 31) (v := ?_) (a' := ?_) #[true, true, true, true, true, true, true, true, true, true, true, true, true, true, true, true, true, false, false, false, false] rfl rfl (any_of HT_.out (by kernel_rfl)) (fun _ _ _ h => h) (Or.inl ⟨by rfl, ?_⟩) ?_ ?_
         rotate_left
         ·intro w'
          go_simp
          with_reducible rfl
         rotate_left
         ·simp only [Act.put, List.setIfInBounds_toArray, List.set_cons_zero, List.set_cons_succ, i64_w, i32_w]
          rfl
         refine pure_ (i := 17) (N := some 36) (v := ?_) (a' := ?_) #[true, true, true, true, true, true, true, true, true, true, true, true, true, true, true, true, true, true, false, false, false] rfl rfl (any_of HT_.out (by kernel_rfl)) (fun _ _ _ h => h) (Or.inl ⟨by rfl, ?_⟩) ?_ ?_
         rotate_left
         ·intro w'
          go_simp
          with_reducible rfl
         rotate_left
         ·simp only [Act.put, List.setIfInBounds_toArray, List.set_cons_zero, List.set_cons_succ, i64_w, i32_w]
          rfl
         refine pure_ (i := 18) (N := some 37) (v := ?_) (a' := ?_) #[true, true, true, true, true, true, true, true, true, true, true, true, true, true, true, true, true, true, true, false, false] rfl rfl (any_of HT_.out (by kernel_rfl)) (fun _ _ _ h => h) (Or.inl ⟨by rfl, ?_⟩) ?_ ?_
         rotate_left
         ·intro w'
          go_simp
          with_reducible rfl
         rotate_left
         ·simp only [Act.put, List.setIfInBounds_toArray, List.set_cons_zero, List.set_cons_succ, i64_w, i32_w]
          rfl
         refine pure_ (i := 19) (N := some 38) (v := ?_) (a' := ?_) #[true, true, true, true, true, true, true, true, true, true, true, true, true, true, true, true, true, true, true, true, false] rfl rfl (any_of HT_.out (by kernel_rfl)) (fun _ _ _ h => h) (Or.inl ⟨by rfl, ?_⟩) ?_ ?_
         rotate_left
         ·intro w'
          go_simp
          with_reducible rfl
         rotate_left
         ·simp only [Act.put, List.setIfInBounds_toArray, List.set_cons_zero, List.set_cons_succ, i64_w, i32_w]
          rfl
         refine last_ (i := 20) (N := none) #[true, true, true, true, true, true, true, true, true, true, true, true, true, true, true, true, true, true, true, true, true] rfl rfl (one_of HT_.out (by kernel_rfl)) (by decide) (fun K hK => ?_)
         refine skip_ (w1 := ?_) (by rfl) rfl ?_ ?_
         rotate_left
         ·go_simp
          rfl
         refine hK.out _ _ ?_
         clear hK K
         refine done_ (done_of HT_.out (by kernel_rfl)) ?_
         try go_wp2
         go_roundg k1
         case measure => have := HK1.out; omega
         case rel => exact ⟨(y126), (wrap64 (x4_1 + 1)), (by rfl), H', ⟨by have := HK1.out; omega⟩, ⟨by exact Kd.R_mono (Kd.R_far (p := ⟨go28, ((ji21) : Int).toNat, none⟩) (Kd.R_types HO_0.out GG28.out (by decide)) (fun _ hk => hk.2) (.int .u64 (IntKind.u64.wrap ((rd x3_1 (ji21)) + (ji27))))) (fun _ hk => hk.1)⟩, ⟨by exact HQ32.out⟩, ⟨by repeat ((with_reducible first | exact HK.out | refine Kept.setCell ?_ HMgo28.out _))⟩, ⟨by repeat ((with_reducible first | exact HB.out | refine below_set ?_ GB28.out))⟩⟩
        ·rw [if_neg c26] at H
         exact absurd H (by simp)
       ·rw [if_neg c24] at H
        exact absurd H (by simp)
      ·rw [if_neg c23] at H
       exact absurd H (by simp)
     ·rw [if_neg c22] at H
      exact absurd H (by simp)
   ·rw [if_neg c5] at H
    have c5b0 : decide (x4_1 < (t115.length : Int)) = false := decide_eq_false c5
    clear c5
    obtain rfl := Option.some.inj H
    simp only [Option.some.injEq, Prod.mk.injEq] at H
    obtain ⟨rfl⟩ := H
    obtain ⟨Ao33, co33, eo33⟩ := Kd.R_slice HO_0.out
    subst eo33
    go_wp2
    go_ret
    exact ⟨_, by rfl, by exact HO_3.out, HB.out, HK.out⟩
def clepsydraref03_at.f (l0 : List Int) (a1 : Int) : Option (Int) := if a1 ≥ (l0.length : Int) then (some 0) else (if 0 ≤ a1 then (if a1 < (l0.length : Int) then (some (rd l0 a1)) else (none)) else (none))
set_option maxHeartbeats 8000000 in
set_option maxRecDepth 100000 in
theorem clepsydraref03_at.calls (A0 : Option Addr) (c0 : Nat) (l0 : List Int) (a1 : Int) (r : Int) (w : World) (hr0 : Kd.C (Kd.int .i64) w A0 l0.length l0) (hc0 : l0.length ≤ c0) (h : clepsydraref03_at.f l0 a1 = some r) :
  Calls Tryz.prog 178 #[.slice A0 l0.length c0, .int .i64 a1] w fun e w' => e = .returned (.int .i64 r) ∧ Drawn0 w w' := by
 have HR0 := Aside0.mk hr0
 have HC0 := Aside0.mk hc0
 clear hr0 hc0
 have H : (if a1 ≥ (l0.length : Int) then (some 0) else (if 0 ≤ a1 then (if a1 < (l0.length : Int) then (some (rd l0 a1)) else (none)) else (none))) = some r := h
 clear h
 by_cases c3 : a1 ≥ (l0.length : Int)
 ·rw [if_pos c3] at H
  have c3b0 : decide ((l0.length : Int) ≤ a1) = true := decide_eq_true c3
  clear c3
  obtain rfl := Option.some.inj H
  simp only [Option.some.injEq, Prod.mk.injEq] at H
  obtain ⟨rfl⟩ := H
  go_enter Tryz.func178, Tryz.ntmps178
  go_wp2
  go_ret
  exact ⟨by rfl, by repeat ((exact Drawn0.refl _))⟩
 ·rw [if_neg c3] at H
  have c3b0 : decide ((l0.length : Int) ≤ a1) = false := decide_eq_false c3
  clear c3
  by_cases c4 : 0 ≤ a1
  ·rw [if_pos c4] at H
   have c4b0 : decide (0 ≤ a1) = true := decide_eq_true c4
   clear c4
   by_cases c5 : a1 < (l0.length : Int)
   ·rw [if_pos c5] at H
    have c5b0 : decide (a1 < (l0.length : Int)) = true := decide_eq_true c5
    clear c5
    obtain rfl := Option.some.inj H
    simp only [Option.some.injEq, Prod.mk.injEq] at H
    obtain ⟨rfl⟩ := H
    have p127 : 0 ≤ (a1 : Int) := of_decide_eq_true (by (with_reducible assumption))
    have q127 : a1 < (l0.length : Int) := of_decide_eq_true (by (with_reducible assumption))
    obtain ⟨ad127, e127, hx127_0⟩ := Kd.at_int HR0.out a1 p127 q127
    cases e127
    replace p127 := eq_true p127
    replace q127 := eq_true q127
    go_enter Tryz.func178, Tryz.ntmps178
    go_wp2
    go_ret
    exact ⟨by rfl, by repeat ((exact Drawn0.refl _))⟩
   ·rw [if_neg c5] at H
    exact absurd H (by simp)
  ·rw [if_neg c4] at H
   exact absurd H (by simp)
mutual
def clepsydraref03_plus.l0 : Nat → List Int → List Int → List Int → Int → Int → Option (List Int)
 | 0, _, _, _, _, _ => none
 | k + 1, x0, x1, x5, x6, x7 => if x7 < (x0.length : Int) then (clepsydraref03_plus.j1 k x0 x1 x5 x6 x7 true) else (if x7 < (x1.length : Int) then (clepsydraref03_plus.j1 k x0 x1 x5 x6 x7 true) else (clepsydraref03_plus.j1 k x0 x1 x5 x6 x7 (decide (x6 > 0))))
def clepsydraref03_plus.j1 : Nat → List Int → List Int → List Int → Int → Int → Bool → Option (List Int)
 | 0, _, _, _, _, _, _ => none
 | k + 1, x0, x1, x5, x6, x7, x22 => if x22 = true then ((clepsydraref03_at.f x0 x7).bind fun t132 => ((clepsydraref03_at.f x1 x7).bind fun t133 => (if x5.length < 17592186044416 then (clepsydraref03_plus.l0 k x0 x1 (x5 ++ [Go.bits .and .i64 (wrap64 ((wrap64 (t132 + t133)) + x6)) 65535]) ((wrap64 ((wrap64 (t132 + t133)) + x6)) / 65536) (wrap64 (x7 + 1))) else (none)))) else (some x5)
end
def clepsydraref03_plus.f (k : Nat) (l0 : List Int) (l1 : List Int) : Option (List Int) := clepsydraref03_plus.l0 k l0 l1 ([] : List Int) 0 0
set_option maxHeartbeats 8000000 in
set_option maxRecDepth 100000 in
theorem clepsydraref03_plus.calls (k : Nat) (A0 : Option Addr) (c0 : Nat) (l0 : List Int) (A1 : Option Addr) (c1 : Nat) (l1 : List Int) (r : List Int) (w : World) (hr0 : Kd.C (Kd.int .i64) w A0 l0.length l0) (hc0 : l0.length ≤ c0) (hr1 : Kd.C (Kd.int .i64) w A1 l1.length l1) (hc1 : l1.length ≤ c1) (h : clepsydraref03_plus.f k l0 l1 = some r) :
  Calls Tryz.prog 141 #[.slice A0 l0.length c0, .slice A1 l1.length c1] w fun e w' => ∃ v0_ : Value, e = .returned (v0_) ∧ Kd.R (Kd.int .i64) 3 w' w.heap.size (fun _ => True) v0_ r ∧ Below w.heap.size w w' := by
 have HR0 := Aside0.mk hr0
 have HC0 := Aside0.mk hc0
 clear hr0 hc0
 have HR1 := Aside0.mk hr1
 have HC1 := Aside0.mk hc1
 clear hr1 hc1
 have HB := Aside0.mk (Below.refl w.heap.size w)
 have H : (clepsydraref03_plus.l0 k l0 l1 ([] : List Int) 0 0) = some r := h
 clear h
 have H' := Aside0.mk H
 clear H
 go_enter Tryz.func141, Tryz.ntmps141
 go_wp2
 go_loopg [5, 6, 7] k (fun kq v5 v6 v7 w' => ∃ (x5_1 : List Int) (x6_1 : Int) (x7_1 : Int), v6 = .int .i64 x6_1 ∧ v7 = .int .i64 x7_1 ∧ Aside0 (clepsydraref03_plus.l0 kq l0 l1 x5_1 x6_1 x7_1 = some r) ∧ Aside0 (kq ≤ k) ∧ Aside0 (Kd.R (Kd.int .i64) 3 w' w.heap.size (fun _ => True) v5 x5_1) ∧ Aside0 (Below w.heap.size w w'))
 case atStart => exact ⟨(([] : List Int)), (0), (0), (by rfl), (by rfl), H', ⟨Nat.le_refl _⟩, ⟨by (exact Kd.R_nil _ _ _ _ _)⟩, ⟨HB.out⟩⟩
 case round =>
  clear H'
  try clear c1
  try clear p2
  obtain ⟨x5_1, x6_1, x7_1, rfl, rfl, HA, HK1, HO_5, HB⟩ := hrel
  cases gk with
  | zero => exact absurd HA.out (by simp [clepsydraref03_plus.l0])
  | succ k1 =>
   have H := HA.out
   clear HA
   simp only [clepsydraref03_plus.l0] at H
   have HC3 := Aside0.mk H
   clear H
   go_upto_region 4 with (fail)
   go_cut [22] (fun v22 wc => ∃ (kq : Nat) (x22_2 : Bool), v22 = .bool x22_2 ∧ Aside0 (clepsydraref03_plus.j1 kq l0 l1 x5_1 x6_1 x7_1 x22_2 = some r) ∧ Aside0 (kq ≤ k1) ∧ Aside0 (Kd.R (Kd.int .i64) 3 wc w.heap.size (fun _ => True) u5 x5_1) ∧ Aside0 (Below w.heap.size w wc))
   case first =>
    have H := HC3.out
    clear HC3
    by_cases c4 : x7_1 < (l0.length : Int)
    ·rw [if_pos c4] at H
     have c4b0 : decide (x7_1 < (l0.length : Int)) = true := decide_eq_true c4
     clear c4
     (skip)
     have H' := Aside0.mk H
     clear H
     go_wp2
     go_meet
     case rel => exact ⟨_, (true), (by rfl), H', ⟨by have := HK1.out; omega⟩, ⟨by exact HO_5.out⟩, ⟨HB.out⟩⟩
    ·rw [if_neg c4] at H
     have c4b0 : decide (x7_1 < (l0.length : Int)) = false := decide_eq_false c4
     clear c4
     (skip)
     by_cases c5 : x7_1 < (l1.length : Int)
     ·rw [if_pos c5] at H
      have c5b0 : decide (x7_1 < (l1.length : Int)) = true := decide_eq_true c5
      clear c5
      have H' := Aside0.mk H
      clear H
      go_wp2
      go_meet
      case rel => exact ⟨_, (true), (by rfl), H', ⟨by have := HK1.out; omega⟩, ⟨by exact HO_5.out⟩, ⟨HB.out⟩⟩
     ·rw [if_neg c5] at H
      have c5b0 : decide (x7_1 < (l1.length : Int)) = false := decide_eq_false c5
      clear c5
      have H' := Aside0.mk H
      clear H
      go_wp2
      go_meet
      case rel => exact ⟨_, (decide (x6_1 > 0)), (by rfl), H', ⟨by have := HK1.out; omega⟩, ⟨by exact HO_5.out⟩, ⟨HB.out⟩⟩
   case rest =>
    clear HC3
    try clear c1
    try clear p2
    try clear c4
    try clear c4b0
    try clear c5
    try clear c5b0
    try clear p2
    obtain ⟨kq, x22_2, rfl, HA, HJ2, HO_5, HB⟩ := hcut
    cases kq with
    | zero => exact absurd HA.out (by simp [clepsydraref03_plus.j1])
    | succ kj2 =>
     have H := HA.out
     clear HA
     simp only [clepsydraref03_plus.j1] at H
     by_cases c6 : x22_2 = true
     ·subst c6
      rw [if_pos rfl] at H
      replace H := Option.bind_eq_some_iff.mp H
      obtain ⟨t132, A70, H⟩ := H
      try dsimp only at H
      have A7 := Aside0.mk A70
      clear A70
      replace H := Option.bind_eq_some_iff.mp H
      obtain ⟨t133, A80, H⟩ := H
      try dsimp only at H
      have A8 := Aside0.mk A80
      clear A80
      by_cases c9 : x5_1.length < 17592186044416
      ·rw [if_pos c9] at H
       have LMc9 := Aside0.mk c9
       clear c9
       obtain ⟨y134, hy134⟩ : ∃ y_ : List Int, y_ = (x5_1 ++ [Go.bits .and .i64 (wrap64 ((wrap64 (t132 + t133)) + x6_1)) 65535]) := ⟨_, rfl⟩
       rw [← hy134] at H
       have Ny134 := Aside0.mk hy134
       clear hy134
       have H' := Aside0.mk H
       clear H
       go_wp2_with (first | ((with_reducible refine gate_callee (f := 178) rfl ?_); refine goesL_ (some 27) rfl rfl Tryz.func178 (by kernel_rfl) rfl #[.slice A0 l0.length c0, .int .i64 x7_1] rfl (by (try simp only [List.map_toArray, List.map_cons, List.map_nil]); rfl) ?_; (with_reducible refine (clepsydraref03_at.calls _ _ l0 x7_1 t132 _ ?side1 ?side2 A7.out).mono ?_); (case side1 => exact (Kd.C_below HR0.out HB.out)); (case side2 => exact HC0.out); rintro e w' ⟨rfl, ⟨nd, rfl⟩⟩; refine ⟨_, rfl, ?_⟩) | ((with_reducible refine gate_callee (f := 178) rfl ?_); refine goesL_ (some 30) rfl rfl Tryz.func178 (by kernel_rfl) rfl #[.slice A1 l1.length c1, .int .i64 x7_1] rfl (by (try simp only [List.map_toArray, List.map_cons, List.map_nil]); rfl) ?_; (with_reducible refine (clepsydraref03_at.calls _ _ l1 x7_1 t133 _ ?side1 ?side2 A8.out).mono ?_); (case side1 => repeat ((exact (Kd.C_below HR1.out (by repeat ((with_reducible first | exact HB.out | apply pw_below_drewN))))))); (case side2 => exact HC1.out); rintro e w' ⟨rfl, ⟨nd, rfl⟩⟩; refine ⟨_, rfl, ?_⟩) | ((with_reducible refine gate_builtin (b := .append) (xs := #[.tmp 34, .tmp 37]) rfl ?_); (try (refine gate_guard (by rfl) ?_; dsimp only)); at_builtin; refine Kd.R_append (Kd.int .i64) (w0 := w) w.heap.size rfl (.tmp 34) (.tmp 37) 120 3 (.int .i64 0) 8 rfl Tryz.underlying120 info3 rfl (by decide) (by omega) u5 x5_1 (Go.bits .and .i64 (wrap64 ((wrap64 (t132 + t133)) + x6_1)) 65535) [.int .i64 (Go.bits .and .i64 (wrap64 ((wrap64 (t132 + t133)) + x6_1)) 65535)] (fun _ => True) (fun _ => False) rfl rfl ?aP (fun _ hk => hk.elim) ?aF ?aO ?aB ?aS ?aL ?_; (case aP => exact rfl); (case aB => exact (by repeat ((with_reducible first | exact HB.out | apply pw_below_drewN)))); (case aF => exact (fun _ _ => trivial)); (case aO => exact (by (with_reducible repeat ((apply Kd.R_drewN))); exact HO_5.out)); (case aS => exact (below_size (by repeat ((with_reducible first | exact HB.out | apply pw_below_drewN))))); (case aL => have := LMc9.out; omega); intro v135 w10 ho hb hg hat; rw [← Ny134.out] at ho; replace HB := Aside0.mk (hb); have HO136 := Aside0.mk (ho); clear HO_5; clear ho hb hg hat))
       go_roundg kj2
       case measure => have := HK1.out; have := HJ2.out; omega
       case rel => exact ⟨(y134), ((wrap64 ((wrap64 (t132 + t133)) + x6_1)) / 65536), (wrap64 (x7_1 + 1)), (by rfl), (by rfl), H', ⟨by have := HK1.out; have := HJ2.out; omega⟩, ⟨by exact HO136.out⟩, ⟨HB.out⟩⟩
      ·rw [if_neg c9] at H
       exact absurd H (by simp)
     ·replace c6 := Bool.eq_false_iff.mpr c6
      subst c6
      rw [if_neg (show ¬ (false = true) by decide)] at H
      obtain rfl := Option.some.inj H
      simp only [Option.some.injEq, Prod.mk.injEq] at H
      obtain ⟨rfl⟩ := H
      go_wp2
      go_ret
      exact ⟨_, by rfl, by exact HO_5.out, HB.out⟩
end Go.Proofs.YtdmglajfmfjmlaaGreat.Cq
namespace Go.Proofs.YtdmglajfmfjmlaaGreat.Cq
open Go.RowKit Go.Proofs.YtdmglajfmfjmlaaGreatW.PrintWords Go.Proofs.YtdmglajfmfjmlaaGreatW.PrintLast Go.Proofs.YtdmglajfmfjmlaaGreatW.PrintMore
attribute [local go_sem] max2_int min2_int max_two min_two max_three min_three max_four min_four   -- for this text's walks alone
set_option linter.unusedVariables false
set_option linter.unusedSimpArgs false
def clepsydraref03_minus.l0 : Nat → List Int → List Int → List Int → Int → Int → Option (List Int)
 | 0, _, _, _, _, _ => none
 | k + 1, x0, x1, x5, x6, x7 => if x7 < (x0.length : Int) then (if 0 ≤ x7 then ((clepsydraref03_at.f x1 x7).bind fun t138 => (if (wrap64 ((wrap64 ((rd x0 x7) - t138)) - x6)) < 0 then (if x5.length < 17592186044416 then (clepsydraref03_minus.l0 k x0 x1 (x5 ++ [wrap64 ((wrap64 ((wrap64 ((rd x0 x7) - t138)) - x6)) + 65536)]) 1 (wrap64 (x7 + 1))) else (none)) else (if x5.length < 17592186044416 then (clepsydraref03_minus.l0 k x0 x1 (x5 ++ [wrap64 ((wrap64 ((rd x0 x7) - t138)) - x6)]) 0 (wrap64 (x7 + 1))) else (none)))) else (none)) else ((clepsydraref03_cut.f k x5).bind fun t145 => (some t145))
def clepsydraref03_minus.f (k : Nat) (l0 : List Int) (l1 : List Int) : Option (List Int) := clepsydraref03_minus.l0 k l0 l1 ([] : List Int) 0 0
set_option maxHeartbeats 8000000 in
set_option maxRecDepth 100000 in
theorem clepsydraref03_minus.calls (k : Nat) (A0 : Option Addr) (c0 : Nat) (l0 : List Int) (A1 : Option Addr) (c1 : Nat) (l1 : List Int) (r : List Int) (w : World) (hr0 : Kd.C (Kd.int .i64) w A0 l0.length l0) (hc0 : l0.length ≤ c0) (hr1 : Kd.C (Kd.int .i64) w A1 l1.length l1) (hc1 : l1.length ≤ c1) (h : clepsydraref03_minus.f k l0 l1 = some r) :
  Calls Tryz.prog 140 #[.slice A0 l0.length c0, .slice A1 l1.length c1] w fun e w' => ∃ v0_ : Value, e = .returned (v0_) ∧ Kd.R (Kd.int .i64) 3 w' w.heap.size (fun _ => True) v0_ r ∧ Below w.heap.size w w' := by
 have HR0 := Aside0.mk hr0
 have HC0 := Aside0.mk hc0
 clear hr0 hc0
 have HR1 := Aside0.mk hr1
 have HC1 := Aside0.mk hc1
 clear hr1 hc1
 have HB := Aside0.mk (Below.refl w.heap.size w)
 have H : (clepsydraref03_minus.l0 k l0 l1 ([] : List Int) 0 0) = some r := h
 clear h
 have H' := Aside0.mk H
 clear H
 go_enter Tryz.func140, Tryz.ntmps140
 go_wp2
 repeat (go_quiet (fail); try go_wp2)
 go_loopg [5, 6, 7] k (fun kq v5 v6 v7 w' => ∃ (x5_1 : List Int) (x6_1 : Int) (x7_1 : Int), v6 = .int .i64 x6_1 ∧ v7 = .int .i64 x7_1 ∧ Aside0 (clepsydraref03_minus.l0 kq l0 l1 x5_1 x6_1 x7_1 = some r) ∧ Aside0 (kq ≤ k) ∧ Aside0 (Kd.R (Kd.int .i64) 3 w' w.heap.size (fun _ => True) v5 x5_1) ∧ Aside0 (Below w.heap.size w w'))
 case atStart => exact ⟨(([] : List Int)), (0), (0), (by rfl), (by rfl), H', ⟨Nat.le_refl _⟩, ⟨by (exact Kd.R_nil _ _ _ _ _)⟩, ⟨HB.out⟩⟩
 case round =>
  clear H'
  try clear c1
  try clear p2
  obtain ⟨x5_1, x6_1, x7_1, rfl, rfl, HA, HK1, HO_5, HB⟩ := hrel
  cases gk with
  | zero => exact absurd HA.out (by simp [clepsydraref03_minus.l0])
  | succ k1 =>
   have H := HA.out
   clear HA
   simp only [clepsydraref03_minus.l0] at H
   by_cases c3 : x7_1 < (l0.length : Int)
   ·rw [if_pos c3] at H
    have c3b0 : decide (x7_1 < (l0.length : Int)) = true := decide_eq_true c3
    clear c3
    by_cases c4 : 0 ≤ x7_1
    ·rw [if_pos c4] at H
     have c4b0 : decide (0 ≤ x7_1) = true := decide_eq_true c4
     clear c4
     replace H := Option.bind_eq_some_iff.mp H
     obtain ⟨t138, A50, H⟩ := H
     try dsimp only at H
     have A5 := Aside0.mk A50
     clear A50
     by_cases c6 : (wrap64 ((wrap64 ((rd l0 x7_1) - t138)) - x6_1)) < 0
     ·rw [if_pos c6] at H
      have c6b0 : decide ((wrap64 ((wrap64 ((rd l0 x7_1) - t138)) - x6_1)) < 0) = true := decide_eq_true c6
      clear c6
      by_cases c7 : x5_1.length < 17592186044416
      ·rw [if_pos c7] at H
       have LMc7 := Aside0.mk c7
       clear c7
       obtain ⟨y139, hy139⟩ : ∃ y_ : List Int, y_ = (x5_1 ++ [wrap64 ((wrap64 ((wrap64 ((rd l0 x7_1) - t138)) - x6_1)) + 65536)]) := ⟨_, rfl⟩
       rw [← hy139] at H
       have Ny139 := Aside0.mk hy139
       clear hy139
       have H' := Aside0.mk H
       clear H
       have p137 : 0 ≤ (x7_1 : Int) := of_decide_eq_true (by (with_reducible assumption))
       have q137 : x7_1 < (l0.length : Int) := of_decide_eq_true (by (with_reducible assumption))
       obtain ⟨ad137, e137, hx137_0⟩ := Kd.at_int HR0.out x7_1 p137 q137
       cases e137
       replace hx137_0 := (HB.out.cell (World.block_lt_of_cell? w _ hx137_0)).trans hx137_0
       replace p137 := eq_true p137
       replace q137 := eq_true q137
       go_wp2_with (fail)
       repeat (go_quiet (((go_at_call 178; (with_reducible refine (clepsydraref03_at.calls _ _ l1 x7_1 t138 _ ?side1 ?side2 A5.out).mono ?_); (case side1 => repeat (first | exact (Kd.C_below HR1.out HB.out) | (with_reducible refine Kd.C_drewN ?_ _))); (case side2 => exact HC1.out); rintro e w' ⟨rfl, ⟨nd, rfl⟩⟩; (try (exact ⟨rfl, _, World.drewN_drewN _ _ _⟩))))); try go_wp2_with ((((with_reducible refine gate_builtin (b := .append) (xs := #[.tmp 29, .tmp 31]) rfl ?_); at_builtin; refine Kd.R_append (Kd.int .i64) (w0 := w) w.heap.size rfl (.tmp 29) (.tmp 31) 120 3 (.int .i64 0) 8 rfl Tryz.underlying120 info3 rfl (by decide) (by omega) u5 x5_1 (wrap64 ((wrap64 ((wrap64 ((rd l0 x7_1) - t138)) - x6_1)) + 65536)) [.int .i64 (wrap64 ((wrap64 ((wrap64 ((rd l0 x7_1) - t138)) - x6_1)) + 65536))] (fun _ => True) (fun _ => False) rfl rfl ?aP (fun _ hk => hk.elim) ?aF ?aO ?aB ?aS ?aL ?_; (case aP => exact rfl); (case aB => exact (by repeat ((with_reducible first | exact HB.out | apply pw_below_drewN)))); (case aF => exact (fun _ _ => trivial)); (case aO => exact (by (with_reducible repeat ((apply Kd.R_drewN))); exact HO_5.out)); (case aS => exact (below_size (by repeat ((with_reducible first | exact HB.out | apply pw_below_drewN))))); (case aL => have := LMc7.out; omega); intro v140 w8 ho hb hg hat; rw [← Ny139.out] at ho; replace HB := Aside0.mk (hb); have HO141 := Aside0.mk (ho); clear HO_5; clear ho hb hg hat))))
       go_roundg k1
       case measure => have := HK1.out; omega
       case rel => exact ⟨(y139), (1), (wrap64 (x7_1 + 1)), (by rfl), (by rfl), H', ⟨by have := HK1.out; omega⟩, ⟨by exact HO141.out⟩, ⟨HB.out⟩⟩
      ·rw [if_neg c7] at H
       exact absurd H (by simp)
     ·rw [if_neg c6] at H
      have c6b0 : decide ((wrap64 ((wrap64 ((rd l0 x7_1) - t138)) - x6_1)) < 0) = false := decide_eq_false c6
      clear c6
      by_cases c9 : x5_1.length < 17592186044416
      ·rw [if_pos c9] at H
       have LMc9 := Aside0.mk c9
       clear c9
       obtain ⟨y142, hy142⟩ : ∃ y_ : List Int, y_ = (x5_1 ++ [wrap64 ((wrap64 ((rd l0 x7_1) - t138)) - x6_1)]) := ⟨_, rfl⟩
       rw [← hy142] at H
       have Ny142 := Aside0.mk hy142
       clear hy142
       have H' := Aside0.mk H
       clear H
       have p137 : 0 ≤ (x7_1 : Int) := of_decide_eq_true (by (with_reducible assumption))
       have q137 : x7_1 < (l0.length : Int) := of_decide_eq_true (by (with_reducible assumption))
       obtain ⟨ad137, e137, hx137_0⟩ := Kd.at_int HR0.out x7_1 p137 q137
       cases e137
       replace hx137_0 := (HB.out.cell (World.block_lt_of_cell? w _ hx137_0)).trans hx137_0
       replace p137 := eq_true p137
       replace q137 := eq_true q137
       go_wp2_with (fail)
       repeat (go_quiet (((go_at_call 178; (with_reducible refine (clepsydraref03_at.calls _ _ l1 x7_1 t138 _ ?side1 ?side2 A5.out).mono ?_); (case side1 => repeat (first | exact (Kd.C_below HR1.out HB.out) | (with_reducible refine Kd.C_drewN ?_ _))); (case side2 => exact HC1.out); rintro e w' ⟨rfl, ⟨nd, rfl⟩⟩; (try (exact ⟨rfl, _, World.drewN_drewN _ _ _⟩))))); try go_wp2_with ((((with_reducible refine gate_builtin (b := .append) (xs := #[.tmp 29, .tmp 31]) rfl ?_); at_builtin; refine Kd.R_append (Kd.int .i64) (w0 := w) w.heap.size rfl (.tmp 29) (.tmp 31) 120 3 (.int .i64 0) 8 rfl Tryz.underlying120 info3 rfl (by decide) (by omega) u5 x5_1 (wrap64 ((wrap64 ((rd l0 x7_1) - t138)) - x6_1)) [.int .i64 (wrap64 ((wrap64 ((rd l0 x7_1) - t138)) - x6_1))] (fun _ => True) (fun _ => False) rfl rfl ?aP (fun _ hk => hk.elim) ?aF ?aO ?aB ?aS ?aL ?_; (case aP => exact rfl); (case aB => exact (by repeat ((with_reducible first | exact HB.out | apply pw_below_drewN)))); (case aF => exact (fun _ _ => trivial)); (case aO => exact (by (with_reducible repeat ((apply Kd.R_drewN))); exact HO_5.out)); (case aS => exact (below_size (by repeat ((with_reducible first | exact HB.out | apply pw_below_drewN))))); (case aL => have := LMc9.out; omega); intro v143 w10 ho hb hg hat; rw [← Ny142.out] at ho; replace HB := Aside0.mk (hb); have HO144 := Aside0.mk (ho); clear HO_5; clear ho hb hg hat))))
       go_roundg k1
       case measure => have := HK1.out; omega
       case rel => exact ⟨(y142), (0), (wrap64 (x7_1 + 1)), (by rfl), (by rfl), H', ⟨by have := HK1.out; omega⟩, ⟨by exact HO144.out⟩, ⟨HB.out⟩⟩
      ·rw [if_neg c9] at H
       exact absurd H (by simp)
    ·rw [if_neg c4] at H
     exact absurd H (by simp)
   ·rw [if_neg c3] at H
    have c3b0 : decide (x7_1 < (l0.length : Int)) = false := decide_eq_false c3
    clear c3
    replace H := Option.bind_eq_some_iff.mp H
    obtain ⟨t145, A110, H⟩ := H
    try dsimp only at H
    have A11 := Aside0.mk A110
    clear A110
    obtain rfl := Option.some.inj H
    simp only [Option.some.injEq, Prod.mk.injEq] at H
    obtain ⟨rfl⟩ := H
    obtain ⟨Ao12, co12, eo12⟩ := Kd.R_slice HO_5.out
    subst eo12
    go_wp2_with (((go_at_call 179; (with_reducible refine (clepsydraref03_cut.calls k1 (fun k_ => some k_ = (.slice Ao12 x5_1.length co12 : Value).ownBlock) (.slice Ao12 x5_1.length co12) x5_1 t145 w _ ?side1 ?side2 A11.out).mono ?_); (case side1 => exact HB.out); (case side2 => exact Kd.R_tight rfl HO_5.out); rintro e w13 ⟨v146, rfl, ho0, hb, hkp⟩; have HO147 := Aside0.mk (Kd.R_mono (ok' := fun k_ => True) ho0 (fun k_ hk_ => trivial)); replace HB := Aside0.mk (hb); clear HO_5; clear hb hkp ho0)))
    repeat (go_quiet (fail); try go_wp2_with (fail))
    go_ret
    exact ⟨_, by rfl, by exact HO147.out, HB.out⟩
def clepsydraref03_bit.f (l0 : List Int) (a1 : Int) : Option (Int) := (clepsydraref03_at.f l0 (wrap64 (Int.tdiv a1 16))).bind fun t148 => (if 0 ≤ (IntKind.u64.wrap (Int.tmod a1 16)) then (some (Go.bits .and .i64 (shr .i64 t148 (IntKind.u64.wrap (Int.tmod a1 16))) 1)) else (none))
set_option maxHeartbeats 8000000 in
set_option maxRecDepth 100000 in
theorem clepsydraref03_bit.calls (A0 : Option Addr) (c0 : Nat) (l0 : List Int) (a1 : Int) (r : Int) (w : World) (hr0 : Kd.C (Kd.int .i64) w A0 l0.length l0) (hc0 : l0.length ≤ c0) (h : clepsydraref03_bit.f l0 a1 = some r) :
  Calls Tryz.prog 180 #[.slice A0 l0.length c0, .int .i64 a1] w fun e w' => e = .returned (.int .i64 r) ∧ Drawn0 w w' := by
 have HR0 := Aside0.mk hr0
 have HC0 := Aside0.mk hc0
 clear hr0 hc0
 have H : ((clepsydraref03_at.f l0 (wrap64 (Int.tdiv a1 16))).bind fun t148 => (if 0 ≤ (IntKind.u64.wrap (Int.tmod a1 16)) then (some (Go.bits .and .i64 (shr .i64 t148 (IntKind.u64.wrap (Int.tmod a1 16))) 1)) else (none))) = some r := h
 clear h
 replace H := Option.bind_eq_some_iff.mp H
 obtain ⟨t148, A30, H⟩ := H
 try dsimp only at H
 have A3 := Aside0.mk A30
 clear A30
 obtain ⟨ji4, hji4⟩ : ∃ j_ : Int, (IntKind.u64.wrap (Int.tmod a1 16)) = j_ := ⟨_, rfl⟩
 rw [hji4] at H
 (try rw [hji4] at A3)
 by_cases c5 : 0 ≤ (ji4)
 ·rw [if_pos c5] at H
  have c5b0 := eq_true c5
  have c5b1 : decide (0 ≤ (ji4)) = true := decide_eq_true c5
  clear c5
  obtain ⟨ji6, hji6⟩ : ∃ j_ : Int, (shr .i64 t148 (ji4)) = j_ := ⟨_, rfl⟩
  rw [hji6] at H
  (try rw [hji6] at A3)
  have hji6_ : (t148 / 2 ^ min (ji4).toNat 64) = ji6 := hji6
  have hji6z : (ji4) ≤ 64 → (t148 / 2 ^ (ji4).toNat) = ji6 := shr_small hji6
  obtain rfl := Option.some.inj H
  simp only [Option.some.injEq, Prod.mk.injEq] at H
  obtain ⟨rfl⟩ := H
  go_enter Tryz.func180, Tryz.ntmps180
  go_wp2_with ((((with_reducible refine gate_callee (f := 178) rfl ?_); refine goesL_ (some 8) rfl rfl Tryz.func178 (by kernel_rfl) rfl #[.slice A0 l0.length c0, .int .i64 (wrap64 (Int.tdiv a1 16))] rfl (by (try simp only [List.map_toArray, List.map_cons, List.map_nil]); rfl) ?_; (with_reducible refine (clepsydraref03_at.calls _ _ l0 (wrap64 (Int.tdiv a1 16)) t148 _ ?side1 ?side2 A3.out).mono ?_); (case side1 => exact HR0.out); (case side2 => exact HC0.out); rintro e w' ⟨rfl, ⟨nd, rfl⟩⟩; refine ⟨_, rfl, ?_⟩)))
  go_ret
  exact ⟨by rfl, by repeat (first | exact Drawn0.refl _ | apply Drawn0.step)⟩
 ·rw [if_neg c5] at H
  exact absurd H (by simp)
def clepsydraref03_noughts.l0 : Nat → Int → List Int → Int → Option (List Int)
 | 0, _, _, _ => none
 | k + 1, x0, x3, x4 => if x4 < x0 then (if x3.length < 17592186044416 then (clepsydraref03_noughts.l0 k x0 (x3 ++ [0]) (wrap64 (x4 + 1))) else (none)) else (some x3)
def clepsydraref03_noughts.f (k : Nat) (a0 : Int) : Option (List Int) := clepsydraref03_noughts.l0 k a0 ([] : List Int) 0
set_option maxHeartbeats 8000000 in
set_option maxRecDepth 100000 in
theorem clepsydraref03_noughts.calls (k : Nat) (a0 : Int) (r : List Int) (w : World) (h : clepsydraref03_noughts.f k a0 = some r) :
  Calls Tryz.prog 181 #[.int .i64 a0] w fun e w' => ∃ v0_ : Value, e = .returned (v0_) ∧ Kd.R (Kd.int .i64) 3 w' w.heap.size (fun _ => True) v0_ r ∧ Below w.heap.size w w' := by
 have HB := Aside0.mk (Below.refl w.heap.size w)
 have H : (clepsydraref03_noughts.l0 k a0 ([] : List Int) 0) = some r := h
 clear h
 have H' := Aside0.mk H
 clear H
 go_enter Tryz.func181, Tryz.ntmps181
 go_wp2
 go_loopg [3, 4] k (fun kq v3 v4 w' => ∃ (x3_1 : List Int) (x4_1 : Int), v4 = .int .i64 x4_1 ∧ Aside0 (clepsydraref03_noughts.l0 kq a0 x3_1 x4_1 = some r) ∧ Aside0 (kq ≤ k) ∧ Aside0 (Kd.R (Kd.int .i64) 3 w' w.heap.size (fun _ => True) v3 x3_1) ∧ Aside0 (Below w.heap.size w w'))
 case atStart => exact ⟨(([] : List Int)), (0), (by rfl), H', ⟨Nat.le_refl _⟩, ⟨by (exact Kd.R_nil _ _ _ _ _)⟩, ⟨HB.out⟩⟩
 case round =>
  clear H'
  try clear c1
  obtain ⟨x3_1, x4_1, rfl, HA, HK1, HO_3, HB⟩ := hrel
  cases gk with
  | zero => exact absurd HA.out (by simp [clepsydraref03_noughts.l0])
  | succ k1 =>
   have H := HA.out
   clear HA
   simp only [clepsydraref03_noughts.l0] at H
   by_cases c2 : x4_1 < a0
   ·rw [if_pos c2] at H
    have c2b0 : decide (x4_1 < a0) = true := decide_eq_true c2
    clear c2
    by_cases c3 : x3_1.length < 17592186044416
    ·rw [if_pos c3] at H
     have LMc3 := Aside0.mk c3
     clear c3
     obtain ⟨y149, hy149⟩ : ∃ y_ : List Int, y_ = (x3_1 ++ [0]) := ⟨_, rfl⟩
     rw [← hy149] at H
     have Ny149 := Aside0.mk hy149
     clear hy149
     have H' := Aside0.mk H
     clear H
     go_wp2_with ((((with_reducible refine gate_builtin (b := .append) (xs := #[.tmp 10, .tmp 11]) rfl ?_); at_builtin; refine Kd.R_append (Kd.int .i64) (w0 := w) w.heap.size rfl (.tmp 10) (.tmp 11) 120 3 (.int .i64 0) 8 rfl Tryz.underlying120 info3 rfl (by decide) (by omega) u3 x3_1 0 [.int .i64 0] (fun _ => True) (fun _ => False) rfl rfl ?aP (fun _ hk => hk.elim) ?aF ?aO ?aB ?aS ?aL ?_; (case aP => exact rfl); (case aB => exact HB.out); (case aF => exact (fun _ _ => trivial)); (case aO => exact HO_3.out); (case aS => exact (below_size HB.out)); (case aL => have := LMc3.out; omega); intro v150 w4 ho hb hg hat; rw [← Ny149.out] at ho; replace HB := Aside0.mk (hb); have HO151 := Aside0.mk (ho); clear HO_3; clear ho hb hg hat)))
     go_roundg k1
     case measure => have := HK1.out; omega
     case rel => exact ⟨(y149), (wrap64 (x4_1 + 1)), (by rfl), H', ⟨by have := HK1.out; omega⟩, ⟨by exact HO151.out⟩, ⟨HB.out⟩⟩
    ·rw [if_neg c3] at H
     exact absurd H (by simp)
   ·rw [if_neg c2] at H
    have c2b0 : decide (x4_1 < a0) = false := decide_eq_false c2
    clear c2
    obtain rfl := Option.some.inj H
    simp only [Option.some.injEq, Prod.mk.injEq] at H
    obtain ⟨rfl⟩ := H
    go_wp2
    go_ret
    exact ⟨_, by rfl, by exact HO_3.out, HB.out⟩
end Go.Proofs.YtdmglajfmfjmlaaGreat.Cq
namespace Go.Proofs.YtdmglajfmfjmlaaGreat.Cq
open Go.RowKit Go.Proofs.YtdmglajfmfjmlaaGreatW.PrintWords Go.Proofs.YtdmglajfmfjmlaaGreatW.PrintLast Go.Proofs.YtdmglajfmfjmlaaGreatW.PrintMore
attribute [local go_sem] max2_int min2_int max_two min_two max_three min_three max_four min_four   -- for this text's walks alone
set_option linter.unusedVariables false
set_option linter.unusedSimpArgs false
end Go.Proofs.YtdmglajfmfjmlaaGreat.Cq
namespace Go.Proofs.YtdmglajfmfjmlaaGreat
set_option linter.unusedSimpArgs false
set_option linter.unusedVariables false
set_option maxRecDepth 100000
open Go.RowKit Go.Proofs.YtdmglajfmfjmlaaGreatW.PrintWords Go.Proofs.YtdmglajfmfjmlaaGreatW.PrintLast Go.Proofs.YtdmglajfmfjmlaaGreatW.PrintMore
theorem noughts_l0 {n : Nat} (hn : n < 17592186044416) : ∀ (d i k : Nat), i + d = n → d < k → Cq.clepsydraref03_noughts.l0 k (n : Int) (List.replicate i 0) (i : Int) = some (List.replicate n 0) := by
  intro d
  induction d with
  | zero =>
    intro i k hi hk
    obtain ⟨k, rfl⟩ : ∃ q, k = q + 1 := ⟨k - 1, by omega⟩
    simp only [Cq.clepsydraref03_noughts.l0]
    rw [if_neg (by omega), show i = n by omega]
  | succ d ih =>
    intro i k hi hk
    obtain ⟨k, rfl⟩ : ∃ q, k = q + 1 := ⟨k - 1, by omega⟩
    simp only [Cq.clepsydraref03_noughts.l0]
    have hw : wrap64 ((i : Int) + 1) = ((i + 1 : Nat) : Int) := by rw [wr (by omega) (by omega)]; omega
    rw [if_pos (by omega), if_pos (by rw [List.length_replicate]; omega), hw, ← List.replicate_succ']
    exact ih (i + 1) k (by omega) (by omega)
theorem toN_replicate (n : Nat) : toN (List.replicate n 0) = List.replicate n 0 := by simp [toN]
theorem noughts_any (w : World) (z : Int) (n : Nat) (hz : z = (n : Int)) (hn : n < 17592186044416) :
    Calls Tryz.prog 181 #[.int .i64 z] w fun e w' => ∃ A c, e = .returned (.slice A n c) ∧ Own .i64 3 w' w.heap.size A n c (List.replicate n 0) ∧ Below w.heap.size w w' := by
  subst hz
  refine (Cq.clepsydraref03_noughts.calls (n + 1) (n : Int) (List.replicate n 0) w (noughts_l0 hn n 0 (n + 1) (by omega) (by omega))).mono ?_
  rintro e w' ⟨v, rfl, hR, hb⟩
  obtain ⟨A, c, rfl, ho⟩ := Own.of_R hR (fun x hx => by rw [List.eq_of_mem_replicate hx]; omega)
  rw [toN_replicate, List.length_replicate] at ho
  exact ⟨A, c, by rw [List.length_replicate], ho, hb⟩
theorem D.nv_drop_div {xs : List Nat} (h : D.D16 xs) (k : Nat) : D.nv xs / 65536 ^ k = D.nv (xs.drop k) := by
  induction k generalizing xs with
  | zero => simp
  | succ k ih =>
    rcases xs with _ | ⟨x, xs⟩
    · simp [D.nv]
    · have hx := h.head
      rw [List.drop_succ_cons, ← ih h.tail, Nat.pow_succ, Nat.mul_comm, ← Nat.div_div_eq_div_mul]
      congr 1
      simp only [D.nv]; omega
theorem D.nv_drop_any (xs : List Nat) (k : Nat) : D.nv (xs.drop k) = gd xs k + 65536 * D.nv (xs.drop (k + 1)) := by
  rcases Nat.lt_or_ge k xs.length with h | h
  · rw [List.drop_eq_getElem_cons h, gd_lt h]; rfl
  · rw [List.drop_eq_nil_of_le h, List.drop_eq_nil_of_le (by omega), gd_ge h]; rfl
theorem D.wpow (k : Nat) : 65536 ^ k = 2 ^ (16 * k) := by rw [show (65536 : Nat) = 2 ^ 16 from rfl, ← Nat.pow_mul]
theorem D.digit_bit (xs : List Nat) (h : D.D16 xs) (i : Nat) : gd xs (i / 16) / 2 ^ (i % 16) % 2 = D.nv xs / 2 ^ i % 2 := by
  have e1 : D.nv xs / 2 ^ (16 * (i / 16)) = D.nv (xs.drop (i / 16)) := by rw [← D.wpow, D.nv_drop_div h]
  have e2 : D.nv xs / 2 ^ i = D.nv (xs.drop (i / 16)) / 2 ^ (i % 16) := by
    rw [← e1, Nat.div_div_eq_div_mul, ← Nat.pow_add, show 16 * (i / 16) + i % 16 = i by omega]
  rw [e2, D.nv_drop_any]
  have hr : i % 16 < 16 := Nat.mod_lt _ (by omega)
  generalize i % 16 = r at *
  generalize D.nv (xs.drop (i / 16 + 1)) = Y
  generalize gd xs (i / 16) = x
  have e3 : 65536 * Y = 2 ^ r * (2 * (2 ^ (15 - r) * Y)) := by
    rw [← Nat.mul_assoc, ← Nat.mul_assoc, show 2 ^ r * 2 * 2 ^ (15 - r) = 65536 by rw [← Nat.pow_succ, ← Nat.pow_add, show r.succ + (15 - r) = 16 by omega]]
  rw [e3, Nat.add_mul_div_left _ _ (Nat.pow_pos (by omega))]; omega
theorem u64w3 {x : Nat} (h : x < 18446744073709551616) : IntKind.u64.wrap (x : Int) = (x : Int) := by
  have : IntKind.u64.wrap (x : Int) = (x : Int) % 18446744073709551616 := rfl
  rw [this]; omega
theorem and1_i64 {v : Nat} (h : v < 9223372036854775808) : Go.bits .and .i64 (v : Int) 1 = ((v % 2 : Nat) : Int) := by
  have := (bits_nat .i64 63 (by decide) wraps_i64 v 1 (by omega) (by decide)).1
  rw [show ((1 : Nat) : Int) = 1 from rfl] at this
  rw [this, show (1 : Nat) = 2 ^ 1 - 1 from rfl, Nat.and_two_pow_sub_one_eq_mod]
theorem shr_i64 {v j : Nat} (hj : j < 64) : shr .i64 (v : Int) (j : Int) = ((v / 2 ^ j : Nat) : Int) := by
  unfold shr
  rw [Int.toNat_natCast, show min j IntKind.i64.bits = j from Nat.min_eq_left (by have : IntKind.i64.bits = 64 := rfl; omega)]
  push_cast; rfl
theorem at_pure3 {xs : List Nat} (i : Nat) (hi : i ≤ 4611686018427387904) : Cq.clepsydraref03_at.f (cI xs) (i : Int) = some ((gd xs i : Nat) : Int) := by
  unfold Cq.clepsydraref03_at.f
  rw [cI_length]
  by_cases h : i < xs.length
  · rw [if_neg (by omega), if_pos (by omega), if_pos (by omega)]
    congr 1
    unfold rd
    rw [Int.toNat_natCast]
    unfold cI
    rw [List.getD_eq_getElem?_getD, List.getElem?_map, gd_get h]; rfl
  · rw [if_pos (by omega), gd_ge (by omega)]; rfl
theorem bit_pure3 {xs : List Nat} (h : D.D16 xs) (i : Nat) (hi : i ≤ 4611686018427387904) : Cq.clepsydraref03_bit.f (cI xs) (i : Int) = some ((D.nv xs / 2 ^ i % 2 : Nat) : Int) := by
  unfold Cq.clepsydraref03_bit.f
  have hr : i % 16 < 16 := Nat.mod_lt _ (by omega)
  have e : Int.tdiv (i : Int) 16 = ((i / 16 : Nat) : Int) := by rw [Int.tdiv_eq_ediv_of_nonneg (by omega)]; omega
  have e2 : Int.tmod (i : Int) 16 = ((i % 16 : Nat) : Int) := by rw [Int.tmod_eq_emod_of_nonneg (by omega)]; omega
  have e3 : IntKind.u64.wrap ((i % 16 : Nat) : Int) = ((i % 16 : Nat) : Int) := u64w3 (by omega)
  have hg := h.gd (i / 16)
  rw [e, e2, e3, wr (by omega) (by omega), at_pure3 _ (by omega), Option.bind_some, if_pos (by omega), shr_i64 (by omega), and1_i64 (Nat.lt_of_le_of_lt (Nat.div_le_self _ _) (by omega)), D.digit_bit xs h]
theorem bit3_any (w : World) {A : Option Addr} {n c : Nat} {xs : List Nat} (h : Rd .i64 w A n c xs) (hd : D.D16 xs) (i : Nat) (hi : i ≤ 4611686018427387904) :
    Calls Tryz.prog 180 #[.slice A n c, .int .i64 i] w fun e w' => e = .returned (.int .i64 ((D.nv xs / 2 ^ i % 2 : Nat) : Int)) ∧ Drawn0 w w' := by
  have hl := h.len
  have hc := h.cap
  have := Cq.clepsydraref03_bit.calls A c (cI xs) (i : Int) _ w (C_of_Rd h) (by rw [cI_length, hl]; exact hc) (bit_pure3 hd i hi)
  rwa [cI_length, hl] at this
set_option maxHeartbeats 400000 in
theorem cut3_any (w : World) {A : Option Addr} {n c : Nat} {xs : List Nat} (hx : Rd .i64 w A n c xs) (hd : D.D16 xs) (hn : n ≤ 1073741824) :
    Calls Tryz.prog 179 #[.slice A n c] w fun e w' => e = .returned (.slice A (D.ln (D.nv xs)) c) ∧ w' = w := by
  have hmax := hx.max
  have hcap := hx.cap
  have HX := Lib.hid hx
  have HD := Lib.hid hd
  clear hx hd
  go_enter Tryz.func179, Tryz.ntmps179
  go_wp2
  go_loop [3] (fun i => ∃ k : Nat, k ≤ n ∧ D.nv (xs.take k) = D.nv xs ∧ i = .int .i64 (k : Int)) (fun i => (intOf i).toNat)
  case atStart => exact ⟨n, Nat.le_refl _, by rw [List.take_of_length_le (by rw [HX.out.len]; exact Nat.le_refl _)], rfl⟩
  case round =>
    obtain ⟨k, hk, hv, rfl⟩ := hrel
    have HV := Lib.hid hv
    clear hv
    by_cases hk0 : k = 0
    · subst hk0
      have HL := Lib.hid (show D.ln (D.nv xs) = 0 by rw [← HV.out]; exact D.ln_zero)
      go_wp2_with fail
      go_ret
      exact ⟨by rw [HL.out]; rfl, rfl⟩
    · obtain ⟨k, rfl⟩ : ∃ j, k = j + 1 := ⟨k - 1, by omega⟩
      obtain ⟨ad, rfl, hb, hc⟩ := HX.out.form (by omega)
      have hxc := hc k (by omega)
      clear hc hk0
      by_cases h0 : gd xs k = 0
      · have HM := Lib.hid (show D.nv (xs.take k) = D.nv xs from D.trim_more h0 HV.out)
        rw [h0] at hxc
        clear h0
        go_wp2_with fail
        refine ⟨⟨k, by omega, HM.out, ?_⟩, ?_⟩
        · first | rfl | (congr 1; omega)
        · simp [intOf]
      · have h0' : (((gd xs k : Nat) : Int) == 0) = false := by simp; omega
        have HL := Lib.hid (show D.ln (D.nv xs) = k + 1 by
          unfold D.ln
          rw [D.trim_done HD.out (by rw [HX.out.len]; omega) h0 HV.out, List.length_take, HX.out.len]; omega)
        clear h0
        go_wp2_with fail
        go_ret
        exact ⟨by rw [HL.out]; rfl, rfl⟩
theorem D.take_ln {xs : List Nat} (hd : D.D16 xs) : xs.take (D.ln (D.nv xs)) = D.dgs (D.nv xs) := by
  have key : ∀ k, k ≤ xs.length → D.nv (xs.take k) = D.nv xs → D.dgs (D.nv xs) = xs.take (D.ln (D.nv xs)) := by
    intro k
    induction k with
    | zero => intro _ h; rw [← h]; simp [D.nv, D.dgs_zero, D.ln]
    | succ k ih =>
      intro hk h
      by_cases h0 : gd xs k = 0
      · exact ih (by omega) (D.trim_more h0 h)
      · have h1 := D.trim_done hd (by omega) h0 h
        have h2 : D.ln (D.nv xs) = k + 1 := by unfold D.ln; rw [h1, List.length_take]; omega
        rw [h2, h1]
  exact (key xs.length (Nat.le_refl _) (by rw [List.take_of_length_le (Nat.le_refl _)])).symm
theorem D.ln_le_len {xs : List Nat} (hd : D.D16 xs) : D.ln (D.nv xs) ≤ xs.length := D.ln_nv hd
end Go.Proofs.YtdmglajfmfjmlaaGreat
namespace Go.Proofs.YtdmglajfmfjmlaaGreat
set_option linter.unusedSimpArgs false
set_option linter.unusedVariables false
set_option maxRecDepth 100000
open Go.RowKit Go.Proofs.YtdmglajfmfjmlaaGreatW.PrintWords
def RetDD (q r : Nat) (w : World) (e : Ending) (w' : World) : Prop := ∃ A c A' c', e = .returned (.tuple #[.slice A (D.ln q) c, .slice A' (D.ln r) c']) ∧ Own .i64 3 w' w.heap.size A (D.ln q) c (D.dgs q) ∧ Own .i64 3 w' w.heap.size A' (D.ln r) c' (D.dgs r) ∧ Below w.heap.size w w' ∧ Apart A A'
structure PW (w wr : World) (n c1 gr g2 K c2 : Nat) (A1 : Option Addr) (qs xs : List Nat) (a N k : Nat) : Prop where
  bel : Below w.heap.size w wr
  q : Own .i64 3 wr w.heap.size A1 n c1 qs
  row : RowW wr w.heap.size gr g2 K c2 xs
  q16 : D.D16 qs
  qv : D.nv qs = a / 2 ^ k / N * 2 ^ k
  rv : D.nv xs = a / 2 ^ k % N
theorem below_grown {B : Nat} {w wr w' : World} {g : Nat} (h : Below B w wr) (hg : wr.grownBy w' (some g)) (hB : B ≤ g) (hb : B ≤ wr.heap.size) : Below B w w' := h.grown hg hb (fun g' e => by simp only [Option.some.injEq] at e; omega)
theorem Rd.at_below {w : World} {B : Option Addr} {m d : Nat} {ns : List Nat} (h : Rd .i64 w B m d ns) (hm : 0 < m) : ∀ ad, B = some ad → ad.block < w.heap.size := by
  intro ad e
  obtain ⟨ad', e', hlt, _⟩ := h.form hm
  rw [e'] at e; cases e; exact hlt
theorem two_next (a j : Nat) : a / 2 ^ j = 2 * (a / 2 ^ (j + 1)) + a / 2 ^ j % 2 := by
  have e : a / 2 ^ (j + 1) = a / 2 ^ j / 2 := by rw [Nat.div_div_eq_div_mul, ← Nat.pow_succ]
  rw [e]; omega
theorem div_step {a N j b : Nat} (hN : 0 < N) (hb : a / 2 ^ j % 2 = b) :
    (2 * (a / 2 ^ (j + 1) % N) + b < N → a / 2 ^ j / N = 2 * (a / 2 ^ (j + 1) / N) ∧ a / 2 ^ j % N = 2 * (a / 2 ^ (j + 1) % N) + b) ∧
    (N ≤ 2 * (a / 2 ^ (j + 1) % N) + b → a / 2 ^ j / N = 2 * (a / 2 ^ (j + 1) / N) + 1 ∧ a / 2 ^ j % N = 2 * (a / 2 ^ (j + 1) % N) + b - N) := by
  have h := two_next a j
  rw [hb] at h
  generalize a / 2 ^ j = x at *
  generalize a / 2 ^ (j + 1) = y at *
  have hd := Nat.div_add_mod y N
  have hm := Nat.mod_lt y hN
  generalize y / N = q at *
  generalize y % N = r at *
  have hb1 : b ≤ 1 := by omega
  subst hd h
  refine ⟨fun h => ?_, fun h => ?_⟩
  · have e : 2 * (N * q + r) + b = (2 * r + b) + N * (2 * q) := by rw [Nat.mul_add, Nat.mul_left_comm]; omega
    rw [e, Nat.add_mul_div_left _ _ hN, Nat.add_mul_mod_self_left, Nat.div_eq_of_lt h, Nat.mod_eq_of_lt h]; omega
  · have e : 2 * (N * q + r) + b = (2 * r + b - N) + N * (2 * q + 1) := by rw [Nat.mul_add, Nat.mul_add, Nat.mul_left_comm]; omega
    rw [e, Nat.add_mul_div_left _ _ hN, Nat.add_mul_mod_self_left, Nat.div_eq_of_lt (by omega), Nat.mod_eq_of_lt (by omega)]; omega
theorem bit_set {qs : List Nat} (h : D.D16 qs) {j v : Nat} (hv : D.nv qs = v * 2 ^ (j + 1)) (hl : j / 16 < qs.length) :
    gd qs (j / 16) + 2 ^ (j % 16) < 65536 ∧ D.nv (qs.set (j / 16) (gd qs (j / 16) + 2 ^ (j % 16))) = (2 * v + 1) * 2 ^ j := by
  have hr : j % 16 < 16 := Nat.mod_lt _ (by omega)
  have hg := h.gd (j / 16)
  have e0 : 2 ^ j = 65536 ^ (j / 16) * 2 ^ (j % 16) := by rw [D.wpow, ← Nat.pow_add, show 16 * (j / 16) + j % 16 = j by omega]
  refine ⟨?_, ?_⟩
  · have e1 : D.nv (qs.drop (j / 16)) = 2 ^ (j % 16 + 1) * v := by
      rw [← D.nv_drop_div h, hv, Nat.pow_succ, Nat.pow_succ, e0, Nat.mul_comm v, Nat.mul_assoc, Nat.mul_assoc, Nat.mul_div_cancel_left _ (Nat.pow_pos (by omega)), ← Nat.mul_assoc]
    rw [D.nv_drop_any] at e1
    have e2 : (65536 : Nat) = 2 ^ (j % 16 + 1) * 2 ^ (15 - j % 16) := by rw [← Nat.pow_add, show j % 16 + 1 + (15 - j % 16) = 16 by omega]
    generalize gd qs (j / 16) = d at *
    have e3 : d % 2 ^ (j % 16 + 1) = 0 := by
      have : (d + 65536 * D.nv (qs.drop (j / 16 + 1))) % 2 ^ (j % 16 + 1) = 0 := by rw [e1]; exact Nat.mul_mod_right _ _
      rw [e2, Nat.mul_assoc, Nat.add_mul_mod_self_left] at this
      exact this
    obtain ⟨u, hu⟩ := Nat.dvd_of_mod_eq_zero e3
    have hu2 : u < 2 ^ (15 - j % 16) := by
      rw [hu, e2] at hg
      exact Nat.lt_of_mul_lt_mul_left hg
    have h4 : 2 ^ (j % 16 + 1) * (u + 1) ≤ 65536 := by rw [e2]; exact Nat.mul_le_mul_left _ hu2
    rw [Nat.mul_add, Nat.pow_succ] at h4
    rw [hu, Nat.pow_succ]
    have := Nat.pow_pos (n := j % 16) (show 0 < 2 by omega)
    omega
  · have h1 := D.nv_set (zs := qs) (j := j / 16) (gd qs (j / 16) + 2 ^ (j % 16)) hl
    rw [Nat.mul_add, ← e0, hv, Nat.pow_succ] at h1
    have e5 : (2 * v + 1) * 2 ^ j = v * (2 ^ j * 2) + 2 ^ j := by rw [Nat.add_mul, Nat.mul_comm 2 v, Nat.mul_assoc, Nat.mul_comm 2]; omega
    rw [e5]; omega
theorem Own.takeA {k : IntKind} {e : TypeId} {w : World} {base n c m : Nat} {A : Option Addr} {xs : List Nat} (h : Own k e w base A n c xs) (hm : m ≤ n) : Own k e w base A m c (xs.take m) := by
  rcases h.ways with ⟨rfl, rfl, rfl, rfl⟩ | ⟨g, rfl, _⟩
  · obtain rfl : m = 0 := by omega
    simpa using h
  · exact h.take hm
theorem Own.far {k : IntKind} {e : TypeId} {w : World} {base g n c : Nat} {xs : List Nat} (h : Own k e w base (some ⟨g, 0, none⟩) n c xs) {p : Addr} (hp : p.block ≠ g) (u : Value) : Own k e (w.setCell p u) base (some ⟨g, 0, none⟩) n c xs := by
  refine ⟨h.1, ?_⟩
  rcases h.2 with hn | ⟨g', cap, cur, h1, hg, hh, rest⟩
  · exact .inl hn
  · refine .inr ⟨g', cap, cur, h1, hg, (Below.heap_setCell w p u g' ?_).trans hh, rest⟩
    simp only [Value.slice.injEq, Option.some.injEq, Addr.mk.injEq, and_true, true_and] at h1
    intro e; exact hp (by rw [h1.1, e])
theorem set_val {d v : Nat} (h : d + 2 ^ v < 65536) : wrap64 ((d : Int) + wrap64 ((2 : Int) ^ v)) = ((d + 2 ^ v : Nat) : Int) := by
  obtain ⟨p, hp⟩ : ∃ p : Nat, 2 ^ v = p := ⟨_, rfl⟩
  rw [hp] at h
  rw [show (2 : Int) ^ v = (p : Int) by rw [← hp]; push_cast; rfl, hp]
  unfold wrap64; omega
theorem bit3_q {w : World} {A : Option Addr} {n c i b : Nat} {xs : List Nat} (h : Rd .i64 w A n c xs) (hd : D.D16 xs) (hi : i ≤ 4611686018427387904) (hb : D.nv xs / 2 ^ i % 2 = b) :
    Calls Tryz.prog 180 #[.slice A n c, .int .i64 i] w fun e w' => e = .returned (.int .i64 ((b : Nat) : Int)) ∧ Drawn0 w w' := by
  subst hb; exact bit3_any w h hd i hi
theorem cut3_q {w : World} {A : Option Addr} {n c v : Nat} {xs : List Nat} (h : Rd .i64 w A n c xs) (hd : D.D16 xs) (hn : n ≤ 1073741824) (hv : D.nv xs = v) (j : Nat) :
    Calls Tryz.prog 179 #[.slice A n c] (w.drewN j) fun e w' => e = .returned (.slice A (D.ln v) c) ∧ w' = w.drewN j := by
  subst hv; exact cut3_any _ (h.drewN j) hd hn
theorem row_start {w : World} {base g K c : Nat} (t : TypeId) (h : Own .i64 3 w base (some ⟨g, 0, none⟩) K c (List.replicate K 0)) (hg : g < w.heap.size) : RowW (w.alloc (.cells #[.slice (some ⟨g, 0, none⟩) K c] t)) base w.heap.size g K c (List.replicate K 0) :=
  ⟨((Bk.new _ _ _).cell 0).trans rfl, h.below ((Below.refl _ _).alloc (Nat.le_refl _) _), D.D16.replicate K, by omega, by simp⟩
set_option maxHeartbeats 4000000 in
set_option maxRecDepth 100000 in
theorem parted_any (w : World) {A B : Option Addr} {n c m d : Nat} {us ns : List Nat} (ha : Rd .i64 w A n c us) (da : D.D16 us) (hn : Rd .i64 w B m d ns) (dn : D.D16 ns) (h0 : 0 < D.nv ns) (hnn : n ≤ 65536) (hmm : m ≤ 65536) :
    Calls Tryz.prog 139 #[.slice A n c, .slice B m d] w (RetDD (D.nv us / D.nv ns) (D.nv us % D.nv ns) w) := by
  have hmpos : 0 < m := by
    rcases Nat.eq_zero_or_pos m with h | h
    · have := hn.len; rw [h] at this; rw [List.eq_nil_of_length_eq_zero this] at h0; simp [D.nv] at h0
    · exact h
  have HA := Lib.hid ha
  have HN := Lib.hid hn
  have DA := Lib.hid da
  have DN := Lib.hid dn
  have HBL := Lib.hid (hn.at_below hmpos)
  have H0 := Lib.hid h0
  have HLN := Lib.hid (show D.nv ns < 65536 ^ m by have := D.nv_lt dn; rwa [hn.len] at this)
  have HLA := Lib.hid (show D.nv us < 2 ^ (16 * n) by have := D.nv_lt da; rwa [ha.len, D.wpow] at this)
  clear ha hn da dn h0
  go_enter Tryz.func139, Tryz.ntmps139
  go_wp2_with fail
  refine (noughts_any w (n : Int) n rfl (by omega)).mono ?_
  rintro e w1 ⟨A1, c1, rfl, ho1, hb1⟩
  have HO1 := Lib.hid ho1
  have HB1 := Lib.hid hb1
  have hW1 := hb1.size
  clear ho1 hb1
  go_wp2_with fail
  refine (noughts_any w1 ((m : Int) + 1) (m + 1) (by omega) (by omega)).mono ?_
  rintro e w2 ⟨A2, c2, rfl, ho2, hb2⟩
  obtain ⟨g2, rfl, hg21, hg22⟩ := ho2.blk (by omega)
  have HO2 := Lib.hid ho2
  have HB2 := Lib.hid hb2
  have hW2 := hb2.size
  clear ho2 hb2
  have HPW := Lib.hid (show PW w (w2.alloc (.cells #[.slice (some ⟨g2, 0, none⟩) (m + 1) c2] 154)) n c1 w2.heap.size g2 (m + 1) c2 A1 (List.replicate n 0) (List.replicate (m + 1) 0) (D.nv us) (D.nv ns) (16 * n) from by
    refine ⟨(HB1.out.trans (HB2.out.mono hW1)).trans (((Below.refl w2.heap.size w2).alloc (Nat.le_refl _) _).mono (by omega)), (HO1.out.below HB2.out).below ((Below.refl _ _).alloc (Nat.le_refl _) _), (row_start _ (HO2.out.lower (by omega)) hg22), D.D16.replicate n, ?_, ?_⟩
    · rw [Nat.div_eq_of_lt HLA.out, D.nv_replicate]; simp
    · rw [Nat.div_eq_of_lt HLA.out, D.nv_replicate]; simp)
  go_wp2_with fail
  go_loopw [8] (fun i wr => ∃ (k : Nat) (qs xs : List Nat), k ≤ 16 * n ∧ i = .int .i64 ((k : Int) - 1) ∧ PW w wr n c1 w2.heap.size g2 (m + 1) c2 A1 qs xs (D.nv us) (D.nv ns) k) (fun i _ => (intOf i + 1).toNat)
  case atStart => exact ⟨16 * n, List.replicate n 0, List.replicate (m + 1) 0, Nat.le_refl _, ret_val (by omega), HPW.out⟩
  case round =>
    obtain ⟨k, qs, xs, hk, rfl, hp⟩ := hrel
    have HP := Lib.hid hp
    have hwr := hp.bel.size
    have hbx := hp.row.box
    clear hp
    by_cases hk0 : k = 0
    · subst hk0
      have hq := HP.out.qv
      have hr := HP.out.rv
      rw [Nat.pow_zero, Nat.div_one, Nat.mul_one] at hq
      rw [Nat.pow_zero, Nat.div_one] at hr
      have HC1 := Lib.hid (cut3_q HP.out.q.rd HP.out.q16 (by omega) hq)
      have HC2 := Lib.hid (cut3_q HP.out.row.own.rd HP.out.row.d16 (by omega) hr)
      have HQ := Lib.hid hq
      have HR := Lib.hid hr
      clear hq hr
      go_wp2_with fail
      go_quiet ((go_at_call 179; first | (with_reducible exact Calls.quiet_of_same (HC1.out _)) | (with_reducible exact Calls.quiet_of_same (HC2.out _))))
      go_wp2_with fail
      refine bodyPost_ret (v := .tuple #[.slice A1 (D.ln (D.nv us / D.nv ns)) c1, .slice (some ⟨g2, 0, none⟩) (D.ln (D.nv us % D.nv ns)) c2]) (by simp [results, Tryz.results139, go_sem]) rfl ⟨A1, c1, some ⟨g2, 0, none⟩, c2, rfl, ?_, ?_, ?_, ?_⟩
      · rw [← HQ.out, ← D.take_ln HP.out.q16]
        exact (HP.out.q.takeA (by have := D.ln_le_len HP.out.q16; rw [HP.out.q.len] at this; exact this)).drewN _
      · rw [← HR.out, ← D.take_ln HP.out.row.d16]
        exact (HP.out.row.own.takeA (by have := D.ln_le_len HP.out.row.d16; rw [HP.out.row.own.len] at this; exact this)).drewN _
      · exact below_drewN HP.out.bel _
      · exact Apart.of HO1.out HO2.out
    · obtain ⟨j, rfl⟩ : ∃ j, k = j + 1 := ⟨k - 1, by omega⟩
      have ek : ((j + 1 : Nat) : Int) - 1 = (j : Int) := by omega
      rw [ek]
      obtain ⟨b, hb⟩ : ∃ b, D.nv us / 2 ^ j % 2 = b := ⟨_, rfl⟩
      have hb1 : b ≤ 1 := by omega
      have HB := Lib.hid hb
      have HBIT := Lib.hid (bit3_q (HA.out.below (HP.out.bel)) DA.out (by omega) hb)
      obtain ⟨r, hr⟩ : ∃ r, D.nv us / 2 ^ (j + 1) % D.nv ns = r := ⟨_, rfl⟩
      have hrN : r < D.nv ns := by rw [← hr]; exact Nat.mod_lt _ H0.out
      have hxv : D.nv xs = r := by rw [← hr]; exact HP.out.rv
      have hst := div_step (a := D.nv us) (j := j) H0.out hb
      rw [hr] at hst
      have HST := Lib.hid hst
      have HXV := Lib.hid hxv
      have HFIT := Lib.hid (show 2 * D.nv xs + b < 65536 ^ (m + 1) by have := HLN.out; rw [hxv, Nat.pow_succ]; omega)
      have HRN := Lib.hid hrN
      clear hb hr hrN hxv hst ek hk0
      go_wp2_with fail
      refine HBIT.out.mono ?_
      rintro e w' ⟨rfl, hdr⟩
      obtain ⟨nd, rfl⟩ := hdr.out
      clear hdr
      go_wp2_with fail
      refine (double_any _ (HP.out.row.drewN nd) hb1 (by omega) HFIT.out).mono ?_
      rintro e w4 ⟨rfl, xs4, hrow4, hv4, hg4⟩
      have hbx4 := hrow4.box
      have HG4 := Lib.hid hg4
      have HROW4 := Lib.hid hrow4
      have HV4 := Lib.hid (hv4.trans (by rw [HXV.out]))
      have HB4 := Lib.hid (below_grown (below_drewN HP.out.bel nd) hg4 (by omega) (by simpa using hwr))
      clear hbx hrow4 hg4 hv4
      have hneB : ∀ ad, B = some ad → ad.block ≠ g2 := fun ad e => by have := HBL.out ad e; omega
      have HNEB := Lib.hid hneB
      have HN4 := Lib.hid ((HN.out.below (below_drewN HP.out.bel nd)).grown HG4.out hneB)
      have hneq : A1 ≠ some ⟨g2, 0, none⟩ := Apart.of HO1.out HO2.out |> fun h e => h g2 e rfl
      have HQ4 := Lib.hid ((HP.out.q.drewN nd).grown HG4.out hneq)
      have HNEQ := Lib.hid hneq
      clear hneB hneq
      have hw4 := HB4.out.size
      by_cases hlt : 2 * r + b < D.nv ns
      · obtain ⟨hs1, hs2⟩ := HST.out.1 hlt
        have HS1 := Lib.hid hs1
        have HS2 := Lib.hid hs2
        have HD := Lib.hid (drop_no w4 HROW4.out HN4.out DN.out (by omega) (by omega) (by rw [HV4.out]; exact hlt))
        clear hlt hs1 hs2
        go_wp2_with fail
        refine HD.out.mono ?_
        rintro e w5 ⟨rfl, xs5, hrow5, hv5, hg5⟩
        have HROW5 := Lib.hid hrow5
        have HV5 := Lib.hid hv5
        have HG5 := Lib.hid hg5
        clear hrow5 hv5 hg5 hbx4
        go_wp2_with fail
        refine ⟨⟨j, qs, xs5, by omega, rfl, ⟨below_grown HB4.out HG5.out (by omega) hw4, HQ4.out.grown HG5.out HNEQ.out, HROW5.out, HP.out.q16, ?_, ?_⟩⟩, by simp [intOf]⟩
        · rw [HP.out.qv, HS1.out, Nat.pow_succ, Nat.mul_comm 2, Nat.mul_assoc, Nat.mul_comm (2 ^ j)]
        · rw [HV5.out, HV4.out, HS2.out]
      · obtain ⟨hs1, hs2⟩ := HST.out.2 (by omega)
        have HS1 := Lib.hid hs1
        have HS2 := Lib.hid hs2
        have HD := Lib.hid (drop_yes w4 HROW4.out HN4.out DN.out HNEB.out (by omega) (by omega) (by rw [HV4.out]; omega))
        obtain ⟨gq, rfl, hgq1, hgq2⟩ := HO1.out.blk (by omega)
        have hgq3 : gq ≠ g2 := fun e => HNEQ.out (by rw [e])
        obtain ⟨u, hu⟩ : ∃ u, j / 16 = u := ⟨_, rfl⟩
        obtain ⟨v, hv⟩ : ∃ v, j % 16 = v := ⟨_, rfl⟩
        have hun : u < n := by omega
        have hv16 : v < 16 := by omega
        have hbs := bit_set (v := D.nv us / 2 ^ (j + 1) / D.nv ns) HP.out.q16 (j := j) HP.out.qv (by rw [HP.out.q.len]; omega)
        rw [hu, hv] at hbs
        have HBS := Lib.hid hbs
        clear hlt hs1 hs2 hbs
        go_wp2_with fail
        refine HD.out.mono ?_
        rintro e w5 ⟨rfl, xs5, hrow5, hv5, hg5⟩
        have HROW5 := Lib.hid hrow5
        have HV5 := Lib.hid hv5
        have HG5 := Lib.hid hg5
        have HQ5 := Lib.hid (HQ4.out.grown HG5.out HNEQ.out)
        have hcell := HQ5.out.cellAt hun
        have hfr := HQ5.out.frozenAt u
        have hcap := HQ5.out.rd.cap
        have hmax := HQ5.out.rd.max
        have e1 : (j : Int) / 16 = (u : Int) := by omega
        have e2 : (j : Int) % 16 = (v : Int) := by omega
        clear hrow5 hv5 hg5 hbx4 hu hv
        go_wp2_with fail
        obtain ⟨hb1, hb2⟩ := HBS.out
        have ev := set_val hb1
        rw [ev]
        refine ⟨⟨j, qs.set u (gd qs u + 2 ^ v), xs5, by omega, rfl, ⟨?_, HQ5.out.store u _, ?_, HP.out.q16.set hb1, ?_, ?_⟩⟩, by simp [intOf]⟩
        · exact (below_grown HB4.out HG5.out (by omega) hw4).setCell (p := ⟨gq, u, none⟩) (by simpa using hgq1) _
        · exact ⟨(cell_set_ne2 (by simp; omega) _).trans HROW5.out.box, HROW5.out.own.far (fun e => hgq3 (by simpa using e)) _, HROW5.out.d16, HROW5.out.ne, by have := HROW5.out.lt; simpa using this⟩
        · rw [hb2, HS1.out]
        · rw [HV5.out, HV4.out, HS2.out]
end Go.Proofs.YtdmglajfmfjmlaaGreat
namespace Go.Proofs.YtdmglajfmfjmlaaGreat
set_option linter.unusedSimpArgs false
set_option linter.unusedVariables false
set_option maxRecDepth 100000
open Go.RowKit Go.Proofs.YtdmglajfmfjmlaaGreatW.PrintWords
def RetD (v : Nat) (w : World) (e : Ending) (w' : World) : Prop := ∃ A c, e = .returned (.slice A (D.ln v) c) ∧ Own .i64 3 w' w.heap.size A (D.ln v) c (D.dgs v) ∧ Below w.heap.size w w'
def RetDrop (w : World) (base gr g K c m : Nat) (e : Ending) (w' : World) : Prop := ∃ t : Bool, RetRow w base gr g K c m (.bool t) e w'
theorem drop_mod (w : World) {base gr g K c m d : Nat} {B : Option Addr} {xs ns : List Nat} (h : RowW w base gr g K c xs) (hn : Rd .i64 w B m d ns) (bn : D.D16 ns) (hne : ∀ ad, B = some ad → ad.block ≠ g) (hK : K ≤ 1048576) (hm : m ≤ K) (hlt : D.nv xs < 2 * D.nv ns) :
    Calls Tryz.prog 183 #[.pointer (some ⟨gr, 0, none⟩), .slice B m d] w (RetDrop w base gr g K c (D.nv xs % D.nv ns)) := by
  by_cases h1 : D.nv xs < D.nv ns
  · rw [Nat.mod_eq_of_lt h1]
    exact (drop_no w h hn bn hK (by omega) h1).mono fun _ _ h => ⟨false, h⟩
  · rw [Nat.mod_eq_sub_mod (by omega), Nat.mod_eq_of_lt (by omega)]
    exact (drop_yes w h hn bn hne hK hm (by omega)).mono fun _ _ h => ⟨true, h⟩
theorem times_step {a b N j bt r : Nat} (hb : b / 2 ^ j % 2 = bt) (hr : a * (b / 2 ^ (j + 1)) % N = r) :
    (bt = 0 → a * (b / 2 ^ j) % N = 2 * r % N) ∧ (bt = 1 → a * (b / 2 ^ j) % N = (2 * r % N + a) % N) := by
  have h := two_next b j
  rw [hb] at h
  generalize b / 2 ^ j = x at *
  generalize b / 2 ^ (j + 1) = y at *
  subst h hr
  have e : 2 * (a * y % N) % N = 2 * (a * y) % N := by rw [Nat.mul_mod, Nat.mod_mod, ← Nat.mul_mod]
  refine ⟨fun h => ?_, fun h => ?_⟩
  · subst h; rw [e, Nat.add_zero, Nat.mul_left_comm]
  · subst h; rw [e, Nat.mul_add, Nat.mul_one, Nat.mul_left_comm, Nat.add_mod (2 * (a * y) % N), Nat.mod_mod, ← Nat.add_mod]
structure TW (w wr : World) (gr g2 K c2 : Nat) (xs : List Nat) (a b N k : Nat) : Prop where
  bel : Below w.heap.size w wr
  row : RowW wr w.heap.size gr g2 K c2 xs
  rv : D.nv xs = a * (b / 2 ^ k) % N
set_option maxHeartbeats 4000000 in
set_option maxRecDepth 100000 in
theorem times_any (w : World) {A B C : Option Addr} {n c m d p f : Nat} {us ys ns : List Nat} (hu : Rd .i64 w A n c us) (du : D.D16 us) (hv : Rd .i64 w B m d ys) (dv : D.D16 ys) (hn : Rd .i64 w C p f ns) (dn : D.D16 ns) (hlt : D.nv us < D.nv ns) (hnn : n ≤ 65536) (hmm : m ≤ 65536) (hpp : p ≤ 65536) (hnp : n ≤ p + 1) :
    Calls Tryz.prog 142 #[.slice A n c, .slice B m d, .slice C p f] w (RetD (D.nv us * D.nv ys % D.nv ns) w) := by
  have hppos : 0 < p := by
    rcases Nat.eq_zero_or_pos p with h | h
    · have := hn.len; rw [h] at this; rw [List.eq_nil_of_length_eq_zero this] at hlt; simp [D.nv] at hlt
    · exact h
  have HU := Lib.hid hu
  have HV := Lib.hid hv
  have HN := Lib.hid hn
  have DU := Lib.hid du
  have DV := Lib.hid dv
  have DN := Lib.hid dn
  have HLT := Lib.hid hlt
  have HNEN := Lib.hid (hn.at_below hppos)
  have HNEU := Lib.hid (fun (g : Nat) (hg : w.heap.size ≤ g) (hpos : 0 < n) (ad : Addr) (e : A = some ad) => (show ad.block ≠ g by have := hu.at_below hpos ad e; omega))
  have HLN := Lib.hid (show D.nv ns < 65536 ^ p by have := D.nv_lt dn; rwa [hn.len] at this)
  have HLV := Lib.hid (show D.nv ys < 2 ^ (16 * m) by have := D.nv_lt dv; rwa [hv.len, D.wpow] at this)
  clear hu du hv dv hn dn hlt
  go_enter Tryz.func142, Tryz.ntmps142
  go_wp2_with fail
  refine (noughts_any w ((p : Int) + 1) (p + 1) (by omega) (by omega)).mono ?_
  rintro e w2 ⟨A2, c2, rfl, ho2, hb2⟩
  obtain ⟨g2, rfl, hg21, hg22⟩ := ho2.blk (by omega)
  have HO2 := Lib.hid ho2
  have HB2 := Lib.hid hb2
  have hW2 := hb2.size
  clear ho2 hb2
  have HTW := Lib.hid (show TW w (w2.alloc (.cells #[.slice (some ⟨g2, 0, none⟩) (p + 1) c2] 154)) w2.heap.size g2 (p + 1) c2 (List.replicate (p + 1) 0) (D.nv us) (D.nv ys) (D.nv ns) (16 * m) from by
    refine ⟨HB2.out.trans (((Below.refl w2.heap.size w2).alloc (Nat.le_refl _) _).mono (by omega)), row_start _ HO2.out hg22, ?_⟩
    rw [Nat.div_eq_of_lt HLV.out, D.nv_replicate]; simp)
  go_wp2_with fail
  go_loopw [8] (fun i wr => ∃ (k : Nat) (xs : List Nat), k ≤ 16 * m ∧ i = .int .i64 ((k : Int) - 1) ∧ TW w wr w2.heap.size g2 (p + 1) c2 xs (D.nv us) (D.nv ys) (D.nv ns) k) (fun i _ => (intOf i + 1).toNat)
  case atStart => exact ⟨16 * m, List.replicate (p + 1) 0, Nat.le_refl _, ret_val (by omega), HTW.out⟩
  case round =>
    obtain ⟨k, xs, hk, rfl, hp⟩ := hrel
    have HP := Lib.hid hp
    have hwr := hp.bel.size
    have hbx := hp.row.box
    clear hp
    by_cases hk0 : k = 0
    · subst hk0
      have hr := HP.out.rv
      rw [Nat.pow_zero, Nat.div_one] at hr
      have HC := Lib.hid (cut3_q HP.out.row.own.rd HP.out.row.d16 (by omega) hr 0)
      have HR := Lib.hid hr
      clear hr
      go_wp2_with fail
      refine HC.out.mono ?_
      rintro e w' ⟨rfl, rfl⟩
      go_wp2_with fail
      go_ret
      refine ⟨some ⟨g2, 0, none⟩, c2, rfl, ?_, HP.out.bel⟩
      rw [← HR.out, ← D.take_ln HP.out.row.d16]
      exact HP.out.row.own.takeA (by have := D.ln_le_len HP.out.row.d16; rw [HP.out.row.own.len] at this; exact this)
    · obtain ⟨j, rfl⟩ : ∃ j, k = j + 1 := ⟨k - 1, by omega⟩
      have ek : ((j + 1 : Nat) : Int) - 1 = (j : Int) := by omega
      rw [ek]
      obtain ⟨b, hb⟩ : ∃ b, D.nv ys / 2 ^ j % 2 = b := ⟨_, rfl⟩
      have hb1 : b ≤ 1 := by omega
      have HB := Lib.hid hb
      obtain ⟨r, hr⟩ : ∃ r, D.nv us * (D.nv ys / 2 ^ (j + 1)) % D.nv ns = r := ⟨_, rfl⟩
      have hrN : r < D.nv ns := by rw [← hr]; exact Nat.mod_lt _ (by have := HLT.out; omega)
      have hxv : D.nv xs = r := by rw [← hr]; exact HP.out.rv
      have HST := Lib.hid (times_step hb hr)
      have HXV := Lib.hid hxv
      have HFIT := Lib.hid (show 2 * D.nv xs + 0 < 65536 ^ (p + 1) by have := HLN.out; rw [hxv, Nat.pow_succ]; omega)
      have HRN := Lib.hid hrN
      have HNE2 := Lib.hid (show ∀ ad, C = some ad → ad.block ≠ g2 from fun ad e => by have := HNEN.out ad e; omega)
      clear hb hr hrN hxv ek hk0
      go_wp2_with fail
      refine (double_any _ HP.out.row (b := 0) (by omega) (by omega) HFIT.out).mono ?_
      rintro e w4 ⟨rfl, xs4, hrow4, hv4, hg4⟩
      have hbx4 := hrow4.box
      have HROW4 := Lib.hid hrow4
      have HG4 := Lib.hid hg4
      have HV4 := Lib.hid (show D.nv xs4 = 2 * r by rw [hv4, HXV.out]; rfl)
      have HB4 := Lib.hid (below_grown HP.out.bel hg4 (by omega) hwr)
      have HN4 := Lib.hid ((HN.out.below HP.out.bel).grown hg4 HNE2.out)
      have hw4 := HB4.out.size
      clear hbx hrow4 hg4 hv4
      go_wp2_with fail
      refine (drop_mod w4 HROW4.out HN4.out DN.out HNE2.out (by omega) (by omega) (by rw [HV4.out]; have := HRN.out; omega)).mono ?_
      rintro e w5 ⟨t5, rfl, xs5, hrow5, hv5, hg5⟩
      have hbx5 := hrow5.box
      have HROW5 := Lib.hid hrow5
      have HV5 := Lib.hid (show D.nv xs5 = 2 * r % D.nv ns by rw [hv5, HV4.out])
      have HB5 := Lib.hid (below_grown HB4.out hg5 (by omega) hw4)
      have HN5 := Lib.hid (HN4.out.grown hg5 HNE2.out)
      have hw5 := HB5.out.size
      clear hbx4 hrow5 hg5 hv5
      have HBIT := Lib.hid (bit3_q (HV.out.below HB5.out) DV.out (by omega) HB.out)
      by_cases hb0 : b = 0
      · subst hb0
        go_wp2_with fail
        refine HBIT.out.mono ?_
        rintro e w' ⟨rfl, hdr⟩
        obtain ⟨nd, rfl⟩ := hdr.out
        clear hdr
        go_wp2_with fail
        refine ⟨⟨j, xs5, by omega, rfl, ⟨below_drewN HB5.out nd, HROW5.out.drewN nd, ?_⟩⟩, by simp [intOf]⟩
        rw [HV5.out, HST.out.1 trivial]
      · obtain rfl : b = 1 := by omega
        clear hb0
        go_wp2_with fail
        refine HBIT.out.mono ?_
        rintro e w' ⟨rfl, hdr⟩
        obtain ⟨nd, rfl⟩ := hdr.out
        clear hdr
        go_wp2_with fail
        refine (gain_any _ (HROW5.out.drewN nd) (HU.out.below (below_drewN HB5.out nd)) DU.out (HNEU.out g2 hg21) (by omega) hnp ?_).mono ?_
        · rw [HV5.out, Nat.pow_succ]
          have := HLN.out; have := HLT.out
          have := Nat.mod_lt (2 * r) (show 0 < D.nv ns by omega)
          omega
        rintro e w6 ⟨rfl, xs6, hrow6, hv6, hg6⟩
        have hbx6 := hrow6.box
        have HROW6 := Lib.hid hrow6
        have HV6 := Lib.hid (show D.nv xs6 = 2 * r % D.nv ns + D.nv us by rw [hv6, HV5.out])
        have HB6 := Lib.hid (below_grown (below_drewN HB5.out nd) hg6 (by omega) (by simpa using hw5))
        have HN6 := Lib.hid ((HN5.out.drewN nd).grown hg6 HNE2.out)
        have hw6 := HB6.out.size
        clear hbx5 hrow6 hg6 hv6
        go_wp2_with fail
        refine (drop_mod w6 HROW6.out HN6.out DN.out HNE2.out (by omega) (by omega) (by
          rw [HV6.out]
          have := HLT.out
          have := Nat.mod_lt (2 * r) (show 0 < D.nv ns by omega)
          omega)).mono ?_
        rintro e w7 ⟨t7, rfl, xs7, hrow7, hv7, hg7⟩
        have HROW7 := Lib.hid hrow7
        have HV7 := Lib.hid (show D.nv xs7 = (2 * r % D.nv ns + D.nv us) % D.nv ns by rw [hv7, HV6.out])
        have HB7 := Lib.hid (below_grown HB6.out hg7 (by omega) hw6)
        clear hbx6 hrow7 hg7 hv7
        go_wp2_with fail
        refine ⟨⟨j, xs7, by omega, rfl, ⟨HB7.out, HROW7.out, ?_⟩⟩, by simp [intOf]⟩
        rw [HV7.out, HST.out.2 trivial]
end Go.Proofs.YtdmglajfmfjmlaaGreat
namespace Go.Proofs.YtdmglajfmfjmlaaGreat
set_option linter.unusedSimpArgs false
set_option linter.unusedVariables false
set_option maxRecDepth 100000
open Go.RowKit Go.Proofs.YtdmglajfmfjmlaaGreatW.PrintWords Go.Proofs.YtdmglajfmfjmlaaGreatW.PrintLast
def dI (l : List Int) : Nat := D.nv (toN l)
def ofD (n : Nat) : List Int := cI (D.dgs n)
def okD (m : Nat) (l : List Int) : Prop := l.length ≤ m ∧ ∀ x ∈ l, 0 ≤ x ∧ x < 65536
instance (m : Nat) (l : List Int) : Decidable (okD m l) := by unfold okD; exact inferInstance
theorem okD.d16 {m : Nat} {l : List Int} (h : okD m l) : D.D16 (toN l) := by
  intro x hx
  simp only [toN, List.mem_map] at hx
  obtain ⟨y, hy, rfl⟩ := hx
  have := h.2 y hy
  omega
theorem okD.le {m m' : Nat} {l : List Int} (h : okD m l) (hm : m ≤ m') : okD m' l := ⟨Nat.le_trans h.1 hm, h.2⟩
theorem okD.pos {m : Nat} {l : List Int} (h : okD m l) : ∀ x ∈ l, 0 ≤ x := fun x hx => (h.2 x hx).1
theorem okD_cI {ds : List Nat} {m : Nat} (h : D.D16 ds) (hl : ds.length ≤ m) : okD m (cI ds) := by
  refine ⟨by rw [cI_length]; exact hl, fun x hx => ?_⟩
  simp only [cI, List.mem_map] at hx
  obtain ⟨y, hy, rfl⟩ := hx
  have := h y hy
  omega
theorem okD_ofD {n m : Nat} (h : D.ln n ≤ m) : okD m (ofD n) := okD_cI (D.dgs_b64 n) h
theorem dI_cI (ds : List Nat) : dI (cI ds) = D.nv ds := by unfold dI; rw [toN_cI]
theorem dI_ofD (n : Nat) : dI (ofD n) = n := by unfold ofD; rw [dI_cI, D.nv_dgs]
theorem ofD_zero : ofD 0 = [] := by unfold ofD; rw [D.dgs_zero]; rfl
theorem ofD_length (n : Nat) : (ofD n).length = D.ln n := by unfold ofD; rw [cI_length]; rfl
theorem okD.lt {m : Nat} {l : List Int} (h : okD m l) : dI l < 65536 ^ l.length := by have := D.nv_lt h.d16; rwa [toN_length] at this
theorem okD.ln {m : Nat} {l : List Int} (h : okD m l) : D.ln (dI l) ≤ l.length := by have := D.ln_nv h.d16; rwa [toN_length] at this
section
variable {A0 A1 A2 : Option Addr} {c0 c1 c2 : Nat} {l0 l1 l2 : List Int} {w : World}
theorem apart_R {t : TypeId} {k : IntKind} {w' : World} {base n n' c c' : Nat} {A A' : Option Addr} {xs ys : List Nat} (ho : Own k t w' base A n c xs) (ho' : Own k t w' base A' n' c' ys) (hap : Apart A A') :
    Kd.R (Kd.int k) t w' base (fun k_ => some k_ ≠ (Value.slice A' n' c').ownBlock) (.slice A n c) (cI xs) ∧ Kd.R (Kd.int k) t w' base (fun k_ => some k_ ≠ (Value.slice A n c).ownBlock) (.slice A' n' c') (cI ys) := by
  refine ⟨R_of_Own ho ?_, R_of_Own ho' ?_⟩
  · rintro g rfl e
    rcases A' with _ | a'
    · simp [Value.ownBlock] at e
    · rcases ho'.ways with ⟨h, _⟩ | ⟨g', h, _⟩
      · cases h
      · rw [h] at e; simp only [Value.ownBlock, Option.some.injEq] at e
        exact hap g rfl (by rw [h, e])
  · rintro g rfl e
    rcases ho.ways with ⟨h, _⟩ | ⟨g', h, _⟩
    · rw [h] at e; simp [Value.ownBlock] at e
    · rw [h] at e; simp only [Value.ownBlock, Option.some.injEq] at e
      exact hap g (by rw [h, e]) rfl
theorem parted_giv {r1 r2 : List Int} (hr0 : Kd.C (Kd.int .i64) w A0 l0.length l0) (hc0 : l0.length ≤ c0) (hr1 : Kd.C (Kd.int .i64) w A1 l1.length l1) (hc1 : l1.length ≤ c1) (h : (if okD 65536 l0 ∧ okD 65536 l1 ∧ 0 < dI l1 then some (ofD (dI l0 / dI l1), ofD (dI l0 % dI l1)) else none) = some (r1, r2)) :
    Calls Tryz.prog 139 #[.slice A0 l0.length c0, .slice A1 l1.length c1] w fun e w' => ∃ v0_ v1_ : Value, e = .returned (.tuple #[v0_, v1_]) ∧ Kd.R (Kd.int .i64) 3 w' w.heap.size (fun k_ => some k_ ≠ (v1_ : Value).ownBlock) v0_ r1 ∧ Kd.R (Kd.int .i64) 3 w' w.heap.size (fun k_ => some k_ ≠ (v0_ : Value).ownBlock) v1_ r2 ∧ Below w.heap.size w w' := by
  obtain ⟨⟨h0, h1, h2⟩, h⟩ := of_ite h
  simp only [Prod.mk.injEq] at h
  obtain ⟨rfl, rfl⟩ := h
  refine (parted_any w (rd_of_C' hr0 hc0 h0.pos) h0.d16 (rd_of_C' hr1 hc1 h1.pos) h1.d16 h2 h0.1 h1.1).mono ?_
  rintro e w' ⟨A, c, A', c', rfl, ho, ho', hb, hap⟩
  obtain ⟨q1, q2⟩ := apart_R ho ho' hap
  exact ⟨_, _, rfl, q1, q2, hb⟩
theorem times_giv {r : List Int} (hr0 : Kd.C (Kd.int .i64) w A0 l0.length l0) (hc0 : l0.length ≤ c0) (hr1 : Kd.C (Kd.int .i64) w A1 l1.length l1) (hc1 : l1.length ≤ c1) (hr2 : Kd.C (Kd.int .i64) w A2 l2.length l2) (hc2 : l2.length ≤ c2) (h : (if okD 65536 l0 ∧ okD 65536 l1 ∧ okD 65536 l2 ∧ dI l0 < dI l2 ∧ l0.length ≤ l2.length + 1 then some (ofD (dI l0 * dI l1 % dI l2)) else none) = some r) :
    Calls Tryz.prog 142 #[.slice A0 l0.length c0, .slice A1 l1.length c1, .slice A2 l2.length c2] w fun e w' => ∃ v0_ : Value, e = .returned (v0_) ∧ Kd.R (Kd.int .i64) 3 w' w.heap.size (fun _ => True) v0_ r ∧ Below w.heap.size w w' := by
  obtain ⟨⟨h0, h1, h2, h3, h4⟩, rfl⟩ := of_ite h
  refine (times_any w (rd_of_C' hr0 hc0 h0.pos) h0.d16 (rd_of_C' hr1 hc1 h1.pos) h1.d16 (rd_of_C' hr2 hc2 h2.pos) h2.d16 h3 h0.1 h1.1 h2.1 h4).mono ?_
  rintro e w' ⟨A, c, rfl, ho, hb⟩
  exact ⟨_, rfl, R_of_Own ho (fun _ _ => trivial), hb⟩
theorem cmp3_giv {r : Int} (hr0 : Kd.C (Kd.int .i64) w A0 l0.length l0) (hc0 : l0.length ≤ c0) (hr1 : Kd.C (Kd.int .i64) w A1 l1.length l1) (hc1 : l1.length ≤ c1) (h : (if okD 1048576 l0 ∧ okD 1048576 l1 then some (cmpN (dI l0) (dI l1)) else none) = some r) :
    Calls Tryz.prog 136 #[.slice A0 l0.length c0, .slice A1 l1.length c1] w fun e w' => e = .returned (.int .i64 r) ∧ Drawn0 w w' := by
  obtain ⟨⟨h0, h1⟩, rfl⟩ := of_ite h
  refine (cmp3_any w (rd_of_C' hr0 hc0 h0.pos) h0.d16 (rd_of_C' hr1 hc1 h1.pos) h1.d16 h0.1 h1.1).mono ?_
  rintro e w' ⟨rfl, rfl⟩
  exact ⟨rfl, Drawn0.refl _⟩
theorem bit3_giv {a1 r : Int} (hr0 : Kd.C (Kd.int .i64) w A0 l0.length l0) (hc0 : l0.length ≤ c0) (h : (if okD 1048576 l0 ∧ 0 ≤ a1 ∧ a1 ≤ 4611686018427387904 then some ((dI l0 / 2 ^ a1.toNat % 2 : Nat) : Int) else none) = some r) :
    Calls Tryz.prog 180 #[.slice A0 l0.length c0, .int .i64 a1] w fun e w' => e = .returned (.int .i64 r) ∧ Drawn0 w w' := by
  obtain ⟨⟨h0, h1, h2⟩, rfl⟩ := of_ite h
  have := bit3_any w (rd_of_C' hr0 hc0 h0.pos) h0.d16 a1.toNat (by omega)
  rwa [Int.toNat_of_nonneg h1] at this
end
end Go.Proofs.YtdmglajfmfjmlaaGreat
namespace Go.Proofs.YtdmglajfmfjmlaaGreat.Cr
open Go.RowKit Go.Proofs.YtdmglajfmfjmlaaGreatW.PrintWords Go.Proofs.YtdmglajfmfjmlaaGreatW.PrintLast Go.Proofs.YtdmglajfmfjmlaaGreatW.PrintMore
attribute [local go_sem] max2_int min2_int max_two min_two max_three min_three max_four min_four   -- for this text's walks alone
set_option linter.unusedVariables false
set_option linter.unusedSimpArgs false
theorem info3 : (Tryz.prog.info? 3).map (fun i => (i.zero, i.size, i.bytes)) = some (some (.int .i64 0), 1, 8) := by kernel_rfl
theorem info23 : (Tryz.prog.info? 23).map (fun i => (i.zero, i.size, i.bytes)) = some (some (.int .u64 0), 1, 8) := by kernel_rfl
end Go.Proofs.YtdmglajfmfjmlaaGreat.Cr
namespace Go.Proofs.YtdmglajfmfjmlaaGreat.Cr
open Go.RowKit Go.Proofs.YtdmglajfmfjmlaaGreatW.PrintWords Go.Proofs.YtdmglajfmfjmlaaGreatW.PrintLast Go.Proofs.YtdmglajfmfjmlaaGreatW.PrintMore
attribute [local go_sem] max2_int min2_int max_two min_two max_three min_three max_four min_four   -- for this text's walks alone
set_option linter.unusedVariables false
set_option linter.unusedSimpArgs false
def clepsydraref03_parted.f (l0 : List Int) (l1 : List Int) : Option (List Int × List Int) := if okD 65536 l0 ∧ okD 65536 l1 ∧ 0 < dI l1 then some (ofD (dI l0 / dI l1), ofD (dI l0 % dI l1)) else none
theorem clepsydraref03_parted.calls (A0 : Option Addr) (c0 : Nat) (l0 : List Int) (A1 : Option Addr) (c1 : Nat) (l1 : List Int) (r1 : List Int) (r2 : List Int) (w : World) (hr0 : Kd.C (Kd.int .i64) w A0 l0.length l0) (hc0 : l0.length ≤ c0) (hr1 : Kd.C (Kd.int .i64) w A1 l1.length l1) (hc1 : l1.length ≤ c1) (h : clepsydraref03_parted.f l0 l1 = some (r1, r2)) :
  Calls Tryz.prog 139 #[.slice A0 l0.length c0, .slice A1 l1.length c1] w fun e w' => ∃ v0_ v1_ : Value, e = .returned (.tuple #[v0_, v1_]) ∧ Kd.R (Kd.int .i64) 3 w' w.heap.size (fun k_ => some k_ ≠ (v1_ : Value).ownBlock) v0_ r1 ∧ Kd.R (Kd.int .i64) 3 w' w.heap.size (fun k_ => some k_ ≠ (v0_ : Value).ownBlock) v1_ r2 ∧ Below w.heap.size w w' := by
 exact parted_giv hr0 hc0 hr1 hc1 h
def clepsydraref03_times.f (l0 : List Int) (l1 : List Int) (l2 : List Int) : Option (List Int) := if okD 65536 l0 ∧ okD 65536 l1 ∧ okD 65536 l2 ∧ dI l0 < dI l2 ∧ l0.length ≤ l2.length + 1 then some (ofD (dI l0 * dI l1 % dI l2)) else none
theorem clepsydraref03_times.calls (A0 : Option Addr) (c0 : Nat) (l0 : List Int) (A1 : Option Addr) (c1 : Nat) (l1 : List Int) (A2 : Option Addr) (c2 : Nat) (l2 : List Int) (r : List Int) (w : World) (hr0 : Kd.C (Kd.int .i64) w A0 l0.length l0) (hc0 : l0.length ≤ c0) (hr1 : Kd.C (Kd.int .i64) w A1 l1.length l1) (hc1 : l1.length ≤ c1) (hr2 : Kd.C (Kd.int .i64) w A2 l2.length l2) (hc2 : l2.length ≤ c2) (h : clepsydraref03_times.f l0 l1 l2 = some r) :
  Calls Tryz.prog 142 #[.slice A0 l0.length c0, .slice A1 l1.length c1, .slice A2 l2.length c2] w fun e w' => ∃ v0_ : Value, e = .returned (v0_) ∧ Kd.R (Kd.int .i64) 3 w' w.heap.size (fun _ => True) v0_ r ∧ Below w.heap.size w w' := by
 exact times_giv hr0 hc0 hr1 hc1 hr2 hc2 h
def clepsydraref03_bit.f (l0 : List Int) (a1 : Int) : Option (Int) := if okD 1048576 l0 ∧ 0 ≤ a1 ∧ a1 ≤ 4611686018427387904 then some ((dI l0 / 2 ^ a1.toNat % 2 : Nat) : Int) else none
theorem clepsydraref03_bit.calls (A0 : Option Addr) (c0 : Nat) (l0 : List Int) (a1 : Int) (r : Int) (w : World) (hr0 : Kd.C (Kd.int .i64) w A0 l0.length l0) (hc0 : l0.length ≤ c0) (h : clepsydraref03_bit.f l0 a1 = some r) :
  Calls Tryz.prog 180 #[.slice A0 l0.length c0, .int .i64 a1] w fun e w' => e = .returned (.int .i64 r) ∧ Drawn0 w w' := by
 exact bit3_giv hr0 hc0 h
def clepsydraref03_power.l0 : Nat → List Int → List Int → List Int → List Int → Int → Option (List Int)
 | 0, _, _, _, _, _ => none
 | k + 1, x0, x1, x2, x8, x9 => if x9 ≥ 0 then ((clepsydraref03_times.f x8 x8 x2).bind fun t110 => ((clepsydraref03_bit.f x1 x9).bind fun t113 => (if t113 = 1 then ((clepsydraref03_times.f t110 x0 x2).bind fun t114 => (clepsydraref03_power.l0 k x0 x1 x2 t114 (wrap64 (x9 - 1)))) else (clepsydraref03_power.l0 k x0 x1 x2 t110 (wrap64 (x9 - 1)))))) else (some x8)
def clepsydraref03_power.f (k : Nat) (l0 : List Int) (l1 : List Int) (l2 : List Int) : Option (List Int) := (clepsydraref03_parted.f (([1] : List Int)) l2).bind fun bt104 => (clepsydraref03_power.l0 k l0 l1 l2 bt104.2 (wrap64 ((wrap64 (16 * (l1.length : Int))) - 1)))
set_option maxHeartbeats 8000000 in
set_option maxRecDepth 100000 in
theorem clepsydraref03_power.calls (k : Nat) (A0 : Option Addr) (c0 : Nat) (l0 : List Int) (A1 : Option Addr) (c1 : Nat) (l1 : List Int) (A2 : Option Addr) (c2 : Nat) (l2 : List Int) (r : List Int) (w : World) (hr0 : Kd.C (Kd.int .i64) w A0 l0.length l0) (hc0 : l0.length ≤ c0) (hr1 : Kd.C (Kd.int .i64) w A1 l1.length l1) (hc1 : l1.length ≤ c1) (hr2 : Kd.C (Kd.int .i64) w A2 l2.length l2) (hc2 : l2.length ≤ c2) (h : clepsydraref03_power.f k l0 l1 l2 = some r) :
  Calls Tryz.prog 161 #[.slice A0 l0.length c0, .slice A1 l1.length c1, .slice A2 l2.length c2] w fun e w' => ∃ v0_ : Value, e = .returned (v0_) ∧ Kd.R (Kd.int .i64) 3 w' w.heap.size (fun _ => True) v0_ r ∧ Below w.heap.size w w' := by
 have HR0 := Aside0.mk hr0
 have HC0 := Aside0.mk hc0
 clear hr0 hc0
 have HR1 := Aside0.mk hr1
 have HC1 := Aside0.mk hc1
 clear hr1 hc1
 have HR2 := Aside0.mk hr2
 have HC2 := Aside0.mk hc2
 clear hr2 hc2
 have HB := Aside0.mk (Below.refl w.heap.size w)
 have H : ((clepsydraref03_parted.f (([1] : List Int)) l2).bind fun bt104 => (clepsydraref03_power.l0 k l0 l1 l2 bt104.2 (wrap64 ((wrap64 (16 * (l1.length : Int))) - 1)))) = some r := h
 clear h
 obtain ⟨y101, hy101⟩ : ∃ y_ : List Int, y_ = (([1] : List Int)) := ⟨_, rfl⟩
 rw [← hy101] at H
 have Ny101 := Aside0.mk hy101
 clear hy101
 replace H := Option.bind_eq_some_iff.mp H
 obtain ⟨⟨t104, t105⟩, A40, H⟩ := H
 try dsimp only at H
 have A4 := Aside0.mk A40
 clear A40
 have H' := Aside0.mk H
 clear H
 go_enter Tryz.func161, Tryz.ntmps161
 go_wp2_with (first | ((with_reducible refine gate_dst (N := 11) rfl ?_); refine Kd.R_lit (Kd.int .i64) _ 3 ?hg (N := 11) ?hd (xs := ([1] : List Int)) (inner := [.int .i64 1]) (ok := fun _ => True) (okp := fun _ => True) ?hr ?hp (fun _ hk => hk) trivial (Below.refl _ _) (Nat.le_refl _) (by simp) ?_; (case hd => rfl); (case hg => rfl); (case hr => (go_simp; done)); (case hp => exact (Reps.one (show Kd.M (Kd.int .i64) _ _ _ 1 [.int .i64 1] from rfl) (Reps.none _ _))); intro v102 w5 ho6 hb hg_ hnew_; clear hg_ hnew_; ((rw [← Ny101.out] at ho6)); have HO103 := Aside0.mk (Kd.R_lower ho6 (below_size HB.out)); replace HB := Aside0.mk (below_step HB.out hb); clear hb ho6; obtain ⟨Ao7, co7, eo7⟩ := Kd.R_slice HO103.out; subst eo7) | ((with_reducible refine gate_callee (f := 139) rfl ?_); refine goesL_ (some 13) rfl rfl Tryz.func139 (by kernel_rfl) rfl #[.slice Ao7 y101.length co7, .slice A2 l2.length c2] rfl (by (try simp only [List.map_toArray, List.map_cons, List.map_nil]); rfl) ?_; (with_reducible refine (clepsydraref03_parted.calls _ _ y101 _ _ l2 t104 t105 _ ?side1 ?side2 ?side3 ?side4 A4.out).mono ?_); (case side1 => exact (Kd.R_reads' HO103.out).2.2); (case side2 => exact (Kd.R_reads' HO103.out).2.1); (case side3 => exact (Kd.C_below HR2.out HB.out)); (case side4 => exact HC2.out); rintro e w8 ⟨v106, v108, rfl, ho0, ho1, hb⟩; refine ⟨_, rfl, ?_⟩; have HO107 := Aside0.mk (Kd.R_lower (Kd.R_new' ho0 (Kd.R_lt HO103.out)) (below_size HB.out)); have HO109 := Aside0.mk (Kd.R_lower (Kd.R_new' ho1 (Kd.R_lt HO103.out)) (below_size HB.out)); replace HO103 := Aside0.mk (Kd.R_mono (Kd.R_told (Kd.R_told (Kd.R_old HO103.out hb) (Kd.R_base ho0)) (Kd.R_base ho1)) (fun _ h_ => h_.1)); replace HB := Aside0.mk (below_step HB.out hb); clear hb ho0 ho1))
 go_loopg [8, 9] k (fun kq v8 v9 w' => ∃ (x8_1 : List Int) (x9_1 : Int), v9 = .int .i64 x9_1 ∧ Aside0 (clepsydraref03_power.l0 kq l0 l1 l2 x8_1 x9_1 = some r) ∧ Aside0 (kq ≤ k) ∧ Aside0 (Kd.R (Kd.int .i64) 3 w' w.heap.size (fun _ => True) v8 x8_1) ∧ Aside0 (Below w.heap.size w w'))
 case atStart => exact ⟨(t105), (wrap64 ((wrap64 (16 * (l1.length : Int))) - 1)), (by rfl), H', ⟨Nat.le_refl _⟩, ⟨by exact Kd.R_mono HO109.out (fun _ hk => trivial)⟩, ⟨HB.out⟩⟩
 case round =>
  clear H'
  try clear c1
  try clear c2
  try clear p2
  try clear p6
  obtain ⟨x8_1, x9_1, rfl, HA, HK1, HO_8, HB⟩ := hrel
  cases gk with
  | zero => exact absurd HA.out (by simp [clepsydraref03_power.l0])
  | succ k1 =>
   have H := HA.out
   clear HA
   simp only [clepsydraref03_power.l0] at H
   by_cases c9 : x9_1 ≥ 0
   ·rw [if_pos c9] at H
    have c9b0 : decide (0 ≤ x9_1) = true := decide_eq_true c9
    clear c9
    replace H := Option.bind_eq_some_iff.mp H
    obtain ⟨t110, A100, H⟩ := H
    try dsimp only at H
    have A10 := Aside0.mk A100
    clear A100
    replace H := Option.bind_eq_some_iff.mp H
    obtain ⟨t113, A110, H⟩ := H
    try dsimp only at H
    have A11 := Aside0.mk A110
    clear A110
    by_cases c12 : t113 = 1
    ·rw [if_pos c12] at H
     have c12b0 : (t113 == 1) = true := beq_iff_eq.mpr c12
     have c12b1 : (t113 != 1) = false := bne_eq_false_iff_eq.mpr c12
     clear c12
     replace H := Option.bind_eq_some_iff.mp H
     obtain ⟨t114, A130, H⟩ := H
     try dsimp only at H
     have A13 := Aside0.mk A130
     clear A130
     have H' := Aside0.mk H
     clear H
     obtain ⟨Ao14, co14, eo14⟩ := Kd.R_slice HO_8.out
     subst eo14
     go_wp2_with (first | ((with_reducible refine gate_callee (f := 142) rfl ?_); refine goesL_ (some 27) rfl rfl Tryz.func142 (by kernel_rfl) rfl #[.slice Ao14 x8_1.length co14, .slice Ao14 x8_1.length co14, .slice A2 l2.length c2] rfl (by (try simp only [List.map_toArray, List.map_cons, List.map_nil]); rfl) ?_; (with_reducible refine (clepsydraref03_times.calls _ _ x8_1 _ _ x8_1 _ _ l2 t110 _ ?side1 ?side2 ?side3 ?side4 ?side5 ?side6 A10.out).mono ?_); (case side1 => exact (Kd.R_reads' HO_8.out).2.2); (case side2 => exact (Kd.R_reads' HO_8.out).2.1); (case side3 => exact (Kd.R_reads' HO_8.out).2.2); (case side4 => exact (Kd.R_reads' HO_8.out).2.1); (case side5 => exact (Kd.C_below HR2.out HB.out)); (case side6 => exact HC2.out); rintro e w15 ⟨v111, rfl, ho0, hb⟩; refine ⟨_, rfl, ?_⟩; have HO112 := Aside0.mk (Kd.R_lower (Kd.R_new' ho0 (Kd.R_lt HO_8.out)) (below_size HB.out)); replace HO_8 := Aside0.mk (Kd.R_elder' HO_8.out (Kd.R_base ho0) hb); replace HB := Aside0.mk (below_step HB.out hb); clear hb ho0) | ((with_reducible refine gate_callee (f := 180) rfl ?_); refine goesL_ (some 30) rfl rfl Tryz.func180 (by kernel_rfl) rfl #[.slice A1 l1.length c1, .int .i64 x9_1] rfl (by (try simp only [List.map_toArray, List.map_cons, List.map_nil]); rfl) ?_; (with_reducible refine (clepsydraref03_bit.calls _ _ l1 x9_1 t113 _ ?side1 ?side2 A11.out).mono ?_); (case side1 => exact (Kd.C_below HR1.out HB.out)); (case side2 => exact HC1.out); rintro e w' ⟨rfl, ⟨nd, rfl⟩⟩; refine ⟨_, rfl, ?_⟩; obtain ⟨Ao16, co16, eo16⟩ := Kd.R_slice HO112.out; subst eo16) | ((with_reducible refine gate_callee (f := 142) rfl ?_); refine goesL_ (some 35) rfl rfl Tryz.func142 (by kernel_rfl) rfl #[.slice Ao16 t110.length co16, .slice A0 l0.length c0, .slice A2 l2.length c2] rfl (by (try simp only [List.map_toArray, List.map_cons, List.map_nil]); rfl) ?_; (with_reducible refine (clepsydraref03_times.calls _ _ t110 _ _ l0 _ _ l2 t114 _ ?side1 ?side2 ?side3 ?side4 ?side5 ?side6 A13.out).mono ?_); (case side1 => exact (Kd.R_reads' HO112.out).2.2); (case side2 => exact (Kd.R_reads' HO112.out).2.1); (case side3 => repeat ((exact (Kd.C_below HR0.out (by repeat ((with_reducible first | exact HB.out | apply pw_below_drewN))))))); (case side4 => exact HC0.out); (case side5 => repeat ((exact (Kd.C_below HR2.out (by repeat ((with_reducible first | exact HB.out | apply pw_below_drewN))))))); (case side6 => exact HC2.out); rintro e w17 ⟨v115, rfl, ho0, hb⟩; refine ⟨_, rfl, ?_⟩; have HO116 := Aside0.mk (Kd.R_lower (Kd.R_new' (Kd.R_new' ho0 (Kd.R_lt (by (with_reducible repeat ((apply Kd.R_drewN))); exact HO_8.out))) (Kd.R_lt (by (with_reducible repeat ((apply Kd.R_drewN))); exact HO112.out))) (below_size (by repeat ((with_reducible first | exact HB.out | apply pw_below_drewN))))); replace HO_8 := Aside0.mk (Kd.R_elder' (by (with_reducible repeat ((apply Kd.R_drewN))); exact HO_8.out) (Kd.R_base ho0) hb); replace HO112 := Aside0.mk (Kd.R_elder' (by (with_reducible repeat ((apply Kd.R_drewN))); exact HO112.out) (Kd.R_base ho0) hb); replace HB := Aside0.mk (below_step (by repeat ((with_reducible first | exact HB.out | apply pw_below_drewN))) hb); clear hb ho0))
     go_roundg k1
     case measure => have := HK1.out; omega
     case rel => exact ⟨(t114), (wrap64 (x9_1 - 1)), (by rfl), H', ⟨by have := HK1.out; omega⟩, ⟨by exact Kd.R_mono HO116.out (fun _ hk => trivial)⟩, ⟨HB.out⟩⟩
    ·rw [if_neg c12] at H
     have c12b0 : (t113 == 1) = false := beq_eq_false_iff_ne.mpr c12
     have c12b1 : (t113 != 1) = true := bne_iff_ne.mpr c12
     have H' := Aside0.mk H
     clear H
     obtain ⟨Ao18, co18, eo18⟩ := Kd.R_slice HO_8.out
     subst eo18
     go_wp2_with (first | ((with_reducible refine gate_callee (f := 142) rfl ?_); refine goesL_ (some 27) rfl rfl Tryz.func142 (by kernel_rfl) rfl #[.slice Ao18 x8_1.length co18, .slice Ao18 x8_1.length co18, .slice A2 l2.length c2] rfl (by (try simp only [List.map_toArray, List.map_cons, List.map_nil]); rfl) ?_; (with_reducible refine (clepsydraref03_times.calls _ _ x8_1 _ _ x8_1 _ _ l2 t110 _ ?side1 ?side2 ?side3 ?side4 ?side5 ?side6 A10.out).mono ?_); (case side1 => exact (Kd.R_reads' HO_8.out).2.2); (case side2 => exact (Kd.R_reads' HO_8.out).2.1); (case side3 => exact (Kd.R_reads' HO_8.out).2.2); (case side4 => exact (Kd.R_reads' HO_8.out).2.1); (case side5 => exact (Kd.C_below HR2.out HB.out)); (case side6 => exact HC2.out); rintro e w19 ⟨v111, rfl, ho0, hb⟩; refine ⟨_, rfl, ?_⟩; have HO112 := Aside0.mk (Kd.R_lower (Kd.R_new' ho0 (Kd.R_lt HO_8.out)) (below_size HB.out)); replace HO_8 := Aside0.mk (Kd.R_elder' HO_8.out (Kd.R_base ho0) hb); replace HB := Aside0.mk (below_step HB.out hb); clear hb ho0) | ((with_reducible refine gate_callee (f := 180) rfl ?_); refine goesL_ (some 30) rfl rfl Tryz.func180 (by kernel_rfl) rfl #[.slice A1 l1.length c1, .int .i64 x9_1] rfl (by (try simp only [List.map_toArray, List.map_cons, List.map_nil]); rfl) ?_; (with_reducible refine (clepsydraref03_bit.calls _ _ l1 x9_1 t113 _ ?side1 ?side2 A11.out).mono ?_); (case side1 => exact (Kd.C_below HR1.out HB.out)); (case side2 => exact HC1.out); rintro e w' ⟨rfl, ⟨nd, rfl⟩⟩; refine ⟨_, rfl, ?_⟩))
     go_roundg k1
     case measure => have := HK1.out; omega
     case rel => exact ⟨(t110), (wrap64 (x9_1 - 1)), (by rfl), H', ⟨by have := HK1.out; omega⟩, ⟨by (with_reducible repeat ((apply Kd.R_drewN))); exact Kd.R_mono HO112.out (fun _ hk => trivial)⟩, ⟨by repeat ((with_reducible first | exact HB.out | apply pw_below_drewN))⟩⟩
   ·rw [if_neg c9] at H
    have c9b0 : decide (0 ≤ x9_1) = false := decide_eq_false c9
    clear c9
    obtain rfl := Option.some.inj H
    simp only [Option.some.injEq, Prod.mk.injEq] at H
    obtain ⟨rfl⟩ := H
    go_wp2
    go_ret
    exact ⟨_, by rfl, by exact HO_8.out, HB.out⟩
def clepsydraref03_cut.l0 : Nat → List Int → Int → Option (List Int)
 | 0, _, _ => none
 | k + 1, x0, x3 => if x3 > 0 then (if 0 ≤ (wrap64 (x3 - 1)) then (if (wrap64 (x3 - 1)) < (x0.length : Int) then (if (rd x0 (wrap64 (x3 - 1))) = 0 then (clepsydraref03_cut.l0 k x0 (wrap64 (x3 - 1))) else (if 0 ≤ x3 then (if x3 ≤ (x0.length : Int) then (some (x0.take (x3 : Int).toNat)) else (none)) else (none))) else (none)) else (none)) else (if 0 ≤ x3 then (if x3 ≤ (x0.length : Int) then (some (x0.take (x3 : Int).toNat)) else (none)) else (none))
def clepsydraref03_cut.f (k : Nat) (l0 : List Int) : Option (List Int) := clepsydraref03_cut.l0 k l0 (l0.length : Int)
set_option maxHeartbeats 8000000 in
set_option maxRecDepth 100000 in
theorem clepsydraref03_cut.calls (k : Nat) (P0_ : Nat → Prop) (u9000_ : Value) (l0 : List Int) (r : List Int) (w0 w : World) (hB : Below w0.heap.size w0 w) (ho0 : Kd.R (Kd.int .i64) 3 w w0.heap.size P0_ u9000_ l0) (h : clepsydraref03_cut.f k l0 = some r) :
  Calls Tryz.prog 179 #[u9000_] w fun e w' => ∃ v0_ : Value, e = .returned (v0_) ∧ Kd.R (Kd.int .i64) 3 w' w0.heap.size (fun k_ => (P0_ k_ ∨ w.heap.size ≤ k_)) v0_ r ∧ Below w0.heap.size w0 w' ∧ Kept w w' (fun k_ => P0_ k_) := by
 have HO0 := Aside0.mk (show Kd.R (Kd.int .i64) 3 w w0.heap.size (fun k_ => (P0_ k_ ∨ w.heap.size ≤ k_)) u9000_ l0 from Kd.R_mono ho0 (fun k_ hk => (.inl hk)))
 have HK := Aside0.mk (Kept.refl w (fun k_ => P0_ k_))
 have HW0 := Aside0.mk hB.size
 have HB := Aside0.mk hB
 clear hB
 have H : (clepsydraref03_cut.l0 k l0 (l0.length : Int)) = some r := h
 clear h
 have H' := Aside0.mk H
 clear H
 obtain ⟨Ao2, co2, eo2⟩ := Kd.R_slice HO0.out
 subst eo2
 go_enter Tryz.func179, Tryz.ntmps179
 go_wp2
 go_loopg [3] k (fun kq v3 w' => ∃ (x3_1 : Int), v3 = .int .i64 x3_1 ∧ Aside0 (clepsydraref03_cut.l0 kq l0 x3_1 = some r) ∧ Aside0 (kq ≤ k) ∧ Aside0 (Kd.R (Kd.int .i64) 3 w' w0.heap.size (fun k_ => (P0_ k_ ∨ w.heap.size ≤ k_)) (.slice Ao2 l0.length co2) l0) ∧ Aside0 (Kept w w' (fun k_ => P0_ k_)) ∧ Aside0 (Below w0.heap.size w0 w'))
 case atStart => exact ⟨((l0.length : Int)), (by rfl), H', ⟨Nat.le_refl _⟩, ⟨by exact HO0.out⟩, ⟨HK.out⟩, ⟨HB.out⟩⟩
 case round =>
  clear H'
  try clear c1
  try clear p2
  obtain ⟨x3_1, rfl, HA, HK1, HO_0, HK, HB⟩ := hrel
  cases gk with
  | zero => exact absurd HA.out (by simp [clepsydraref03_cut.l0])
  | succ k1 =>
   have H := HA.out
   clear HA
   simp only [clepsydraref03_cut.l0] at H
   by_cases c3 : x3_1 > 0
   ·rw [if_pos c3] at H
    have c3b0 : decide (0 < x3_1) = true := decide_eq_true c3
    clear c3
    obtain ⟨ji4, hji4⟩ : ∃ j_ : Int, (wrap64 (x3_1 - 1)) = j_ := ⟨_, rfl⟩
    rw [hji4] at H
    have hji4w : (IntKind.i64.wrap (x3_1 - 1)) = ji4 := (i64_w _).trans hji4
    by_cases c5 : 0 ≤ (ji4)
    ·rw [if_pos c5] at H
     have c5b0 : decide (0 ≤ (ji4)) = true := decide_eq_true c5
     clear c5
     by_cases c6 : (ji4) < (l0.length : Int)
     ·rw [if_pos c6] at H
      have c6b0 : decide ((ji4) < (l0.length : Int)) = true := decide_eq_true c6
      clear c6
      by_cases c7 : (rd l0 (ji4)) = 0
      ·rw [if_pos c7] at H
       have c7b0 : ((rd l0 (ji4)) == 0) = true := beq_iff_eq.mpr c7
       have c7b1 : ((rd l0 (ji4)) != 0) = false := bne_eq_false_iff_eq.mpr c7
       clear c7
       have H' := Aside0.mk H
       clear H
       have p117 : 0 ≤ ((ji4) : Int) := of_decide_eq_true (by (with_reducible assumption))
       have q117 : (ji4) < (l0.length : Int) := of_decide_eq_true (by (with_reducible assumption))
       obtain ⟨ad117, e117, hx117_0⟩ := Kd.at_int (Kd.R_reads' HO_0.out).2.2 (ji4) p117 q117
       cases e117
       replace p117 := eq_true p117
       replace q117 := eq_true q117
       go_wp2
       go_roundg k1
       case measure => have := HK1.out; omega
       case rel => exact ⟨(ji4), (by rfl), H', ⟨by have := HK1.out; omega⟩, ⟨by exact HO_0.out⟩, ⟨HK.out⟩, ⟨HB.out⟩⟩
      ·rw [if_neg c7] at H
       have c7b0 : ((rd l0 (ji4)) == 0) = false := beq_eq_false_iff_ne.mpr c7
       have c7b1 : ((rd l0 (ji4)) != 0) = true := bne_iff_ne.mpr c7
       by_cases c8 : 0 ≤ x3_1
       ·rw [if_pos c8] at H
        have c8b0 := eq_true c8
        have c8b1 : decide (0 ≤ x3_1) = true := decide_eq_true c8
        clear c8
        by_cases c9 : x3_1 ≤ (l0.length : Int)
        ·rw [if_pos c9] at H
         have c9b0 := eq_true c9
         have c9b1 : decide (x3_1 ≤ (l0.length : Int)) = true := decide_eq_true c9
         clear c9
         obtain ⟨y118, hy118⟩ : ∃ y_ : List Int, y_ = (l0.take (x3_1 : Int).toNat) := ⟨_, rfl⟩
         rw [← hy118] at H
         have Ny118 := Aside0.mk hy118
         clear hy118
         obtain rfl := Option.some.inj H
         simp only [Option.some.injEq, Prod.mk.injEq] at H
         obtain ⟨rfl⟩ := H
         have p117 : 0 ≤ ((ji4) : Int) := of_decide_eq_true (by (with_reducible assumption))
         have q117 : (ji4) < (l0.length : Int) := of_decide_eq_true (by (with_reducible assumption))
         obtain ⟨ad117, e117, hx117_0⟩ := Kd.at_int (Kd.R_reads' HO_0.out).2.2 (ji4) p117 q117
         cases e117
         replace p117 := eq_true p117
         replace q117 := eq_true q117
         have q10 : (x3_1 : Int) ≤ ((l0.length : Int) : Int) := of_decide_eq_true (by (with_reducible assumption))
         obtain ⟨i010, hi010, _, hsz10, _⟩ := info_parts info3
         have hcut10 := cut_to (P := Tryz.prog) 120 3 .i64 Tryz.underlying120 hi010 (some ad117) l0.length co2 x3_1 (of_decide_eq_true (by (with_reducible assumption))) q10 (Kd.R_reads' HO_0.out).2.1
         have hr10 := Kd.R_take (m := (x3_1 : Int).toNat) HO_0.out (by omega)
         have hy10 : y118.length = (x3_1 : Int).toNat := (by rw [Ny118.out, List.length_take]; omega)
         rw [← Ny118.out] at hr10
         rw [← hy10] at hr10 hcut10
         clear hy10 hi010 hsz10 HO_0
         have HO120 := Aside0.mk hr10
         clear hr10
         replace q10 := eq_true q10
         go_wp2
         go_ret
         exact ⟨_, by rfl, by exact HO120.out, HB.out, HK.out⟩
        ·rw [if_neg c9] at H
         exact absurd H (by simp)
       ·rw [if_neg c8] at H
        exact absurd H (by simp)
     ·rw [if_neg c6] at H
      exact absurd H (by simp)
    ·rw [if_neg c5] at H
     exact absurd H (by simp)
   ·rw [if_neg c3] at H
    have c3b0 : decide (0 < x3_1) = false := decide_eq_false c3
    clear c3
    by_cases c11 : 0 ≤ x3_1
    ·rw [if_pos c11] at H
     have c11b0 := eq_true c11
     have c11b1 : decide (0 ≤ x3_1) = true := decide_eq_true c11
     clear c11
     by_cases c12 : x3_1 ≤ (l0.length : Int)
     ·rw [if_pos c12] at H
      have c12b0 := eq_true c12
      have c12b1 : decide (x3_1 ≤ (l0.length : Int)) = true := decide_eq_true c12
      clear c12
      obtain ⟨y121, hy121⟩ : ∃ y_ : List Int, y_ = (l0.take (x3_1 : Int).toNat) := ⟨_, rfl⟩
      rw [← hy121] at H
      have Ny121 := Aside0.mk hy121
      clear hy121
      obtain rfl := Option.some.inj H
      simp only [Option.some.injEq, Prod.mk.injEq] at H
      obtain ⟨rfl⟩ := H
      have q13 : (x3_1 : Int) ≤ ((l0.length : Int) : Int) := of_decide_eq_true (by (with_reducible assumption))
      obtain ⟨i013, hi013, _, hsz13, _⟩ := info_parts info3
      have hcut13 := cut_to (P := Tryz.prog) 120 3 .i64 Tryz.underlying120 hi013 Ao2 l0.length co2 x3_1 (of_decide_eq_true (by (with_reducible assumption))) q13 (Kd.R_reads' HO_0.out).2.1
      have hr13 := Kd.R_take (m := (x3_1 : Int).toNat) HO_0.out (by omega)
      have hy13 : y121.length = (x3_1 : Int).toNat := (by rw [Ny121.out, List.length_take]; omega)
      rw [← Ny121.out] at hr13
      rw [← hy13] at hr13 hcut13
      clear hy13 hi013 hsz13 HO_0
      have HO123 := Aside0.mk hr13
      clear hr13
      replace q13 := eq_true q13
      go_wp2
      go_ret
      exact ⟨_, by rfl, by exact HO123.out, HB.out, HK.out⟩
     ·rw [if_neg c12] at H
      exact absurd H (by simp)
    ·rw [if_neg c11] at H
     exact absurd H (by simp)
mutual
def clepsydraref03_Digits.l0 : Nat → List Int → List Int → Int → Option (List Int)
 | 0, _, _, _ => none
 | k + 1, x0, x3, x4 => if x4 < (x0.length : Int) then (clepsydraref03_Digits.l1 k x0 x3 x4 0) else ((clepsydraref03_cut.f k x3).bind fun t124 => (some t124))
def clepsydraref03_Digits.l1 : Nat → List Int → List Int → Int → Int → Option (List Int)
 | 0, _, _, _, _ => none
 | k + 1, x0, x3, x4, x5 => if x5 < 4 then (if 0 ≤ x4 then (if x4 < (x0.length : Int) then (if 0 ≤ (IntKind.u64.wrap (wrap64 (16 * x5))) then (if x3.length < 17592186044416 then (clepsydraref03_Digits.l1 k x0 (x3 ++ [wrap64 (Go.bits .and .u64 (shr .u64 (rd x0 x4) (IntKind.u64.wrap (wrap64 (16 * x5)))) 65535)]) x4 (wrap64 (x5 + 1))) else (none)) else (none)) else (none)) else (none)) else (clepsydraref03_Digits.l0 k x0 x3 (wrap64 (x4 + 1)))
end
def clepsydraref03_Digits.f (k : Nat) (l0 : List Int) : Option (List Int) := clepsydraref03_Digits.l0 k l0 ([] : List Int) 0
set_option maxHeartbeats 8000000 in
set_option maxRecDepth 100000 in
theorem clepsydraref03_Digits.calls (k : Nat) (A0 : Option Addr) (c0 : Nat) (l0 : List Int) (r : List Int) (w : World) (hr0 : Kd.C (Kd.int .u64) w A0 l0.length l0) (hc0 : l0.length ≤ c0) (h : clepsydraref03_Digits.f k l0 = some r) :
  Calls Tryz.prog 137 #[.slice A0 l0.length c0] w fun e w' => ∃ v0_ : Value, e = .returned (v0_) ∧ Kd.R (Kd.int .i64) 3 w' w.heap.size (fun _ => True) v0_ r ∧ Below w.heap.size w w' := by
 have HR0 := Aside0.mk hr0
 have HC0 := Aside0.mk hc0
 clear hr0 hc0
 have HB := Aside0.mk (Below.refl w.heap.size w)
 have H : (clepsydraref03_Digits.l0 k l0 ([] : List Int) 0) = some r := h
 clear h
 have H' := Aside0.mk H
 clear H
 go_enter Tryz.func137, Tryz.ntmps137
 go_wp2
 go_loopg [3, 4] k (fun kq v3 v4 w' => ∃ (x3_1 : List Int) (x4_1 : Int), v4 = .int .i64 x4_1 ∧ Aside0 (clepsydraref03_Digits.l0 kq l0 x3_1 x4_1 = some r) ∧ Aside0 (kq ≤ k) ∧ Aside0 (Kd.R (Kd.int .i64) 3 w' w.heap.size (fun _ => True) v3 x3_1) ∧ Aside0 (Below w.heap.size w w'))
 case atStart => exact ⟨(([] : List Int)), (0), (by rfl), H', ⟨Nat.le_refl _⟩, ⟨by (exact Kd.R_nil _ _ _ _ _)⟩, ⟨HB.out⟩⟩
 case round =>
  clear H'
  try clear c1
  obtain ⟨x3_1, x4_1, rfl, HA, HK1, HO_3, HB⟩ := hrel
  cases gk with
  | zero => exact absurd HA.out (by simp [clepsydraref03_Digits.l0])
  | succ k1 =>
   have H := HA.out
   clear HA
   simp only [clepsydraref03_Digits.l0] at H
   by_cases c2 : x4_1 < (l0.length : Int)
   ·rw [if_pos c2] at H
    have c2b0 : decide (x4_1 < (l0.length : Int)) = true := decide_eq_true c2
    clear c2
    have H' := Aside0.mk H
    clear H
    go_wp2
    go_loopg [3, 5] k1 (fun kq v3 v5 w' => ∃ (x3_2 : List Int) (x5_2 : Int), v5 = .int .i64 x5_2 ∧ Aside0 (clepsydraref03_Digits.l1 kq l0 x3_2 x4_1 x5_2 = some r) ∧ Aside0 (kq ≤ k1) ∧ Aside0 (Kd.R (Kd.int .i64) 3 w' w.heap.size (fun _ => True) v3 x3_2) ∧ Aside0 (Below w.heap.size w w'))
    case atStart => exact ⟨(x3_1), (0), (by rfl), H', ⟨Nat.le_refl _⟩, ⟨by exact HO_3.out⟩, ⟨HB.out⟩⟩
    case round =>
     clear H'
     try clear c1
     try clear c2
     try clear c2b0
     try clear p2
     obtain ⟨x3_2, x5_2, rfl, HA, HK2, HO_3, HB⟩ := hrel
     cases gk with
     | zero => exact absurd HA.out (by simp [clepsydraref03_Digits.l1])
     | succ k2 =>
      have H := HA.out
      clear HA
      simp only [clepsydraref03_Digits.l1] at H
      by_cases c3 : x5_2 < 4
      ·rw [if_pos c3] at H
       have c3b0 : decide (x5_2 < 4) = true := decide_eq_true c3
       clear c3
       by_cases c4 : 0 ≤ x4_1
       ·rw [if_pos c4] at H
        have c4b0 : decide (0 ≤ x4_1) = true := decide_eq_true c4
        clear c4
        by_cases c5 : x4_1 < (l0.length : Int)
        ·rw [if_pos c5] at H
         have c5b0 : decide (x4_1 < (l0.length : Int)) = true := decide_eq_true c5
         clear c5
         obtain ⟨ji6, hji6⟩ : ∃ j_ : Int, (IntKind.u64.wrap (wrap64 (16 * x5_2))) = j_ := ⟨_, rfl⟩
         rw [hji6] at H
         by_cases c7 : 0 ≤ (ji6)
         ·rw [if_pos c7] at H
          have c7b0 := eq_true c7
          have c7b1 : decide (0 ≤ (ji6)) = true := decide_eq_true c7
          clear c7
          obtain ⟨ji8, hji8⟩ : ∃ j_ : Int, (shr .u64 (rd l0 x4_1) (ji6)) = j_ := ⟨_, rfl⟩
          rw [hji8] at H
          have hji8_ : ((rd l0 x4_1) / 2 ^ min (ji6).toNat 64) = ji8 := hji8
          have hji8z : (ji6) ≤ 64 → ((rd l0 x4_1) / 2 ^ (ji6).toNat) = ji8 := shr_small hji8
          by_cases c9 : x3_2.length < 17592186044416
          ·rw [if_pos c9] at H
           have LMc9 := Aside0.mk c9
           clear c9
           obtain ⟨y128, hy128⟩ : ∃ y_ : List Int, y_ = (x3_2 ++ [wrap64 (Go.bits .and .u64 (ji8) 65535)]) := ⟨_, rfl⟩
           rw [← hy128] at H
           have Ny128 := Aside0.mk hy128
           clear hy128
           have H' := Aside0.mk H
           clear H
           have p127 : 0 ≤ (x4_1 : Int) := of_decide_eq_true (by (with_reducible assumption))
           have q127 : x4_1 < (l0.length : Int) := of_decide_eq_true (by (with_reducible assumption))
           obtain ⟨ad127, e127, hx127_0⟩ := Kd.at_int HR0.out x4_1 p127 q127
           cases e127
           replace hx127_0 := (HB.out.cell (World.block_lt_of_cell? w _ hx127_0)).trans hx127_0
           replace p127 := eq_true p127
           replace q127 := eq_true q127
           go_wp2_with ((((with_reducible refine gate_builtin (b := .append) (xs := #[.tmp 16, .tmp 27]) rfl ?_); at_builtin; refine Kd.R_append (Kd.int .i64) (w0 := w) w.heap.size rfl (.tmp 16) (.tmp 27) 120 3 (.int .i64 0) 8 rfl Tryz.underlying120 info3 rfl (by decide) (by omega) u3 x3_2 (wrap64 (Go.bits .and .u64 (ji8) 65535)) [.int .i64 (wrap64 (Go.bits .and .u64 (ji8) 65535))] (fun _ => True) (fun _ => False) rfl rfl ?aP (fun _ hk => hk.elim) ?aF ?aO ?aB ?aS ?aL ?_; (case aP => exact rfl); (case aB => exact HB.out); (case aF => exact (fun _ _ => trivial)); (case aO => exact HO_3.out); (case aS => exact (below_size HB.out)); (case aL => have := LMc9.out; omega); intro v129 w10 ho hb hg hat; rw [← Ny128.out] at ho; replace HB := Aside0.mk (hb); have HO130 := Aside0.mk (ho); clear HO_3; clear ho hb hg hat)))
           go_roundg k2
           case measure => have := HK1.out; have := HK2.out; omega
           case rel => exact ⟨(y128), (wrap64 (x5_2 + 1)), (by rfl), H', ⟨by have := HK1.out; have := HK2.out; omega⟩, ⟨by exact HO130.out⟩, ⟨HB.out⟩⟩
          ·rw [if_neg c9] at H
           exact absurd H (by simp)
         ·rw [if_neg c7] at H
          exact absurd H (by simp)
        ·rw [if_neg c5] at H
         exact absurd H (by simp)
       ·rw [if_neg c4] at H
        exact absurd H (by simp)
      ·rw [if_neg c3] at H
       have c3b0 : decide (x5_2 < 4) = false := decide_eq_false c3
       clear c3
       have H' := Aside0.mk H
       clear H
       go_wp2
       go_roundg k2
       case measure => have := HK1.out; have := HK2.out; omega
       case rel => exact ⟨(x3_2), (wrap64 (x4_1 + 1)), (by rfl), H', ⟨by have := HK1.out; have := HK2.out; omega⟩, ⟨by exact HO_3.out⟩, ⟨HB.out⟩⟩
   ·rw [if_neg c2] at H
    have c2b0 : decide (x4_1 < (l0.length : Int)) = false := decide_eq_false c2
    clear c2
    replace H := Option.bind_eq_some_iff.mp H
    obtain ⟨t124, A110, H⟩ := H
    try dsimp only at H
    have A11 := Aside0.mk A110
    clear A110
    obtain rfl := Option.some.inj H
    simp only [Option.some.injEq, Prod.mk.injEq] at H
    obtain ⟨rfl⟩ := H
    obtain ⟨Ao12, co12, eo12⟩ := Kd.R_slice HO_3.out
    subst eo12
    go_wp2_with ((((with_reducible refine gate_callee (f := 179) rfl ?_); refine goesL_ (some 30) rfl rfl Tryz.func179 (by kernel_rfl) rfl #[.slice Ao12 x3_1.length co12] rfl (by (try simp only [List.map_toArray, List.map_cons, List.map_nil]); rfl) ?_; (with_reducible refine (clepsydraref03_cut.calls k1 (fun k_ => some k_ = (.slice Ao12 x3_1.length co12 : Value).ownBlock) (.slice Ao12 x3_1.length co12) x3_1 t124 w _ ?side1 ?side2 A11.out).mono ?_); (case side1 => exact HB.out); (case side2 => exact Kd.R_tight rfl HO_3.out); rintro e w13 ⟨v125, rfl, ho0, hb, hkp⟩; refine ⟨_, rfl, ?_⟩; have HO126 := Aside0.mk (Kd.R_mono (ok' := fun k_ => True) ho0 (fun k_ hk_ => trivial)); replace HB := Aside0.mk (hb); clear HO_3; clear hb hkp ho0)))
    go_ret
    exact ⟨_, by rfl, by exact HO126.out, HB.out⟩
end Go.Proofs.YtdmglajfmfjmlaaGreat.Cr
namespace Go.Proofs.YtdmglajfmfjmlaaGreat.Cr
open Go.RowKit Go.Proofs.YtdmglajfmfjmlaaGreatW.PrintWords Go.Proofs.YtdmglajfmfjmlaaGreatW.PrintLast Go.Proofs.YtdmglajfmfjmlaaGreatW.PrintMore
attribute [local go_sem] max2_int min2_int max_two min_two max_three min_three max_four min_four   -- for this text's walks alone
set_option linter.unusedVariables false
set_option linter.unusedSimpArgs false
def clepsydraref03_Number.l0 : Nat → List Int → List Int → Int → Option (List Int)
 | 0, _, _, _ => none
 | k + 1, x0, x3, x4 => if x4 < (x0.length : Int) then (if (Int.tmod x4 4) = 0 then (if x3.length < 17592186044416 then ((some (x3 ++ [0] : List Int)).bind fun y134 => (if 0 ≤ (wrap64 (Int.tdiv x4 4)) then (if (wrap64 (Int.tdiv x4 4)) < (y134.length : Int) then (if 0 ≤ x4 then (if 0 ≤ (IntKind.u64.wrap (wrap64 (16 * (Int.tmod x4 4)))) then (clepsydraref03_Number.l0 k x0 (y134.set ((wrap64 (Int.tdiv x4 4)) : Int).toNat (IntKind.u64.wrap ((rd y134 (wrap64 (Int.tdiv x4 4))) + (shl .u64 (IntKind.u64.wrap (rd x0 x4)) (IntKind.u64.wrap (wrap64 (16 * (Int.tmod x4 4)))))))) (wrap64 (x4 + 1))) else (none)) else (none)) else (none)) else (none))) else (none)) else (if 0 ≤ (wrap64 (Int.tdiv x4 4)) then (if (wrap64 (Int.tdiv x4 4)) < (x3.length : Int) then (if 0 ≤ x4 then (if 0 ≤ (IntKind.u64.wrap (wrap64 (16 * (Int.tmod x4 4)))) then (clepsydraref03_Number.l0 k x0 (x3.set ((wrap64 (Int.tdiv x4 4)) : Int).toNat (IntKind.u64.wrap ((rd x3 (wrap64 (Int.tdiv x4 4))) + (shl .u64 (IntKind.u64.wrap (rd x0 x4)) (IntKind.u64.wrap (wrap64 (16 * (Int.tmod x4 4)))))))) (wrap64 (x4 + 1))) else (none)) else (none)) else (none)) else (none))) else (some x3)
def clepsydraref03_Number.f (k : Nat) (l0 : List Int) : Option (List Int) := (clepsydraref03_cut.f k l0).bind fun t131 => (clepsydraref03_Number.l0 k t131 ([] : List Int) 0)
def clepsydraref03_Number.T8 : Bool × List (List Nat × List Nat) := (true, [([], []), ([], []), ([1], [1]), ([], []), ([], []), ([4], [4]), ([3, 5], [3, 5]), ([6], [6]), ([], []), ([], []), ([8, 9], [8, 9]), ([10], [10]), ([11], [11]), ([], []), ([13], [13]), ([14], [14]), ([15], [15]), ([12, 16], [12, 16]), ([7, 17], [7, 17]), ([0, 2, 0, 1, 2, 3, 4, 5, 6, 7, 8, 9, 10, 11, 12, 13, 14, 15, 16, 17, 18], [0, 2]), ([19, 18, 0, 1, 2, 3, 4, 5, 6, 7, 8, 9, 10, 11, 12, 13, 14, 15, 16, 17, 18], [18, 19])])
def clepsydraref03_Number.B8 : List Nat := [0, 0, 2, 0, 0, 16, 56, 120, 0, 0, 768, 1792, 3840, 0, 8192, 24576, 57344, 130816, 262136, 524287, 1048575]
theorem clepsydraref03_Number.tab8 : rtab .any (opsOf Tryz.f143 8) = clepsydraref03_Number.T8 := by kernel_rfl
theorem clepsydraref03_Number.bits8 : waitsOk clepsydraref03_Number.T8.2 clepsydraref03_Number.B8 = true := by kernel_rfl
set_option maxHeartbeats 8000000 in
set_option maxRecDepth 100000 in
theorem clepsydraref03_Number.calls (k : Nat) (P0_ : Nat → Prop) (u9000_ : Value) (l0 : List Int) (r : List Int) (w0 w : World) (hB : Below w0.heap.size w0 w) (ho0 : Kd.R (Kd.int .i64) 3 w w0.heap.size P0_ u9000_ l0) (h : clepsydraref03_Number.f k l0 = some r) :
  Calls Tryz.prog 143 #[u9000_] w fun e w' => ∃ v0_ : Value, e = .returned (v0_) ∧ Kd.R (Kd.int .u64) 23 w' w0.heap.size (fun k_ => (P0_ k_ ∨ w.heap.size ≤ k_)) v0_ r ∧ Below w0.heap.size w0 w' ∧ Kept w w' (fun k_ => P0_ k_) := by
 have HO0 := Aside0.mk (show Kd.R (Kd.int .i64) 3 w w0.heap.size (fun k_ => (P0_ k_ ∨ w.heap.size ≤ k_)) u9000_ l0 from Kd.R_mono ho0 (fun k_ hk => (.inl hk)))
 have HK := Aside0.mk (Kept.refl w (fun k_ => P0_ k_))
 have HW0 := Aside0.mk hB.size
 have HB := Aside0.mk hB
 clear hB
 have H : ((clepsydraref03_cut.f k l0).bind fun t131 => (clepsydraref03_Number.l0 k t131 ([] : List Int) 0)) = some r := h
 clear h
 replace H := Option.bind_eq_some_iff.mp H
 obtain ⟨t131, A20, H⟩ := H
 try dsimp only at H
 have A2 := Aside0.mk A20
 clear A20
 have H' := Aside0.mk H
 clear H
 obtain ⟨Ao3, co3, eo3⟩ := Kd.R_slice HO0.out
 subst eo3
 go_enter Tryz.func143, Tryz.ntmps143
 go_wp2_with ((((with_reducible refine gate_callee (f := 179) rfl ?_); refine goesL_ (some 6) rfl rfl Tryz.func179 (by kernel_rfl) rfl #[.slice Ao3 l0.length co3] rfl (by (try simp only [List.map_toArray, List.map_cons, List.map_nil]); rfl) ?_; (with_reducible refine (clepsydraref03_cut.calls k (fun k_ => some k_ = (.slice Ao3 l0.length co3 : Value).ownBlock) (.slice Ao3 l0.length co3) l0 t131 w0 _ ?side1 ?side2 A2.out).mono ?_); (case side1 => exact HB.out); (case side2 => exact Kd.R_tight rfl HO0.out); rintro e w4 ⟨v132, rfl, ho0, hb, hkp⟩; refine ⟨_, rfl, ?_⟩; have HO133 := Aside0.mk (Kd.R_mono (ok' := fun k_ => (P0_ k_ ∨ w.heap.size ≤ k_)) ho0 (fun k_ hk_ => Or.elim hk_ (fun hs_ => (HO0.out.1 k_ (hs_).symm)) (fun hn_ => (.inr (Nat.le_trans (by (exact HK.out.1)) hn_))))); replace HK := Aside0.mk (Kept.then_ (S := (fun k_ => P0_ k_)) HK.out hkp (fun k_ hs_ => (fun e_ => (HO0.out.1 k_ e_.symm)) hs_)); replace HB := Aside0.mk (hb); clear HO0; clear hb hkp ho0)))
 go_loopg [3, 4] k (fun kq v3 v4 w' => ∃ (x3_1 : List Int) (x4_1 : Int), v4 = .int .i64 x4_1 ∧ Aside0 (clepsydraref03_Number.l0 kq t131 x3_1 x4_1 = some r) ∧ Aside0 (kq ≤ k) ∧ Aside0 (Kd.R (Kd.int .i64) 3 w' w0.heap.size (fun k_ => (P0_ k_ ∨ w.heap.size ≤ k_)) v132 t131) ∧ Aside0 (Kd.R (Kd.int .u64) 23 w' w0.heap.size (fun k_ => (P0_ k_ ∨ w.heap.size ≤ k_)) v3 x3_1) ∧ Aside0 (Kept w w' (fun k_ => P0_ k_)) ∧ Aside0 (Below w0.heap.size w0 w'))
 case atStart => exact ⟨(([] : List Int)), (0), (by rfl), H', ⟨Nat.le_refl _⟩, ⟨by exact HO133.out⟩, ⟨by (exact Kd.R_nil _ _ _ _ _)⟩, ⟨HK.out⟩, ⟨HB.out⟩⟩
 case round =>
  clear H'
  try clear c1
  try clear p2
  obtain ⟨x3_1, x4_1, rfl, HA, HK1, HO_0, HO_3, HK, HB⟩ := hrel
  cases gk with
  | zero => exact absurd HA.out (by simp [clepsydraref03_Number.l0])
  | succ k1 =>
   have H := HA.out
   clear HA
   simp only [clepsydraref03_Number.l0] at H
   by_cases c5 : x4_1 < (t131.length : Int)
   ·rw [if_pos c5] at H
    have c5b0 : decide (x4_1 < (t131.length : Int)) = true := decide_eq_true c5
    clear c5
    by_cases c6 : (Int.tmod x4_1 4) = 0
    ·rw [if_pos c6] at H
     have c6b0 : ((Int.tmod x4_1 4) == 0) = true := beq_iff_eq.mpr c6
     have c6b1 : ((Int.tmod x4_1 4) != 0) = false := bne_eq_false_iff_eq.mpr c6
     clear c6
     by_cases c7 : x3_1.length < 17592186044416
     ·rw [if_pos c7] at H
      have LMc7 := Aside0.mk c7
      clear c7
      obtain ⟨y134, hy134⟩ : ∃ y_ : List Int, y_ = (x3_1 ++ [0]) := ⟨_, rfl⟩
      replace H : (if 0 ≤ (wrap64 (Int.tdiv x4_1 4)) then (if (wrap64 (Int.tdiv x4_1 4)) < (y134.length : Int) then (if 0 ≤ x4_1 then (if 0 ≤ (IntKind.u64.wrap (wrap64 (16 * (Int.tmod x4_1 4)))) then (clepsydraref03_Number.l0 k1 t131 (y134.set ((wrap64 (Int.tdiv x4_1 4)) : Int).toNat (IntKind.u64.wrap ((rd y134 (wrap64 (Int.tdiv x4_1 4))) + (shl .u64 (IntKind.u64.wrap (rd t131 x4_1)) (IntKind.u64.wrap (wrap64 (16 * (Int.tmod x4_1 4)))))))) (wrap64 (x4_1 + 1))) else (none)) else (none)) else (none)) else (none)) = some r := by (have H2_ := (Option.bind_some _ _).symm.trans H; rw [hy134]; with_reducible exact H2_)
      have Ny134 := Aside0.mk hy134
      clear hy134
      obtain ⟨ji8, hji8⟩ : ∃ j_ : Int, (wrap64 (Int.tdiv x4_1 4)) = j_ := ⟨_, rfl⟩
      rw [hji8] at H
      have hji8w : (IntKind.i64.wrap (Int.tdiv x4_1 4)) = ji8 := (i64_w _).trans hji8
      by_cases c9 : 0 ≤ (ji8)
      ·rw [if_pos c9] at H
       have c9b0 : decide (0 ≤ (ji8)) = true := decide_eq_true c9
       clear c9
       by_cases c10 : (ji8) < (y134.length : Int)
       ·rw [if_pos c10] at H
        have c10b0 : decide ((ji8) < (y134.length : Int)) = true := decide_eq_true c10
        clear c10
        by_cases c11 : 0 ≤ x4_1
        ·rw [if_pos c11] at H
         have c11b0 : decide (0 ≤ x4_1) = true := decide_eq_true c11
         clear c11
         obtain ⟨ji12, hji12⟩ : ∃ j_ : Int, (IntKind.u64.wrap (wrap64 (16 * (Int.tmod x4_1 4)))) = j_ := ⟨_, rfl⟩
         rw [hji12] at H
         by_cases c13 : 0 ≤ (ji12)
         ·rw [if_pos c13] at H
          have c13b0 := eq_true c13
          have c13b1 : decide (0 ≤ (ji12)) = true := decide_eq_true c13
          clear c13
          obtain ⟨ji14, hji14⟩ : ∃ j_ : Int, (shl .u64 (IntKind.u64.wrap (rd t131 x4_1)) (ji12)) = j_ := ⟨_, rfl⟩
          rw [hji14] at H
          have hji14_ : (IntKind.u64.wrap ((IntKind.u64.wrap (rd t131 x4_1)) * 2 ^ min (ji12).toNat 64)) = ji14 := hji14
          have hji14z : (ji12) ≤ 64 → (IntKind.u64.wrap ((IntKind.u64.wrap (rd t131 x4_1)) * 2 ^ (ji12).toNat)) = ji14 := shl_small hji14
          obtain ⟨y139, hy139⟩ : ∃ y_ : List Int, y_ = (y134.set ((ji8) : Int).toNat (IntKind.u64.wrap ((rd y134 (ji8)) + (ji14)))) := ⟨_, rfl⟩
          rw [← hy139] at H
          have Ny139 := Aside0.mk hy139
          clear hy139
          have H' := Aside0.mk H
          clear H
          obtain ⟨Ao16, co16, eo16⟩ := Kd.R_slice HO_0.out
          subst eo16
          try go_wp2_with ((((with_reducible refine gate_builtin (b := .append) (xs := #[.tmp 16, .tmp 17]) rfl ?_); at_builtin; refine Kd.R_append (Kd.int .u64) (w0 := w0) w0.heap.size rfl (.tmp 16) (.tmp 17) 22 23 (.int .u64 0) 8 rfl Tryz.underlying22 info23 rfl (by decide) (by omega) u3 x3_1 0 [.int .u64 0] (fun k_ => (P0_ k_ ∨ w.heap.size ≤ k_)) (fun _ => False) rfl rfl ?aP (fun _ hk => hk.elim) ?aF ?aO ?aB ?aS ?aL ?_; (case aP => exact rfl); (case aB => exact HB.out); (case aF => exact (fun k_ hk => (.inr (Nat.le_trans (by (exact HK.out.1)) hk)))); (case aO => exact HO_3.out); (case aS => exact (below_size HB.out)); (case aL => have := LMc7.out; omega); intro v135 w17 ho hb hg hat; rw [← Ny134.out] at ho; replace HO_0 := Aside0.mk (Kd.R_over' HO_0.out (Kd.R_typed HO_3.out) (by decide) hg); replace HB := Aside0.mk (hb); replace HK := Aside0.mk (Kept.of_grown (S := (fun k_ => P0_ k_)) hg HK.out (fun k_ e_ => (HO_3.out.1 k_ e_))); have HO136 := Aside0.mk (ho); clear HO_3; clear ho hb hg hat)))
          have n0_ := Aside0.mk (Kd.R_drew HO_0.out)
          have n1_ := Aside0.mk (Kd.R_drew HO136.out)
          have n2_ := Aside0.mk (Kept.drew HK.out)
          have n3_ := Aside0.mk (below_drew1 HB.out)
          clear HO_0
          clear HO136
          clear HK
          clear HB
          have HO_0 := n0_
          have HO136 := n1_
          have HK := n2_
          have HB := n3_
          clear n0_ n1_ n2_ n3_
          obtain ⟨Ao19, co19, eo19⟩ := Kd.R_slice HO136.out
          ((subst eo19))
          have p137 : 0 ≤ ((ji8) : Int) := of_decide_eq_true (by (with_reducible assumption))
          have q137 : (ji8) < (y134.length : Int) := of_decide_eq_true (by (with_reducible assumption))
          obtain ⟨ad137, e137, hx137_0⟩ := Kd.at_int (Kd.R_reads' HO136.out).2.2 (ji8) p137 q137
          cases e137
          replace p137 := eq_true p137
          replace q137 := eq_true q137
          have p138 : 0 ≤ (x4_1 : Int) := of_decide_eq_true (by (with_reducible assumption))
          have q138 : x4_1 < (t131.length : Int) := of_decide_eq_true (by (with_reducible assumption))
          obtain ⟨ad138, e138, hx138_0⟩ := Kd.at_int (Kd.R_reads' HO_0.out).2.2 x4_1 p138 q138
          cases e138
          replace p138 := eq_true p138
          replace q138 := eq_true q138
          have p15 : 0 ≤ ((ji8) : Int) := of_decide_eq_true (by (with_reducible assumption))
          have q15 : ((ji8) : Int) < ((y134.length : Int) : Int) := of_decide_eq_true (by (with_reducible assumption))
          obtain ⟨go15, co15, eo15, gb15, gl15, cl15, HG15⟩ := Kd.R_form HO136.out (by omega)
          ((cases eo15))
          have GB15 := Aside0.mk gb15
          have GG15 := Aside0.mk HG15
          clear gb15 gl15 HG15
          have HMgo15 := Aside0.mk (show (P0_ go15 ∨ w.heap.size ≤ go15) from (HO136.out.1 _ rfl))
          ((simp only [add_plain] at hx137_0))
          obtain ⟨hx15_0, hf15_0⟩ := Kd.R_celln 0 HO136.out ((ji8) : Int) p15 q15
          replace p15 := eq_true p15
          replace q15 := eq_true q15
          have HP20 := Kd.R_putn HO136.out ((ji8) : Int) (IntKind.u64.wrap ((rd y134 (ji8)) + (ji14)))
          rw [← Ny139.out] at HP20
          have HQ20 := Aside0.mk HP20
          clear HP20
          refine start_ (n := 21) (S := fun w' => w'.cell? ⟨go15, ((ji8)).toNat, none⟩ = some (.int .u64 (rd y134 (ji8))) ∧ w'.cell? (ad138.add (x4_1).toNat) = some (.int .i64 (rd t131 x4_1))) (ds := [20]) #[false, false, false, false, false, false, false, false, false, false, false, false, false, false, false, false, false, false, false, false, false] (by kernel_rfl) rfl rfl ⟨hx137_0, hx138_0⟩ (fun hHeld => ?_); refine with_tabW clepsydraref03_Number.tab8 clepsydraref03_Number.bits8 (fun HT_ HW_ => ?_)
          generalize w17.drew = w18 at HO_0 HO136 HK HB GG15 HQ20 hf15_0 hx137_0 hx138_0 hx15_0 hHeld ⊢
          refine pure_ (i := 0) (N := some 19) (v := ?_) (a' := ?_) #[true, false, false, false, false, false, false, false, false, false, false, false, false, false, false, false, false, false, false, false, false] rfl rfl (any_of HT_.out (by kernel_rfl)) (fun _ _ _ h => h) (Or.inl ⟨by rfl, ?_⟩) ?_ ?_
          rotate_left
          ·intro w'
           go_simp
           with_reducible rfl
          rotate_left
          ·simp only [Act.put, List.setIfInBounds_toArray, List.set_cons_zero, List.set_cons_succ, i64_w, i32_w]
           rfl
          refine pure_ (i := 1) (N := some 20) (v := ?_) (a' := ?_) #[true, true, false, false, false, false, false, false, false, false, false, false, false, false, false, false, false, false, false, false, false] rfl rfl (any_of HT_.out (by kernel_rfl)) (fun _ _ _ h => h) (Or.inl ⟨by rfl, ?_⟩) ?_ ?_
          rotate_left
          ·intro w'
           go_simp
           with_reducible rfl
          rotate_left
          ·simp only [Act.put, List.setIfInBounds_toArray, List.set_cons_zero, List.set_cons_succ, i64_w, i32_w]
           rfl
          refine pure_ (i := 2) (N := some 21) (v := ?_) (a' := ?_) #[true, true, true, false, false, false, false, false, false, false, false, false, false, false, false, false, false, false, false, false, false] rfl rfl (any_of HT_.out (by kernel_rfl)) (fun _ _ _ h => h) (Or.inl ⟨by rfl, ?_⟩) ?_ ?_
          rotate_left
          ·intro w'
           go_simp
           with_reducible rfl
          rotate_left
          ·simp only [Act.put, List.setIfInBounds_toArray, List.set_cons_zero, List.set_cons_succ, i64_w, i32_w]
           rfl
          refine pure_ (i := 3) (N := some 22) (v := ?_) (a' := ?_) #[true, true, true, true, false, false, false, false, false, false, false, false, false, false, false, false, false, false, false, false, false] rfl rfl (any_of HT_.out (by kernel_rfl)) (fun _ _ _ h => h) (Or.inl ⟨by rfl, ?_⟩) ?_ ?_
          rotate_left
          ·intro w'
           go_simp
           with_reducible rfl
          rotate_left
          ·simp only [Act.put, List.setIfInBounds_toArray, List.set_cons_zero, List.set_cons_succ, i64_w, i32_w]
           rfl
          refine pure_ (i := 4) (N := some 23) (v := ?_) (a' := ?_) #[true, true, true, true, true, false, false, false, false, false, false, false, false, false, false, false, false, false, false, false, false] rfl rfl (any_of HT_.out (by kernel_rfl)) (fun _ _ _ h => h) (Or.inl ⟨by rfl, ?_⟩) ?_ ?_
          rotate_left
          ·intro w'
           go_simp
           with_reducible rfl
          rotate_left
          ·simp only [Act.put, List.setIfInBounds_toArray, List.set_cons_zero, List.set_cons_succ, i64_w, i32_w]
           rfl
          refine pure_ (i := 5) (N := some 24) (v := ?_) (a' := ?_) #[true, true, true, true, true, true, false, false, false, false, false, false, false, false, false, false, false, false, false, false, false] rfl rfl (any_of HT_.out (by kernel_rfl)) (fun _ _ _ h => h) (Or.inl ⟨by rfl, ?_⟩) ?_ ?_
          rotate_left
          ·intro w'
           go_simp
           with_reducible rfl
          rotate_left
          ·simp only [Act.put, List.setIfInBounds_toArray, List.set_cons_zero, List.set_cons_succ, i64_w, i32_w]
           rfl
          refine pure_ (i := 6) (N := some 25) (v := ?_) (a' := ?_) #[true, true, true, true, true, true, true, false, false, false, false, false, false, false, false, false, false, false, false, false, false] rfl rfl (any_of HT_.out (by kernel_rfl)) (fun _ _ _ h => h) (Or.inl ⟨by rfl, ?_⟩) ?_ ?_
          rotate_left
          ·intro w'
           go_simp
           with_reducible rfl
          rotate_left
          ·simp only [Act.put, List.setIfInBounds_toArray, List.set_cons_zero, List.set_cons_succ, i64_w, i32_w]
           rfl
          refine pure_ (i := 8) (N := some 27) (v := ?_) (a' := ?_) #[true, true, true, true, true, true, true, false, true, false, false, false, false, false, false, false, false, false, false, false, false] rfl rfl (any_of HT_.out (by kernel_rfl)) (fun _ _ _ h => h) (Or.inl ⟨by rfl, ?_⟩) ?_ ?_
          rotate_left
          ·intro w'
           go_simp
           with_reducible rfl
          rotate_left
          ·simp only [Act.put, List.setIfInBounds_toArray, List.set_cons_zero, List.set_cons_succ, i64_w, i32_w]
           rfl
          refine pure_ (i := 9) (N := some 28) (v := ?_) (a' := ?_) #[true, true, true, true, true, true, true, false, true, true, false, false, false, false, false, false, false, false, false, false, false] rfl rfl (any_of HT_.out (by kernel_rfl)) (fun _ _ _ h => h) (Or.inl ⟨by rfl, ?_⟩) ?_ ?_
          rotate_left
          ·intro w'
           go_simp
           with_reducible rfl
          rotate_left
          ·simp only [Act.put, List.setIfInBounds_toArray, List.set_cons_zero, List.set_cons_succ, i64_w, i32_w]
           rfl
          refine pure_ (i := 10) (N := some 29) (v := ?_) (a' := ?_) #[true, true, true, true, true, true, true, false, true, true, true, false, false, false, false, false, false, false, false, false, false] rfl rfl (any_of HT_.out (by kernel_rfl)) (fun _ _ _ h => h) (Or.inl ⟨by rfl, ?_⟩) ?_ ?_
          rotate_left
          ·intro w'
           go_simp
           with_reducible rfl
          rotate_left
          ·simp only [Act.put, List.setIfInBounds_toArray, List.set_cons_zero, List.set_cons_succ, i64_w, i32_w]
           rfl
          refine pure_ (i := 13) (N := some 32) (v := ?_) (a' := ?_) #[true, true, true, true, true, true, true, false, true, true, true, false, false, true, false, false, false, false, false, false, false] rfl rfl (any_of HT_.out (by kernel_rfl)) (fun _ _ _ h => h) (Or.inl ⟨by rfl, ?_⟩) ?_ ?_
          rotate_left
          ·intro w'
           go_simp
           with_reducible rfl
          rotate_left
          ·simp only [Act.put, List.setIfInBounds_toArray, List.set_cons_zero, List.set_cons_succ, i64_w, i32_w]
           rfl
          refine pure_ (i := 14) (N := some 33) (v := ?_) (a' := ?_) #[true, true, true, true, true, true, true, false, true, true, true, false, false, true, true, false, false, false, false, false, false] rfl rfl (any_of HT_.out (by kernel_rfl)) (fun _ _ _ h => h) (Or.inl ⟨by rfl, ?_⟩) ?_ ?_
          rotate_left
          ·intro w'
           go_simp
           with_reducible rfl
          rotate_left
          ·simp only [Act.put, List.setIfInBounds_toArray, List.set_cons_zero, List.set_cons_succ, i64_w, i32_w]
           rfl
          refine pure_ (i := 15) (N := some 34) (v := ?_) (a' := ?_) #[true, true, true, true, true, true, true, false, true, true, true, false, false, true, true, true, false, false, false, false, false] rfl rfl (any_of HT_.out (by kernel_rfl)) (fun _ _ _ h => h) (Or.inl ⟨by rfl, ?_⟩) ?_ ?_
          rotate_left
          ·intro w'
           go_simp
           with_reducible rfl
          rotate_left
          ·simp only [Act.put, List.setIfInBounds_toArray, List.set_cons_zero, List.set_cons_succ, i64_w, i32_w]
           rfl
          refine pure_ (i := 16) (N := some 35) (v := ?_) (a' := ?_) #[true, true, true, true, true, true, true, false, true, true, true, false, false, true, true, true, true, false, false, false, false] rfl rfl (any_of HT_.out (by kernel_rfl)) (fun _ _ _ h => h) (Or.inl ⟨by rfl, ?_⟩) ?_ ?_
          rotate_left
          ·intro w'
           go_simp
           with_reducible rfl
          rotate_left
          ·simp only [Act.put, List.setIfInBounds_toArray, List.set_cons_zero, List.set_cons_succ, i64_w, i32_w]
           rfl
          refine take_ (i := 7) (N := some 26) (v := ?_) (a' := ?_) #[true, true, true, true, true, true, true, true, true, true, true, false, false, true, true, true, true, false, false, false, false] rfl rfl (take_ofW HT_.out HW_.out (by kernel_rfl)) (fun _ _ _ h => h) (Or.inl ⟨by rfl, ?_⟩) hHeld ?_ ?_
          rotate_left
          ·rintro w' ⟨s0, s1⟩
           go_simp
           with_reducible rfl
          rotate_left
          ·simp only [Act.put, List.setIfInBounds_toArray, List.set_cons_zero, List.set_cons_succ, i64_w, i32_w]
           rfl
          refine take_ (i := 11) (N := some 30) (v := ?_) (a' := ?_) #[true, true, true, true, true, true, true, true, true, true, true, true, false, true, true, true, true, false, false, false, false] rfl rfl (take_ofW HT_.out HW_.out (by kernel_rfl)) (fun _ _ _ h => h) (Or.inl ⟨by rfl, ?_⟩) hHeld ?_ ?_
          rotate_left
          ·rintro w' ⟨s0, s1⟩
           go_simp
           with_reducible rfl
          rotate_left
          ·simp only [Act.put, List.setIfInBounds_toArray, List.set_cons_zero, List.set_cons_succ, i64_w, i32_w]
           rfl
          refine pure_ (i := 12) (N := some 31) (v := ?_) (a' := ?_) #[true, true, true, true, true, true, true, true, true, true, true, true, true, true, true, true, true, false, false, false, false] rfl rfl (any_of HT_.out (by kernel_rfl)) (fun _ _ _ h => h) (Or.inl ⟨by rfl, ?_⟩) ?_ ?_
          rotate_left
          ·intro w'
           go_simp
           with_reducible rfl
          rotate_left
          ·simp only [Act.put, List.setIfInBounds_toArray, List.set_cons_zero, List.set_cons_succ, i64_w, i32_w]
           rfl
          refine pure_ (i := 17) (N := some 36) (v := ?_) (a' := ?_) #[true, true, true, true, true, true, true, true, true, true, true, true, true, true, true, true, true, true, false, false, false] rfl rfl (any_of HT_.out (by kernel_rfl)) (fun _ _ _ h => h) (Or.inl ⟨by rfl, ?_⟩) ?_ ?_
          rotate_left
          ·intro w'
           go_simp
           with_reducible rfl
          rotate_left
          ·simp only [Act.put, List.setIfInBounds_toArray, List.set_cons_zero, List.set_cons_succ, i64_w, i32_w]
           rfl
          refine pure_ (i := 18) (N := some 37) (v := ?_) (a' := ?_) #[true, true, true, true, true, true, true, true, true, true, true, true, true, true, true, true, true, true, true, false, false] rfl rfl (any_of HT_.out (by kernel_rfl)) (fun _ _ _ h => h) (Or.inl ⟨by rfl, ?_⟩) ?_ ?_
          rotate_left
          ·intro w'
           go_simp
           with_reducible rfl
          rotate_left
          ·simp only [Act.put, List.setIfInBounds_toArray, List.set_cons_zero, List.set_cons_succ, i64_w, i32_w]
           rfl
          refine pure_ (i := 19) (N := some 38) (v := ?_) (a' := ?_) #[true, true, true, true, true, true, true, true, true, true, true, true, true, true, true, true, true, true, true, true, false] rfl rfl (any_of HT_.out (by kernel_rfl)) (fun _ _ _ h => h) (Or.inl ⟨by rfl, ?_⟩) ?_ ?_
          rotate_left
          ·intro w'
           go_simp
           with_reducible rfl
          rotate_left
          ·simp only [Act.put, List.setIfInBounds_toArray, List.set_cons_zero, List.set_cons_succ, i64_w, i32_w]
           rfl
          refine last_ (i := 20) (N := none) #[true, true, true, true, true, true, true, true, true, true, true, true, true, true, true, true, true, true, true, true, true] rfl rfl (one_of HT_.out (by kernel_rfl)) (by decide) (fun K hK => ?_)
          refine skip_ (w1 := ?_) (by rfl) rfl ?_ ?_
          rotate_left
          ·go_simp
           rfl
          refine hK.out _ _ ?_
          clear hK K
          refine done_ (done_of HT_.out (by kernel_rfl)) ?_
          try go_wp2
          go_roundg k1
          case measure => have := HK1.out; omega
          case rel => exact ⟨(y139), (wrap64 (x4_1 + 1)), (by rfl), H', ⟨by have := HK1.out; omega⟩, ⟨by exact Kd.R_mono (Kd.R_far (p := ⟨go15, ((ji8) : Int).toNat, none⟩) (Kd.R_types HO_0.out GG15.out (by decide)) (fun _ hk => hk.2) (.int .u64 (IntKind.u64.wrap ((rd y134 (ji8)) + (ji14))))) (fun _ hk => hk.1)⟩, ⟨by exact HQ20.out⟩, ⟨by repeat ((with_reducible first | exact HK.out | refine Kept.setCell ?_ HMgo15.out _))⟩, ⟨by repeat ((with_reducible first | exact HB.out | refine below_set ?_ GB15.out))⟩⟩
         ·rw [if_neg c13] at H
          exact absurd H (by simp)
        ·rw [if_neg c11] at H
         exact absurd H (by simp)
       ·rw [if_neg c10] at H
        exact absurd H (by simp)
      ·rw [if_neg c9] at H
       exact absurd H (by simp)
     ·rw [if_neg c7] at H
      exact absurd H (by simp)
    ·rw [if_neg c6] at H
     have c6b0 : ((Int.tmod x4_1 4) == 0) = false := beq_eq_false_iff_ne.mpr c6
     have c6b1 : ((Int.tmod x4_1 4) != 0) = true := bne_iff_ne.mpr c6
     obtain ⟨ji21, hji21⟩ : ∃ j_ : Int, (wrap64 (Int.tdiv x4_1 4)) = j_ := ⟨_, rfl⟩
     rw [hji21] at H
     have hji21w : (IntKind.i64.wrap (Int.tdiv x4_1 4)) = ji21 := (i64_w _).trans hji21
     by_cases c22 : 0 ≤ (ji21)
     ·rw [if_pos c22] at H
      have c22b0 : decide (0 ≤ (ji21)) = true := decide_eq_true c22
      clear c22
      by_cases c23 : (ji21) < (x3_1.length : Int)
      ·rw [if_pos c23] at H
       have c23b0 : decide ((ji21) < (x3_1.length : Int)) = true := decide_eq_true c23
       clear c23
       by_cases c24 : 0 ≤ x4_1
       ·rw [if_pos c24] at H
        have c24b0 : decide (0 ≤ x4_1) = true := decide_eq_true c24
        clear c24
        obtain ⟨ji25, hji25⟩ : ∃ j_ : Int, (IntKind.u64.wrap (wrap64 (16 * (Int.tmod x4_1 4)))) = j_ := ⟨_, rfl⟩
        rw [hji25] at H
        by_cases c26 : 0 ≤ (ji25)
        ·rw [if_pos c26] at H
         have c26b0 := eq_true c26
         have c26b1 : decide (0 ≤ (ji25)) = true := decide_eq_true c26
         clear c26
         obtain ⟨ji27, hji27⟩ : ∃ j_ : Int, (shl .u64 (IntKind.u64.wrap (rd t131 x4_1)) (ji25)) = j_ := ⟨_, rfl⟩
         rw [hji27] at H
         have hji27_ : (IntKind.u64.wrap ((IntKind.u64.wrap (rd t131 x4_1)) * 2 ^ min (ji25).toNat 64)) = ji27 := hji27
         have hji27z : (ji25) ≤ 64 → (IntKind.u64.wrap ((IntKind.u64.wrap (rd t131 x4_1)) * 2 ^ (ji25).toNat)) = ji27 := shl_small hji27
         obtain ⟨y142, hy142⟩ : ∃ y_ : List Int, y_ = (x3_1.set ((ji21) : Int).toNat (IntKind.u64.wrap ((rd x3_1 (ji21)) + (ji27)))) := ⟨_, rfl⟩
         rw [← hy142] at H
         have Ny142 := Aside0.mk hy142
         clear hy142
         have H' := Aside0.mk H
         clear H
         obtain ⟨Ao29, co29, eo29⟩ := Kd.R_slice HO_0.out
         subst eo29
         try go_wp2
         have n0_ := Aside0.mk (Kd.R_drew HO_0.out)
         have n1_ := Aside0.mk (Kd.R_drew HO_3.out)
         have n2_ := Aside0.mk (Kept.drew HK.out)
         have n3_ := Aside0.mk (below_drew1 HB.out)
         clear HO_0
         clear HO_3
         clear HK
         clear HB
         have HO_0 := n0_
         have HO_3 := n1_
         have HK := n2_
         have HB := n3_
         clear n0_ n1_ n2_ n3_
         obtain ⟨Ao31, co31, eo31⟩ := Kd.R_slice HO_3.out
         ((subst eo31))
         have p140 : 0 ≤ ((ji21) : Int) := of_decide_eq_true (by (with_reducible assumption))
         have q140 : (ji21) < (x3_1.length : Int) := of_decide_eq_true (by (with_reducible assumption))
         obtain ⟨ad140, e140, hx140_0⟩ := Kd.at_int (Kd.R_reads' HO_3.out).2.2 (ji21) p140 q140
         cases e140
         replace p140 := eq_true p140
         replace q140 := eq_true q140
         have p141 : 0 ≤ (x4_1 : Int) := of_decide_eq_true (by (with_reducible assumption))
         have q141 : x4_1 < (t131.length : Int) := of_decide_eq_true (by (with_reducible assumption))
         obtain ⟨ad141, e141, hx141_0⟩ := Kd.at_int (Kd.R_reads' HO_0.out).2.2 x4_1 p141 q141
         cases e141
         replace p141 := eq_true p141
         replace q141 := eq_true q141
         have p28 : 0 ≤ ((ji21) : Int) := of_decide_eq_true (by (with_reducible assumption))
         have q28 : ((ji21) : Int) < ((x3_1.length : Int) : Int) := of_decide_eq_true (by (with_reducible assumption))
         obtain ⟨go28, co28, eo28, gb28, gl28, cl28, HG28⟩ := Kd.R_form HO_3.out (by omega)
         ((cases eo28))
         have GB28 := Aside0.mk gb28
         have GG28 := Aside0.mk HG28
         clear gb28 gl28 HG28
         have HMgo28 := Aside0.mk (show (P0_ go28 ∨ w.heap.size ≤ go28) from (HO_3.out.1 _ rfl))
         ((simp only [add_plain] at hx140_0))
         obtain ⟨hx28_0, hf28_0⟩ := Kd.R_celln 0 HO_3.out ((ji21) : Int) p28 q28
         replace p28 := eq_true p28
         replace q28 := eq_true q28
         have HP32 := Kd.R_putn HO_3.out ((ji21) : Int) (IntKind.u64.wrap ((rd x3_1 (ji21)) + (ji27)))
         rw [← Ny142.out] at HP32
         have HQ32 := Aside0.mk HP32
         clear HP32
         refine start_ (n := 21) (S := fun w' => w'.cell? ⟨go28, ((ji21)).toNat, none⟩ = some (.int .u64 (rd x3_1 (ji21))) ∧ w'.cell? (ad141.add (x4_1).toNat) = some (.int .i64 (rd t131 x4_1))) (ds := [20]) #[false, false, false, false, false, false, false, false, false, false, false, false, false, false, false, false, false, false, false, false, false] (by kernel_rfl) rfl rfl ⟨hx140_0, hx141_0⟩ (fun hHeld => ?_); refine with_tabW clepsydraref03_Number.tab8 clepsydraref03_Number.bits8 (fun HT_ HW_ => ?_)
         generalize wr.drew = w30 at HO_0 HO_3 HK HB GG28 HQ32 hf28_0 hx140_0 hx141_0 hx28_0 hHeld ⊢
         refine pure_ (i := 0) (N := some 19) (v := ?_) (a' := ?_) #[true, false, false, false, false, false, false, false, false, false, false, false, false, false, false, false, false, false, false, false, false] rfl rfl (any_of HT_.out (by kernel_rfl)) (fun _ _ _ h => h) (Or.inl ⟨by rfl, ?_⟩) ?_ ?_
         rotate_left
         ·intro w'
          go_simp
          with_reducible rfl
         rotate_left
         ·simp only [Act.put, List.setIfInBounds_toArray, List.set_cons_zero, List.set_cons_succ, i64_w, i32_w]
          rfl
         refine pure_ (i := 1) (N := some 20) (v := ?_) (a' := ?_) #[true, true, false, false, false, false, false, false, false, false, false, false, false, false, false, false, false, false, false, false, false] rfl rfl (any_of HT_.out (by kernel_rfl)) (fun _ _ _ h => h) (Or.inl ⟨by rfl, ?_⟩) ?_ ?_
         rotate_left
         ·intro w'
          go_simp
          with_reducible rfl
         rotate_left
         ·simp only [Act.put, List.setIfInBounds_toArray, List.set_cons_zero, List.set_cons_succ, i64_w, i32_w]
          rfl
         refine pure_ (i := 2) (N := some 21) (v := ?_) (a' := ?_) #[true, true, true, false, false, false, false, false, false, false, false, false, false, false, false, false, false, false, false, false, false] rfl rfl (any_of HT_.out (by kernel_rfl)) (fun _ _ _ h => h) (Or.inl ⟨by rfl, ?_⟩) ?_ ?_
         rotate_left
         ·intro w'
          go_simp
          with_reducible rfl
         rotate_left
         ·simp only [Act.put, List.setIfInBounds_toArray, List.set_cons_zero, List.set_cons_succ, i64_w, i32_w]
          rfl
         refine pure_ (i := 3) (N := some 22) (v := ?_) (a' := ?_) #[true, true, true, true, false, false, false, false, false, false, false, false, false, false, false, false, false, false, false, false, false] rfl rfl (any_of HT_.out (by kernel_rfl)) (fun _ _ _ h => h) (Or.inl ⟨by rfl, ?_⟩) ?_ ?_
         rotate_left
         ·intro w'
          go_simp
          with_reducible rfl
         rotate_left
         ·simp only [Act.put, List.setIfInBounds_toArray, List.set_cons_zero, List.set_cons_succ, i64_w, i32_w]
          rfl
         refine pure_ (i := 4) (N := some 23) (v := ?_) (a' := ?_) #[true, true, true, true, true, false, false, false, false, false, false, false, false, false, false, false, false, false, false, false, false] rfl rfl (any_of HT_.out (by kernel_rfl)) (fun _ _ _ h => h) (Or.inl ⟨by rfl, ?_⟩) ?_ ?_
         rotate_left
         ·intro w'
          go_simp
          with_reducible rfl
         rotate_left
         ·simp only [Act.put, List.setIfInBounds_toArray, List.set_cons_zero, List.set_cons_succ, i64_w, i32_w]
          rfl
         refine pure_ (i := 5) (N := some 24) (v := ?_) (a' := ?_) #[true, true, true, true, true, true, false, false, false, false, false, false, false, false, false, false, false, false, false, false, false] rfl rfl (any_of HT_.out (by kernel_rfl)) (fun _ _ _ h => h) (Or.inl ⟨by rfl, ?_⟩) ?_ ?_
         rotate_left
         ·intro w'
          go_simp
          with_reducible rfl
         rotate_left
         ·simp only [Act.put, List.setIfInBounds_toArray, List.set_cons_zero, List.set_cons_succ, i64_w, i32_w]
          rfl
         refine pure_ (i := 6) (N := some 25) (v := ?_) (a' := ?_) #[true, true, true, true, true, true, true, false, false, false, false, false, false, false, false, false, false, false, false, false, false] rfl rfl (any_of HT_.out (by kernel_rfl)) (fun _ _ _ h => h) (Or.inl ⟨by rfl, ?_⟩) ?_ ?_
         rotate_left
         ·intro w'
          go_simp
          with_reducible rfl
         rotate_left
         ·simp only [Act.put, List.setIfInBounds_toArray, List.set_cons_zero, List.set_cons_succ, i64_w, i32_w]
          rfl
         refine pure_ (i := 8) (N := some 27) (v := ?_) (a' := ?_) #[true, true, true, true, true, true, true, false, true, false, false, false, false, false, false, false, false, false, false, false, false] rfl rfl (any_of HT_.out (by kernel_rfl)) (fun _ _ _ h => h) (Or.inl ⟨by rfl, ?_⟩) ?_ ?_
         rotate_left
         ·intro w'
          go_simp
          with_reducible rfl
         rotate_left
         ·simp only [Act.put, List.setIfInBounds_toArray, List.set_cons_zero, List.set_cons_succ, i64_w, i32_w]
          rfl
         refine pure_ (i := 9) (N := some 28) (v := ?_) (a' := ?_) #[true, true, true, true, true, true, true, false, true, true, false, false, false, false, false, false, false, false, false, false, false] rfl rfl (any_of HT_.out (by kernel_rfl)) (fun _ _ _ h => h) (Or.inl ⟨by rfl, ?_⟩) ?_ ?_
         rotate_left
         ·intro w'
          go_simp
          with_reducible rfl
         rotate_left
         ·simp only [Act.put, List.setIfInBounds_toArray, List.set_cons_zero, List.set_cons_succ, i64_w, i32_w]
          rfl
         refine pure_ (i := 10) (N := some 29) (v := ?_) (a' := ?_) #[true, true, true, true, true, true, true, false, true, true, true, false, false, false, false, false, false, false, false, false, false] rfl rfl (any_of HT_.out (by kernel_rfl)) (fun _ _ _ h => h) (Or.inl ⟨by rfl, ?_⟩) ?_ ?_
         rotate_left
         ·intro w'
          go_simp
          with_reducible rfl
         rotate_left
         ·simp only [Act.put, List.setIfInBounds_toArray, List.set_cons_zero, List.set_cons_succ, i64_w, i32_w]
          rfl
         refine pure_ (i := 13) (N := some 32) (v := ?_) (a' := ?_) #[true, true, true, true, true, true, true, false, true, true, true, false, false, true, false, false, false, false, false, false, false] rfl rfl (any_of HT_.out (by kernel_rfl)) (fun _ _ _ h => h) (Or.inl ⟨by rfl, ?_⟩) ?_ ?_
         rotate_left
         ·intro w'
          go_simp
          with_reducible rfl
         rotate_left
         ·simp only [Act.put, List.setIfInBounds_toArray, List.set_cons_zero, List.set_cons_succ, i64_w, i32_w]
          rfl
         refine pure_ (i := 14) (N := some 33) (v := ?_) (a' := ?_) #[true, true, true, true, true, true, true, false, true, true, true, false, false, true, true, false, false, false, false, false, false] rfl rfl (any_of HT_.out (by kernel_rfl)) (fun _ _ _ h => h) (Or.inl ⟨by rfl, ?_⟩) ?_ ?_
         rotate_left
         ·intro w'
          go_simp
          with_reducible rfl
         rotate_left
         ·simp only [Act.put, List.setIfInBounds_toArray, List.set_cons_zero, List.set_cons_succ, i64_w, i32_w]
          rfl
         refine pure_ (i := 15) (N := some 34) (v := ?_) (a' := ?_) #[true, true, true, true, true, true, true, false, true, true, true, false, false, true, true, true, false, false, false, false, false] rfl rfl (any_of HT_.out (by kernel_rfl)) (fun _ _ _ h => h) (Or.inl ⟨by rfl, ?_⟩) ?_ ?_
         rotate_left
         ·intro w'
          go_simp
          with_reducible rfl
         rotate_left
         ·simp only [Act.put, List.setIfInBounds_toArray, List.set_cons_zero, List.set_cons_succ, i64_w, i32_w]
          rfl
         refine pure_ (i := 16) (N := some 35) (v := ?_) (a' := ?_) #[true, true, true, true, true, true, true, false, true, true, true, false, false, true, true, true, true, false, false, false, false] rfl rfl (any_of HT_.out (by kernel_rfl)) (fun _ _ _ h => h) (Or.inl ⟨by rfl, ?_⟩) ?_ ?_
         rotate_left
         ·intro w'
          go_simp
          with_reducible rfl
         rotate_left
         ·simp only [Act.put, List.setIfInBounds_toArray, List.set_cons_zero, List.set_cons_succ, i64_w, i32_w]
          rfl
         refine take_ (i := 7) (N := some 26) (v := ?_) (a' := ?_) #[true, true, true, true, true, true, true, true, true, true, true, false, false, true, true, true, true, false, false, false, false] rfl rfl (take_ofW HT_.out HW_.out (by kernel_rfl)) (fun _ _ _ h => h) (Or.inl ⟨by rfl, ?_⟩) hHeld ?_ ?_
         rotate_left
         ·rintro w' ⟨s0, s1⟩
          go_simp
          with_reducible rfl
         rotate_left
         ·simp only [Act.put, List.setIfInBounds_toArray, List.set_cons_zero, List.set_cons_succ, i64_w, i32_w]
          rfl
         refine take_ (i := 11) (N := some 30) (v := ?_) (a' := ?_) #[true, true, true, true, true, true, true, true, true, true, true, true, false, true, true, true, true, false, false, false, false] rfl rfl (take_ofW HT_.out HW_.out (by kernel_rfl)) (fun _ _ _ h => h) (Or.inl ⟨by rfl, ?_⟩) hHeld ?_ ?_
         rotate_left
         ·rintro w' ⟨s0, s1⟩
          go_simp
          with_reducible rfl
         rotate_left
         ·simp only [Act.put, List.setIfInBounds_toArray, List.set_cons_zero, List.set_cons_succ, i64_w, i32_w]
          rfl
         refine pure_ (i := 12) (N := some 31) (v := ?_) (a' := ?_) #[true, true, true, true, true, true, true, true, true, true, true, true, true, true, true, true, true, false, false, false, false] rfl rfl (any_of HT_.out (by kernel_rfl)) (fun _ _ _ h => h) (Or.inl ⟨by rfl, ?_⟩) ?_ ?_
         rotate_left
         ·intro w'
          go_simp
          with_reducible rfl
         rotate_left
         ·simp only [Act.put, List.setIfInBounds_toArray, List.set_cons_zero, List.set_cons_succ, i64_w, i32_w]
          rfl
         refine pure_ (i := 17) (N := some 36) (v := ?_) (a' := ?_) #[true, true, true, true, true, true, true, true, true, true, true, true, true, true, true, true, true, true, false, false, false] rfl rfl (any_of HT_.out (by kernel_rfl)) (fun _ _ _ h => h) (Or.inl ⟨by rfl, ?_⟩) ?_ ?_
         rotate_left
         ·intro w'
          go_simp
          with_reducible rfl
         rotate_left
         ·simp only [Act.put, List.setIfInBounds_toArray, List.set_cons_zero, List.set_cons_succ, i64_w, i32_w]
          rfl
         refine pure_ (i := 18) (N := some 37) (v := ?_) (a' := ?_) #[true, true, true, true, true, true, true, true, true, true, true, true, true, true, true, true, true, true, true, false, false] rfl rfl (any_of HT_.out (by kernel_rfl)) (fun _ _ _ h => h) (Or.inl ⟨by rfl, ?_⟩) ?_ ?_
         rotate_left
         ·intro w'
          go_simp
          with_reducible rfl
         rotate_left
         ·simp only [Act.put, List.setIfInBounds_toArray, List.set_cons_zero, List.set_cons_succ, i64_w, i32_w]
          rfl
         refine pure_ (i := 19) (N := some 38) (v := ?_) (a' := ?_) #[true, true, true, true, true, true, true, true, true, true, true, true, true, true, true, true, true, true, true, true, false] rfl rfl (any_of HT_.out (by kernel_rfl)) (fun _ _ _ h => h) (Or.inl ⟨by rfl, ?_⟩) ?_ ?_
         rotate_left
         ·intro w'
          go_simp
          with_reducible rfl
         rotate_left
         ·simp only [Act.put, List.setIfInBounds_toArray, List.set_cons_zero, List.set_cons_succ, i64_w, i32_w]
          rfl
         refine last_ (i := 20) (N := none) #[true, true, true, true, true, true, true, true, true, true, true, true, true, true, true, true, true, true, true, true, true] rfl rfl (one_of HT_.out (by kernel_rfl)) (by decide) (fun K hK => ?_)
         refine skip_ (w1 := ?_) (by rfl) rfl ?_ ?_
         rotate_left
         ·go_simp
          rfl
         refine hK.out _ _ ?_
         clear hK K
         refine done_ (done_of HT_.out (by kernel_rfl)) ?_
         try go_wp2
         go_roundg k1
         case measure => have := HK1.out; omega
         case rel => exact ⟨(y142), (wrap64 (x4_1 + 1)), (by rfl), H', ⟨by have := HK1.out; omega⟩, ⟨by exact Kd.R_mono (Kd.R_far (p := ⟨go28, ((ji21) : Int).toNat, none⟩) (Kd.R_types HO_0.out GG28.out (by decide)) (fun _ hk => hk.2) (.int .u64 (IntKind.u64.wrap ((rd x3_1 (ji21)) + (ji27))))) (fun _ hk => hk.1)⟩, ⟨by exact HQ32.out⟩, ⟨by repeat ((with_reducible first | exact HK.out | refine Kept.setCell ?_ HMgo28.out _))⟩, ⟨by repeat ((with_reducible first | exact HB.out | refine below_set ?_ GB28.out))⟩⟩
        ·rw [if_neg c26] at H
         exact absurd H (by simp)
       ·rw [if_neg c24] at H
        exact absurd H (by simp)
      ·rw [if_neg c23] at H
       exact absurd H (by simp)
     ·rw [if_neg c22] at H
      exact absurd H (by simp)
   ·rw [if_neg c5] at H
    have c5b0 : decide (x4_1 < (t131.length : Int)) = false := decide_eq_false c5
    clear c5
    obtain rfl := Option.some.inj H
    simp only [Option.some.injEq, Prod.mk.injEq] at H
    obtain ⟨rfl⟩ := H
    obtain ⟨Ao33, co33, eo33⟩ := Kd.R_slice HO_0.out
    subst eo33
    go_wp2
    go_ret
    exact ⟨_, by rfl, by exact HO_3.out, HB.out, HK.out⟩
end Go.Proofs.YtdmglajfmfjmlaaGreat.Cr
namespace Go.Proofs.YtdmglajfmfjmlaaGreat.Cr
open Go.RowKit Go.Proofs.YtdmglajfmfjmlaaGreatW.PrintWords Go.Proofs.YtdmglajfmfjmlaaGreatW.PrintLast Go.Proofs.YtdmglajfmfjmlaaGreatW.PrintMore
attribute [local go_sem] max2_int min2_int max_two min_two max_three min_three max_four min_four   -- for this text's walks alone
set_option linter.unusedVariables false
set_option linter.unusedSimpArgs false
def clepsydraref03_cmp.f (l0 : List Int) (l1 : List Int) : Option (Int) := if okD 1048576 l0 ∧ okD 1048576 l1 then some (cmpN (dI l0) (dI l1)) else none
theorem clepsydraref03_cmp.calls (A0 : Option Addr) (c0 : Nat) (l0 : List Int) (A1 : Option Addr) (c1 : Nat) (l1 : List Int) (r : Int) (w : World) (hr0 : Kd.C (Kd.int .i64) w A0 l0.length l0) (hc0 : l0.length ≤ c0) (hr1 : Kd.C (Kd.int .i64) w A1 l1.length l1) (hc1 : l1.length ≤ c1) (h : clepsydraref03_cmp.f l0 l1 = some r) :
  Calls Tryz.prog 136 #[.slice A0 l0.length c0, .slice A1 l1.length c1] w fun e w' => e = .returned (.int .i64 r) ∧ Drawn0 w w' := by
 exact cmp3_giv hr0 hc0 hr1 hc1 h
def clepsydraref03_at.f (l0 : List Int) (a1 : Int) : Option (Int) := if a1 ≥ (l0.length : Int) then (some 0) else (if 0 ≤ a1 then (if a1 < (l0.length : Int) then (some (rd l0 a1)) else (none)) else (none))
set_option maxHeartbeats 8000000 in
set_option maxRecDepth 100000 in
theorem clepsydraref03_at.calls (A0 : Option Addr) (c0 : Nat) (l0 : List Int) (a1 : Int) (r : Int) (w : World) (hr0 : Kd.C (Kd.int .i64) w A0 l0.length l0) (hc0 : l0.length ≤ c0) (h : clepsydraref03_at.f l0 a1 = some r) :
  Calls Tryz.prog 178 #[.slice A0 l0.length c0, .int .i64 a1] w fun e w' => e = .returned (.int .i64 r) ∧ Drawn0 w w' := by
 have HR0 := Aside0.mk hr0
 have HC0 := Aside0.mk hc0
 clear hr0 hc0
 have H : (if a1 ≥ (l0.length : Int) then (some 0) else (if 0 ≤ a1 then (if a1 < (l0.length : Int) then (some (rd l0 a1)) else (none)) else (none))) = some r := h
 clear h
 by_cases c3 : a1 ≥ (l0.length : Int)
 ·rw [if_pos c3] at H
  have c3b0 : decide ((l0.length : Int) ≤ a1) = true := decide_eq_true c3
  clear c3
  obtain rfl := Option.some.inj H
  simp only [Option.some.injEq, Prod.mk.injEq] at H
  obtain ⟨rfl⟩ := H
  go_enter Tryz.func178, Tryz.ntmps178
  go_wp2
  go_ret
  exact ⟨by rfl, by repeat ((exact Drawn0.refl _))⟩
 ·rw [if_neg c3] at H
  have c3b0 : decide ((l0.length : Int) ≤ a1) = false := decide_eq_false c3
  clear c3
  by_cases c4 : 0 ≤ a1
  ·rw [if_pos c4] at H
   have c4b0 : decide (0 ≤ a1) = true := decide_eq_true c4
   clear c4
   by_cases c5 : a1 < (l0.length : Int)
   ·rw [if_pos c5] at H
    have c5b0 : decide (a1 < (l0.length : Int)) = true := decide_eq_true c5
    clear c5
    obtain rfl := Option.some.inj H
    simp only [Option.some.injEq, Prod.mk.injEq] at H
    obtain ⟨rfl⟩ := H
    have p221 : 0 ≤ (a1 : Int) := of_decide_eq_true (by (with_reducible assumption))
    have q221 : a1 < (l0.length : Int) := of_decide_eq_true (by (with_reducible assumption))
    obtain ⟨ad221, e221, hx221_0⟩ := Kd.at_int HR0.out a1 p221 q221
    cases e221
    replace p221 := eq_true p221
    replace q221 := eq_true q221
    go_enter Tryz.func178, Tryz.ntmps178
    go_wp2
    go_ret
    exact ⟨by rfl, by repeat ((exact Drawn0.refl _))⟩
   ·rw [if_neg c5] at H
    exact absurd H (by simp)
  ·rw [if_neg c4] at H
   exact absurd H (by simp)
def clepsydraref03_minus.l0 : Nat → List Int → List Int → List Int → Int → Int → Option (List Int)
 | 0, _, _, _, _, _ => none
 | k + 1, x0, x1, x5, x6, x7 => if x7 < (x0.length : Int) then (if 0 ≤ x7 then ((clepsydraref03_at.f x1 x7).bind fun t223 => (if (wrap64 ((wrap64 ((rd x0 x7) - t223)) - x6)) < 0 then (if x5.length < 17592186044416 then (clepsydraref03_minus.l0 k x0 x1 (x5 ++ [wrap64 ((wrap64 ((wrap64 ((rd x0 x7) - t223)) - x6)) + 65536)]) 1 (wrap64 (x7 + 1))) else (none)) else (if x5.length < 17592186044416 then (clepsydraref03_minus.l0 k x0 x1 (x5 ++ [wrap64 ((wrap64 ((rd x0 x7) - t223)) - x6)]) 0 (wrap64 (x7 + 1))) else (none)))) else (none)) else ((clepsydraref03_cut.f k x5).bind fun t230 => (some t230))
def clepsydraref03_minus.f (k : Nat) (l0 : List Int) (l1 : List Int) : Option (List Int) := clepsydraref03_minus.l0 k l0 l1 ([] : List Int) 0 0
set_option maxHeartbeats 8000000 in
set_option maxRecDepth 100000 in
theorem clepsydraref03_minus.calls (k : Nat) (A0 : Option Addr) (c0 : Nat) (l0 : List Int) (A1 : Option Addr) (c1 : Nat) (l1 : List Int) (r : List Int) (w : World) (hr0 : Kd.C (Kd.int .i64) w A0 l0.length l0) (hc0 : l0.length ≤ c0) (hr1 : Kd.C (Kd.int .i64) w A1 l1.length l1) (hc1 : l1.length ≤ c1) (h : clepsydraref03_minus.f k l0 l1 = some r) :
  Calls Tryz.prog 140 #[.slice A0 l0.length c0, .slice A1 l1.length c1] w fun e w' => ∃ v0_ : Value, e = .returned (v0_) ∧ Kd.R (Kd.int .i64) 3 w' w.heap.size (fun _ => True) v0_ r ∧ Below w.heap.size w w' := by
 have HR0 := Aside0.mk hr0
 have HC0 := Aside0.mk hc0
 clear hr0 hc0
 have HR1 := Aside0.mk hr1
 have HC1 := Aside0.mk hc1
 clear hr1 hc1
 have HB := Aside0.mk (Below.refl w.heap.size w)
 have H : (clepsydraref03_minus.l0 k l0 l1 ([] : List Int) 0 0) = some r := h
 clear h
 have H' := Aside0.mk H
 clear H
 go_enter Tryz.func140, Tryz.ntmps140
 go_wp2
 repeat (go_quiet (fail); try go_wp2)
 go_loopg [5, 6, 7] k (fun kq v5 v6 v7 w' => ∃ (x5_1 : List Int) (x6_1 : Int) (x7_1 : Int), v6 = .int .i64 x6_1 ∧ v7 = .int .i64 x7_1 ∧ Aside0 (clepsydraref03_minus.l0 kq l0 l1 x5_1 x6_1 x7_1 = some r) ∧ Aside0 (kq ≤ k) ∧ Aside0 (Kd.R (Kd.int .i64) 3 w' w.heap.size (fun _ => True) v5 x5_1) ∧ Aside0 (Below w.heap.size w w'))
 case atStart => exact ⟨(([] : List Int)), (0), (0), (by rfl), (by rfl), H', ⟨Nat.le_refl _⟩, ⟨by (exact Kd.R_nil _ _ _ _ _)⟩, ⟨HB.out⟩⟩
 case round =>
  clear H'
  try clear c1
  try clear p2
  obtain ⟨x5_1, x6_1, x7_1, rfl, rfl, HA, HK1, HO_5, HB⟩ := hrel
  cases gk with
  | zero => exact absurd HA.out (by simp [clepsydraref03_minus.l0])
  | succ k1 =>
   have H := HA.out
   clear HA
   simp only [clepsydraref03_minus.l0] at H
   by_cases c3 : x7_1 < (l0.length : Int)
   ·rw [if_pos c3] at H
    have c3b0 : decide (x7_1 < (l0.length : Int)) = true := decide_eq_true c3
    clear c3
    by_cases c4 : 0 ≤ x7_1
    ·rw [if_pos c4] at H
     have c4b0 : decide (0 ≤ x7_1) = true := decide_eq_true c4
     clear c4
     replace H := Option.bind_eq_some_iff.mp H
     obtain ⟨t223, A50, H⟩ := H
     try dsimp only at H
     have A5 := Aside0.mk A50
     clear A50
     by_cases c6 : (wrap64 ((wrap64 ((rd l0 x7_1) - t223)) - x6_1)) < 0
     ·rw [if_pos c6] at H
      have c6b0 : decide ((wrap64 ((wrap64 ((rd l0 x7_1) - t223)) - x6_1)) < 0) = true := decide_eq_true c6
      clear c6
      by_cases c7 : x5_1.length < 17592186044416
      ·rw [if_pos c7] at H
       have LMc7 := Aside0.mk c7
       clear c7
       obtain ⟨y224, hy224⟩ : ∃ y_ : List Int, y_ = (x5_1 ++ [wrap64 ((wrap64 ((wrap64 ((rd l0 x7_1) - t223)) - x6_1)) + 65536)]) := ⟨_, rfl⟩
       rw [← hy224] at H
       have Ny224 := Aside0.mk hy224
       clear hy224
       have H' := Aside0.mk H
       clear H
       have p222 : 0 ≤ (x7_1 : Int) := of_decide_eq_true (by (with_reducible assumption))
       have q222 : x7_1 < (l0.length : Int) := of_decide_eq_true (by (with_reducible assumption))
       obtain ⟨ad222, e222, hx222_0⟩ := Kd.at_int HR0.out x7_1 p222 q222
       cases e222
       replace hx222_0 := (HB.out.cell (World.block_lt_of_cell? w _ hx222_0)).trans hx222_0
       replace p222 := eq_true p222
       replace q222 := eq_true q222
       go_wp2_with (fail)
       repeat (go_quiet (((go_at_call 178; (with_reducible refine (clepsydraref03_at.calls _ _ l1 x7_1 t223 _ ?side1 ?side2 A5.out).mono ?_); (case side1 => repeat (first | exact (Kd.C_below HR1.out HB.out) | (with_reducible refine Kd.C_drewN ?_ _))); (case side2 => exact HC1.out); rintro e w' ⟨rfl, ⟨nd, rfl⟩⟩; (try (exact ⟨rfl, _, World.drewN_drewN _ _ _⟩))))); try go_wp2_with ((((with_reducible refine gate_builtin (b := .append) (xs := #[.tmp 29, .tmp 31]) rfl ?_); at_builtin; refine Kd.R_append (Kd.int .i64) (w0 := w) w.heap.size rfl (.tmp 29) (.tmp 31) 120 3 (.int .i64 0) 8 rfl Tryz.underlying120 info3 rfl (by decide) (by omega) u5 x5_1 (wrap64 ((wrap64 ((wrap64 ((rd l0 x7_1) - t223)) - x6_1)) + 65536)) [.int .i64 (wrap64 ((wrap64 ((wrap64 ((rd l0 x7_1) - t223)) - x6_1)) + 65536))] (fun _ => True) (fun _ => False) rfl rfl ?aP (fun _ hk => hk.elim) ?aF ?aO ?aB ?aS ?aL ?_; (case aP => exact rfl); (case aB => exact (by repeat ((with_reducible first | exact HB.out | apply pw_below_drewN)))); (case aF => exact (fun _ _ => trivial)); (case aO => exact (by (with_reducible repeat ((apply Kd.R_drewN))); exact HO_5.out)); (case aS => exact (below_size (by repeat ((with_reducible first | exact HB.out | apply pw_below_drewN))))); (case aL => have := LMc7.out; omega); intro v225 w8 ho hb hg hat; rw [← Ny224.out] at ho; replace HB := Aside0.mk (hb); have HO226 := Aside0.mk (ho); clear HO_5; clear ho hb hg hat))))
       go_roundg k1
       case measure => have := HK1.out; omega
       case rel => exact ⟨(y224), (1), (wrap64 (x7_1 + 1)), (by rfl), (by rfl), H', ⟨by have := HK1.out; omega⟩, ⟨by exact HO226.out⟩, ⟨HB.out⟩⟩
      ·rw [if_neg c7] at H
       exact absurd H (by simp)
     ·rw [if_neg c6] at H
      have c6b0 : decide ((wrap64 ((wrap64 ((rd l0 x7_1) - t223)) - x6_1)) < 0) = false := decide_eq_false c6
      clear c6
      by_cases c9 : x5_1.length < 17592186044416
      ·rw [if_pos c9] at H
       have LMc9 := Aside0.mk c9
       clear c9
       obtain ⟨y227, hy227⟩ : ∃ y_ : List Int, y_ = (x5_1 ++ [wrap64 ((wrap64 ((rd l0 x7_1) - t223)) - x6_1)]) := ⟨_, rfl⟩
       rw [← hy227] at H
       have Ny227 := Aside0.mk hy227
       clear hy227
       have H' := Aside0.mk H
       clear H
       have p222 : 0 ≤ (x7_1 : Int) := of_decide_eq_true (by (with_reducible assumption))
       have q222 : x7_1 < (l0.length : Int) := of_decide_eq_true (by (with_reducible assumption))
       obtain ⟨ad222, e222, hx222_0⟩ := Kd.at_int HR0.out x7_1 p222 q222
       cases e222
       replace hx222_0 := (HB.out.cell (World.block_lt_of_cell? w _ hx222_0)).trans hx222_0
       replace p222 := eq_true p222
       replace q222 := eq_true q222
       go_wp2_with (fail)
       repeat (go_quiet (((go_at_call 178; (with_reducible refine (clepsydraref03_at.calls _ _ l1 x7_1 t223 _ ?side1 ?side2 A5.out).mono ?_); (case side1 => repeat (first | exact (Kd.C_below HR1.out HB.out) | (with_reducible refine Kd.C_drewN ?_ _))); (case side2 => exact HC1.out); rintro e w' ⟨rfl, ⟨nd, rfl⟩⟩; (try (exact ⟨rfl, _, World.drewN_drewN _ _ _⟩))))); try go_wp2_with ((((with_reducible refine gate_builtin (b := .append) (xs := #[.tmp 29, .tmp 31]) rfl ?_); at_builtin; refine Kd.R_append (Kd.int .i64) (w0 := w) w.heap.size rfl (.tmp 29) (.tmp 31) 120 3 (.int .i64 0) 8 rfl Tryz.underlying120 info3 rfl (by decide) (by omega) u5 x5_1 (wrap64 ((wrap64 ((rd l0 x7_1) - t223)) - x6_1)) [.int .i64 (wrap64 ((wrap64 ((rd l0 x7_1) - t223)) - x6_1))] (fun _ => True) (fun _ => False) rfl rfl ?aP (fun _ hk => hk.elim) ?aF ?aO ?aB ?aS ?aL ?_; (case aP => exact rfl); (case aB => exact (by repeat ((with_reducible first | exact HB.out | apply pw_below_drewN)))); (case aF => exact (fun _ _ => trivial)); (case aO => exact (by (with_reducible repeat ((apply Kd.R_drewN))); exact HO_5.out)); (case aS => exact (below_size (by repeat ((with_reducible first | exact HB.out | apply pw_below_drewN))))); (case aL => have := LMc9.out; omega); intro v228 w10 ho hb hg hat; rw [← Ny227.out] at ho; replace HB := Aside0.mk (hb); have HO229 := Aside0.mk (ho); clear HO_5; clear ho hb hg hat))))
       go_roundg k1
       case measure => have := HK1.out; omega
       case rel => exact ⟨(y227), (0), (wrap64 (x7_1 + 1)), (by rfl), (by rfl), H', ⟨by have := HK1.out; omega⟩, ⟨by exact HO229.out⟩, ⟨HB.out⟩⟩
      ·rw [if_neg c9] at H
       exact absurd H (by simp)
    ·rw [if_neg c4] at H
     exact absurd H (by simp)
   ·rw [if_neg c3] at H
    have c3b0 : decide (x7_1 < (l0.length : Int)) = false := decide_eq_false c3
    clear c3
    replace H := Option.bind_eq_some_iff.mp H
    obtain ⟨t230, A110, H⟩ := H
    try dsimp only at H
    have A11 := Aside0.mk A110
    clear A110
    obtain rfl := Option.some.inj H
    simp only [Option.some.injEq, Prod.mk.injEq] at H
    obtain ⟨rfl⟩ := H
    obtain ⟨Ao12, co12, eo12⟩ := Kd.R_slice HO_5.out
    subst eo12
    go_wp2_with (((go_at_call 179; (with_reducible refine (clepsydraref03_cut.calls k1 (fun k_ => some k_ = (.slice Ao12 x5_1.length co12 : Value).ownBlock) (.slice Ao12 x5_1.length co12) x5_1 t230 w _ ?side1 ?side2 A11.out).mono ?_); (case side1 => exact HB.out); (case side2 => exact Kd.R_tight rfl HO_5.out); rintro e w13 ⟨v231, rfl, ho0, hb, hkp⟩; have HO232 := Aside0.mk (Kd.R_mono (ok' := fun k_ => True) ho0 (fun k_ hk_ => trivial)); replace HB := Aside0.mk (hb); clear HO_5; clear hb hkp ho0)))
    repeat (go_quiet (fail); try go_wp2_with (fail))
    go_ret
    exact ⟨_, by rfl, by exact HO232.out, HB.out⟩
mutual
def clepsydraref03_plus.l0 : Nat → List Int → List Int → List Int → Int → Int → Option (List Int)
 | 0, _, _, _, _, _ => none
 | k + 1, x0, x1, x5, x6, x7 => if x7 < (x0.length : Int) then (clepsydraref03_plus.j1 k x0 x1 x5 x6 x7 true) else (if x7 < (x1.length : Int) then (clepsydraref03_plus.j1 k x0 x1 x5 x6 x7 true) else (clepsydraref03_plus.j1 k x0 x1 x5 x6 x7 (decide (x6 > 0))))
def clepsydraref03_plus.j1 : Nat → List Int → List Int → List Int → Int → Int → Bool → Option (List Int)
 | 0, _, _, _, _, _, _ => none
 | k + 1, x0, x1, x5, x6, x7, x22 => if x22 = true then ((clepsydraref03_at.f x0 x7).bind fun t233 => ((clepsydraref03_at.f x1 x7).bind fun t234 => (if x5.length < 17592186044416 then (clepsydraref03_plus.l0 k x0 x1 (x5 ++ [Go.bits .and .i64 (wrap64 ((wrap64 (t233 + t234)) + x6)) 65535]) ((wrap64 ((wrap64 (t233 + t234)) + x6)) / 65536) (wrap64 (x7 + 1))) else (none)))) else (some x5)
end
def clepsydraref03_plus.f (k : Nat) (l0 : List Int) (l1 : List Int) : Option (List Int) := clepsydraref03_plus.l0 k l0 l1 ([] : List Int) 0 0
set_option maxHeartbeats 8000000 in
set_option maxRecDepth 100000 in
theorem clepsydraref03_plus.calls (k : Nat) (A0 : Option Addr) (c0 : Nat) (l0 : List Int) (A1 : Option Addr) (c1 : Nat) (l1 : List Int) (r : List Int) (w : World) (hr0 : Kd.C (Kd.int .i64) w A0 l0.length l0) (hc0 : l0.length ≤ c0) (hr1 : Kd.C (Kd.int .i64) w A1 l1.length l1) (hc1 : l1.length ≤ c1) (h : clepsydraref03_plus.f k l0 l1 = some r) :
  Calls Tryz.prog 141 #[.slice A0 l0.length c0, .slice A1 l1.length c1] w fun e w' => ∃ v0_ : Value, e = .returned (v0_) ∧ Kd.R (Kd.int .i64) 3 w' w.heap.size (fun _ => True) v0_ r ∧ Below w.heap.size w w' := by
 have HR0 := Aside0.mk hr0
 have HC0 := Aside0.mk hc0
 clear hr0 hc0
 have HR1 := Aside0.mk hr1
 have HC1 := Aside0.mk hc1
 clear hr1 hc1
 have HB := Aside0.mk (Below.refl w.heap.size w)
 have H : (clepsydraref03_plus.l0 k l0 l1 ([] : List Int) 0 0) = some r := h
 clear h
 have H' := Aside0.mk H
 clear H
 go_enter Tryz.func141, Tryz.ntmps141
 go_wp2
 go_loopg [5, 6, 7] k (fun kq v5 v6 v7 w' => ∃ (x5_1 : List Int) (x6_1 : Int) (x7_1 : Int), v6 = .int .i64 x6_1 ∧ v7 = .int .i64 x7_1 ∧ Aside0 (clepsydraref03_plus.l0 kq l0 l1 x5_1 x6_1 x7_1 = some r) ∧ Aside0 (kq ≤ k) ∧ Aside0 (Kd.R (Kd.int .i64) 3 w' w.heap.size (fun _ => True) v5 x5_1) ∧ Aside0 (Below w.heap.size w w'))
 case atStart => exact ⟨(([] : List Int)), (0), (0), (by rfl), (by rfl), H', ⟨Nat.le_refl _⟩, ⟨by (exact Kd.R_nil _ _ _ _ _)⟩, ⟨HB.out⟩⟩
 case round =>
  clear H'
  try clear c1
  try clear p2
  obtain ⟨x5_1, x6_1, x7_1, rfl, rfl, HA, HK1, HO_5, HB⟩ := hrel
  cases gk with
  | zero => exact absurd HA.out (by simp [clepsydraref03_plus.l0])
  | succ k1 =>
   have H := HA.out
   clear HA
   simp only [clepsydraref03_plus.l0] at H
   have HC3 := Aside0.mk H
   clear H
   go_upto_region 4 with (fail)
   go_cut [22] (fun v22 wc => ∃ (kq : Nat) (x22_2 : Bool), v22 = .bool x22_2 ∧ Aside0 (clepsydraref03_plus.j1 kq l0 l1 x5_1 x6_1 x7_1 x22_2 = some r) ∧ Aside0 (kq ≤ k1) ∧ Aside0 (Kd.R (Kd.int .i64) 3 wc w.heap.size (fun _ => True) u5 x5_1) ∧ Aside0 (Below w.heap.size w wc))
   case first =>
    have H := HC3.out
    clear HC3
    by_cases c4 : x7_1 < (l0.length : Int)
    ·rw [if_pos c4] at H
     have c4b0 : decide (x7_1 < (l0.length : Int)) = true := decide_eq_true c4
     clear c4
     (skip)
     have H' := Aside0.mk H
     clear H
     go_wp2
     go_meet
     case rel => exact ⟨_, (true), (by rfl), H', ⟨by have := HK1.out; omega⟩, ⟨by exact HO_5.out⟩, ⟨HB.out⟩⟩
    ·rw [if_neg c4] at H
     have c4b0 : decide (x7_1 < (l0.length : Int)) = false := decide_eq_false c4
     clear c4
     (skip)
     by_cases c5 : x7_1 < (l1.length : Int)
     ·rw [if_pos c5] at H
      have c5b0 : decide (x7_1 < (l1.length : Int)) = true := decide_eq_true c5
      clear c5
      have H' := Aside0.mk H
      clear H
      go_wp2
      go_meet
      case rel => exact ⟨_, (true), (by rfl), H', ⟨by have := HK1.out; omega⟩, ⟨by exact HO_5.out⟩, ⟨HB.out⟩⟩
     ·rw [if_neg c5] at H
      have c5b0 : decide (x7_1 < (l1.length : Int)) = false := decide_eq_false c5
      clear c5
      have H' := Aside0.mk H
      clear H
      go_wp2
      go_meet
      case rel => exact ⟨_, (decide (x6_1 > 0)), (by rfl), H', ⟨by have := HK1.out; omega⟩, ⟨by exact HO_5.out⟩, ⟨HB.out⟩⟩
   case rest =>
    clear HC3
    try clear c1
    try clear p2
    try clear c4
    try clear c4b0
    try clear c5
    try clear c5b0
    try clear p2
    obtain ⟨kq, x22_2, rfl, HA, HJ2, HO_5, HB⟩ := hcut
    cases kq with
    | zero => exact absurd HA.out (by simp [clepsydraref03_plus.j1])
    | succ kj2 =>
     have H := HA.out
     clear HA
     simp only [clepsydraref03_plus.j1] at H
     by_cases c6 : x22_2 = true
     ·subst c6
      rw [if_pos rfl] at H
      replace H := Option.bind_eq_some_iff.mp H
      obtain ⟨t233, A70, H⟩ := H
      try dsimp only at H
      have A7 := Aside0.mk A70
      clear A70
      replace H := Option.bind_eq_some_iff.mp H
      obtain ⟨t234, A80, H⟩ := H
      try dsimp only at H
      have A8 := Aside0.mk A80
      clear A80
      by_cases c9 : x5_1.length < 17592186044416
      ·rw [if_pos c9] at H
       have LMc9 := Aside0.mk c9
       clear c9
       obtain ⟨y235, hy235⟩ : ∃ y_ : List Int, y_ = (x5_1 ++ [Go.bits .and .i64 (wrap64 ((wrap64 (t233 + t234)) + x6_1)) 65535]) := ⟨_, rfl⟩
       rw [← hy235] at H
       have Ny235 := Aside0.mk hy235
       clear hy235
       have H' := Aside0.mk H
       clear H
       go_wp2_with (first | ((with_reducible refine gate_callee (f := 178) rfl ?_); refine goesL_ (some 27) rfl rfl Tryz.func178 (by kernel_rfl) rfl #[.slice A0 l0.length c0, .int .i64 x7_1] rfl (by (try simp only [List.map_toArray, List.map_cons, List.map_nil]); rfl) ?_; (with_reducible refine (clepsydraref03_at.calls _ _ l0 x7_1 t233 _ ?side1 ?side2 A7.out).mono ?_); (case side1 => exact (Kd.C_below HR0.out HB.out)); (case side2 => exact HC0.out); rintro e w' ⟨rfl, ⟨nd, rfl⟩⟩; refine ⟨_, rfl, ?_⟩) | ((with_reducible refine gate_callee (f := 178) rfl ?_); refine goesL_ (some 30) rfl rfl Tryz.func178 (by kernel_rfl) rfl #[.slice A1 l1.length c1, .int .i64 x7_1] rfl (by (try simp only [List.map_toArray, List.map_cons, List.map_nil]); rfl) ?_; (with_reducible refine (clepsydraref03_at.calls _ _ l1 x7_1 t234 _ ?side1 ?side2 A8.out).mono ?_); (case side1 => repeat ((exact (Kd.C_below HR1.out (by repeat ((with_reducible first | exact HB.out | apply pw_below_drewN))))))); (case side2 => exact HC1.out); rintro e w' ⟨rfl, ⟨nd, rfl⟩⟩; refine ⟨_, rfl, ?_⟩) | ((with_reducible refine gate_builtin (b := .append) (xs := #[.tmp 34, .tmp 37]) rfl ?_); (try (refine gate_guard (by rfl) ?_; dsimp only)); at_builtin; refine Kd.R_append (Kd.int .i64) (w0 := w) w.heap.size rfl (.tmp 34) (.tmp 37) 120 3 (.int .i64 0) 8 rfl Tryz.underlying120 info3 rfl (by decide) (by omega) u5 x5_1 (Go.bits .and .i64 (wrap64 ((wrap64 (t233 + t234)) + x6_1)) 65535) [.int .i64 (Go.bits .and .i64 (wrap64 ((wrap64 (t233 + t234)) + x6_1)) 65535)] (fun _ => True) (fun _ => False) rfl rfl ?aP (fun _ hk => hk.elim) ?aF ?aO ?aB ?aS ?aL ?_; (case aP => exact rfl); (case aB => exact (by repeat ((with_reducible first | exact HB.out | apply pw_below_drewN)))); (case aF => exact (fun _ _ => trivial)); (case aO => exact (by (with_reducible repeat ((apply Kd.R_drewN))); exact HO_5.out)); (case aS => exact (below_size (by repeat ((with_reducible first | exact HB.out | apply pw_below_drewN))))); (case aL => have := LMc9.out; omega); intro v236 w10 ho hb hg hat; rw [← Ny235.out] at ho; replace HB := Aside0.mk (hb); have HO237 := Aside0.mk (ho); clear HO_5; clear ho hb hg hat))
       go_roundg kj2
       case measure => have := HK1.out; have := HJ2.out; omega
       case rel => exact ⟨(y235), ((wrap64 ((wrap64 (t233 + t234)) + x6_1)) / 65536), (wrap64 (x7_1 + 1)), (by rfl), (by rfl), H', ⟨by have := HK1.out; have := HJ2.out; omega⟩, ⟨by exact HO237.out⟩, ⟨HB.out⟩⟩
      ·rw [if_neg c9] at H
       exact absurd H (by simp)
     ·replace c6 := Bool.eq_false_iff.mpr c6
      subst c6
      rw [if_neg (show ¬ (false = true) by decide)] at H
      obtain rfl := Option.some.inj H
      simp only [Option.some.injEq, Prod.mk.injEq] at H
      obtain ⟨rfl⟩ := H
      go_wp2
      go_ret
      exact ⟨_, by rfl, by exact HO_5.out, HB.out⟩
def clepsydraref03_Inverse.l0 : Nat → List Int → List Int → List Int → List Int → List Int → Option (List Int × Int)
 | 0, _, _, _, _, _ => none
 | k + 1, x6, x8, x9, x10, x12 => if (x8.length : Int) > 0 then ((clepsydraref03_parted.f x9 x8).bind fun bt259 => ((clepsydraref03_parted.f bt259.1 x6).bind fun bt265 => ((clepsydraref03_plus.f k x10 x6).bind fun t271 => ((clepsydraref03_times.f bt265.2 x12 x6).bind fun t274 => ((clepsydraref03_minus.f k t271 t274).bind fun t277 => ((clepsydraref03_parted.f t277 x6).bind fun bt280 => (clepsydraref03_Inverse.l0 k x6 bt259.2 x8 x12 bt280.2))))))) else ((clepsydraref03_cmp.f x9 (([1] : List Int))).bind fun t289 => (if t289 = 0 then ((clepsydraref03_Number.f k x10).bind fun t290 => (some (t290, 0))) else (some (([] : List Int), 30))))
def clepsydraref03_Inverse.f (k : Nat) (l0 : List Int) (l1 : List Int) : Option (List Int × Int) := (clepsydraref03_Digits.f k l1).bind fun t238 => (if (t238.length : Int) = 0 then (some (([] : List Int), 11)) else ((clepsydraref03_Digits.f k l0).bind fun t241 => ((clepsydraref03_parted.f t241 t238).bind fun bt244 => ((clepsydraref03_parted.f (([1] : List Int)) t238).bind fun bt253 => (clepsydraref03_Inverse.l0 k t238 bt244.2 t238 ([] : List Int) bt253.2)))))
set_option maxHeartbeats 8000000 in
set_option maxRecDepth 100000 in
theorem clepsydraref03_Inverse.calls (k : Nat) (A0 : Option Addr) (c0 : Nat) (l0 : List Int) (A1 : Option Addr) (c1 : Nat) (l1 : List Int) (r1 : List Int) (r2 : Int) (w : World) (hr0 : Kd.C (Kd.int .u64) w A0 l0.length l0) (hc0 : l0.length ≤ c0) (hr1 : Kd.C (Kd.int .u64) w A1 l1.length l1) (hc1 : l1.length ≤ c1) (h : clepsydraref03_Inverse.f k l0 l1 = some (r1, r2)) :
  Calls Tryz.prog 69 #[.slice A0 l0.length c0, .slice A1 l1.length c1] w fun e w' => ∃ v0_ : Value, e = .returned (.tuple #[v0_, .int .i64 r2]) ∧ Kd.R (Kd.int .u64) 23 w' w.heap.size (fun _ => True) v0_ r1 ∧ Below w.heap.size w w' := by
 have HR0 := Aside0.mk hr0
 have HC0 := Aside0.mk hc0
 clear hr0 hc0
 have HR1 := Aside0.mk hr1
 have HC1 := Aside0.mk hc1
 clear hr1 hc1
 have HB := Aside0.mk (Below.refl w.heap.size w)
 have H : ((clepsydraref03_Digits.f k l1).bind fun t238 => (if (t238.length : Int) = 0 then (some (([] : List Int), 11)) else ((clepsydraref03_Digits.f k l0).bind fun t241 => ((clepsydraref03_parted.f t241 t238).bind fun bt244 => ((clepsydraref03_parted.f (([1] : List Int)) t238).bind fun bt253 => (clepsydraref03_Inverse.l0 k t238 bt244.2 t238 ([] : List Int) bt253.2)))))) = some (r1, r2) := h
 clear h
 replace H := Option.bind_eq_some_iff.mp H
 obtain ⟨t238, A30, H⟩ := H
 try dsimp only at H
 have A3 := Aside0.mk A30
 clear A30
 by_cases c4 : (t238.length : Int) = 0
 ·rw [if_pos c4] at H
  have c4b0 : ((t238.length : Int) == 0) = true := beq_iff_eq.mpr c4
  have c4b1 : ((t238.length : Int) != 0) = false := bne_eq_false_iff_eq.mpr c4
  clear c4
  simp only [Option.some.injEq, Prod.mk.injEq] at H
  obtain ⟨rfl, rfl⟩ := H
  go_enter Tryz.func69, Tryz.ntmps69
  go_wp2_with ((((with_reducible refine gate_callee (f := 137) rfl ?_); refine goesL_ (some 17) rfl rfl Tryz.func137 (by kernel_rfl) rfl #[.slice A1 l1.length c1] rfl (by (try simp only [List.map_toArray, List.map_cons, List.map_nil]); rfl) ?_; (with_reducible refine (clepsydraref03_Digits.calls k _ _ l1 t238 _ ?side1 ?side2 A3.out).mono ?_); (case side1 => exact HR1.out); (case side2 => exact HC1.out); rintro e w5 ⟨v239, rfl, ho0, hb⟩; refine ⟨_, rfl, ?_⟩; have HO240 := Aside0.mk (Kd.R_lower ho0 (below_size HB.out)); replace HB := Aside0.mk (below_step HB.out hb); clear hb ho0; obtain ⟨Ao6, co6, eo6⟩ := Kd.R_slice HO240.out; subst eo6)))
  go_ret2
  exact ⟨_, by rfl, by (exact Kd.R_nil _ _ _ _ _), HB.out⟩
 ·rw [if_neg c4] at H
  have c4b0 : ((t238.length : Int) == 0) = false := beq_eq_false_iff_ne.mpr c4
  have c4b1 : ((t238.length : Int) != 0) = true := bne_iff_ne.mpr c4
  have c4b2 : ¬ (t238 = []) := fun h_ => c4 (by rw [h_]; rfl)
  replace H := Option.bind_eq_some_iff.mp H
  obtain ⟨t241, A70, H⟩ := H
  try dsimp only at H
  have A7 := Aside0.mk A70
  clear A70
  replace H := Option.bind_eq_some_iff.mp H
  obtain ⟨⟨t244, t245⟩, A80, H⟩ := H
  try dsimp only at H
  have A8 := Aside0.mk A80
  clear A80
  obtain ⟨y250, hy250⟩ : ∃ y_ : List Int, y_ = (([1] : List Int)) := ⟨_, rfl⟩
  rw [← hy250] at H
  have Ny250 := Aside0.mk hy250
  clear hy250
  replace H := Option.bind_eq_some_iff.mp H
  obtain ⟨⟨t253, t254⟩, A90, H⟩ := H
  try dsimp only at H
  have A9 := Aside0.mk A90
  clear A90
  have H' := Aside0.mk H
  clear H
  go_enter Tryz.func69, Tryz.ntmps69
  go_wp2_with (first | ((with_reducible refine gate_callee (f := 137) rfl ?_); refine goesL_ (some 17) rfl rfl Tryz.func137 (by kernel_rfl) rfl #[.slice A1 l1.length c1] rfl (by (try simp only [List.map_toArray, List.map_cons, List.map_nil]); rfl) ?_; (with_reducible refine (clepsydraref03_Digits.calls k _ _ l1 t238 _ ?side1 ?side2 A3.out).mono ?_); (case side1 => exact HR1.out); (case side2 => exact HC1.out); rintro e w10 ⟨v239, rfl, ho0, hb⟩; refine ⟨_, rfl, ?_⟩; have HO240 := Aside0.mk (Kd.R_lower ho0 (below_size HB.out)); replace HB := Aside0.mk (below_step HB.out hb); clear hb ho0; obtain ⟨Ao11, co11, eo11⟩ := Kd.R_slice HO240.out; subst eo11) | ((with_reducible refine gate_callee (f := 137) rfl ?_); refine goesL_ (some 23) rfl rfl Tryz.func137 (by kernel_rfl) rfl #[.slice A0 l0.length c0] rfl (by (try simp only [List.map_toArray, List.map_cons, List.map_nil]); rfl) ?_; (with_reducible refine (clepsydraref03_Digits.calls k _ _ l0 t241 _ ?side1 ?side2 A7.out).mono ?_); (case side1 => exact (Kd.C_below HR0.out HB.out)); (case side2 => exact HC0.out); rintro e w12 ⟨v242, rfl, ho0, hb⟩; refine ⟨_, rfl, ?_⟩; have HO243 := Aside0.mk (Kd.R_lower (Kd.R_new' ho0 (Kd.R_lt HO240.out)) (below_size HB.out)); replace HO240 := Aside0.mk (Kd.R_elder' HO240.out (Kd.R_base ho0) hb); replace HB := Aside0.mk (below_step HB.out hb); clear hb ho0; obtain ⟨Ao13, co13, eo13⟩ := Kd.R_slice HO243.out; subst eo13) | ((with_reducible refine gate_callee (f := 139) rfl ?_); refine goesL_ (some 25) rfl rfl Tryz.func139 (by kernel_rfl) rfl #[.slice Ao13 t241.length co13, .slice Ao11 t238.length co11] rfl (by (try simp only [List.map_toArray, List.map_cons, List.map_nil]); rfl) ?_; (with_reducible refine (clepsydraref03_parted.calls _ _ t241 _ _ t238 t244 t245 _ ?side1 ?side2 ?side3 ?side4 A8.out).mono ?_); (case side1 => exact (Kd.R_reads' HO243.out).2.2); (case side2 => exact (Kd.R_reads' HO243.out).2.1); (case side3 => exact (Kd.R_reads' HO240.out).2.2); (case side4 => exact (Kd.R_reads' HO240.out).2.1); rintro e w14 ⟨v246, v248, rfl, ho0, ho1, hb⟩; refine ⟨_, rfl, ?_⟩; have HO247 := Aside0.mk (Kd.R_lower (Kd.R_new' (Kd.R_new' ho0 (Kd.R_lt HO240.out)) (Kd.R_lt HO243.out)) (below_size HB.out)); have HO249 := Aside0.mk (Kd.R_lower (Kd.R_new' (Kd.R_new' ho1 (Kd.R_lt HO240.out)) (Kd.R_lt HO243.out)) (below_size HB.out)); replace HO240 := Aside0.mk (Kd.R_mono (Kd.R_told (Kd.R_told (Kd.R_old HO240.out hb) (Kd.R_base ho0)) (Kd.R_base ho1)) (fun _ h_ => h_.1)); replace HO243 := Aside0.mk (Kd.R_mono (Kd.R_told (Kd.R_told (Kd.R_old HO243.out hb) (Kd.R_base ho0)) (Kd.R_base ho1)) (fun _ h_ => h_.1)); replace HB := Aside0.mk (below_step HB.out hb); clear hb ho0 ho1) | ((with_reducible refine gate_dst (N := 30) rfl ?_); refine Kd.R_lit (Kd.int .i64) _ 3 ?hg (N := 30) ?hd (xs := ([1] : List Int)) (inner := [.int .i64 1]) (ok := fun _ => True) (okp := fun _ => True) ?hr ?hp (fun _ hk => hk) trivial (Below.refl _ _) (Nat.le_refl _) (by simp) ?_; (case hd => rfl); (case hg => rfl); (case hr => (go_simp; done)); (case hp => exact (Reps.one (show Kd.M (Kd.int .i64) _ _ _ 1 [.int .i64 1] from rfl) (Reps.none _ _))); intro v251 w15 ho16 hb hg_ hnew_; clear hg_ hnew_; ((rw [← Ny250.out] at ho16)); have HO252 := Aside0.mk (Kd.R_lower (Kd.R_new' (Kd.R_new' (Kd.R_new' (Kd.R_new' ho16 (Kd.R_lt HO240.out)) (Kd.R_lt HO243.out)) (Kd.R_lt HO247.out)) (Kd.R_lt HO249.out)) (below_size HB.out)); replace HO240 := Aside0.mk (Kd.R_elder' HO240.out (Kd.R_base ho16) hb); replace HO243 := Aside0.mk (Kd.R_elder' HO243.out (Kd.R_base ho16) hb); replace HO247 := Aside0.mk (Kd.R_elder' HO247.out (Kd.R_base ho16) hb); replace HO249 := Aside0.mk (Kd.R_elder' HO249.out (Kd.R_base ho16) hb); replace HB := Aside0.mk (below_step HB.out hb); clear hb ho16; obtain ⟨Ao17, co17, eo17⟩ := Kd.R_slice HO252.out; subst eo17) | ((with_reducible refine gate_callee (f := 139) rfl ?_); refine goesL_ (some 32) rfl rfl Tryz.func139 (by kernel_rfl) rfl #[.slice Ao17 y250.length co17, .slice Ao11 t238.length co11] rfl (by (try simp only [List.map_toArray, List.map_cons, List.map_nil]); rfl) ?_; (with_reducible refine (clepsydraref03_parted.calls _ _ y250 _ _ t238 t253 t254 _ ?side1 ?side2 ?side3 ?side4 A9.out).mono ?_); (case side1 => exact (Kd.R_reads' HO252.out).2.2); (case side2 => exact (Kd.R_reads' HO252.out).2.1); (case side3 => exact (Kd.R_reads' HO240.out).2.2); (case side4 => exact (Kd.R_reads' HO240.out).2.1); rintro e w18 ⟨v255, v257, rfl, ho0, ho1, hb⟩; refine ⟨_, rfl, ?_⟩; have HO256 := Aside0.mk (Kd.R_lower (Kd.R_new' (Kd.R_new' (Kd.R_new' (Kd.R_new' (Kd.R_new' ho0 (Kd.R_lt HO240.out)) (Kd.R_lt HO243.out)) (Kd.R_lt HO247.out)) (Kd.R_lt HO249.out)) (Kd.R_lt HO252.out)) (below_size HB.out)); have HO258 := Aside0.mk (Kd.R_lower (Kd.R_new' (Kd.R_new' (Kd.R_new' (Kd.R_new' (Kd.R_new' ho1 (Kd.R_lt HO240.out)) (Kd.R_lt HO243.out)) (Kd.R_lt HO247.out)) (Kd.R_lt HO249.out)) (Kd.R_lt HO252.out)) (below_size HB.out)); replace HO240 := Aside0.mk (Kd.R_mono (Kd.R_told (Kd.R_told (Kd.R_old HO240.out hb) (Kd.R_base ho0)) (Kd.R_base ho1)) (fun _ h_ => h_.1)); replace HO243 := Aside0.mk (Kd.R_mono (Kd.R_told (Kd.R_told (Kd.R_old HO243.out hb) (Kd.R_base ho0)) (Kd.R_base ho1)) (fun _ h_ => h_.1)); replace HO247 := Aside0.mk (Kd.R_mono (Kd.R_told (Kd.R_told (Kd.R_old HO247.out hb) (Kd.R_base ho0)) (Kd.R_base ho1)) (fun _ h_ => h_.1)); replace HO249 := Aside0.mk (Kd.R_mono (Kd.R_told (Kd.R_told (Kd.R_old HO249.out hb) (Kd.R_base ho0)) (Kd.R_base ho1)) (fun _ h_ => h_.1)); replace HO252 := Aside0.mk (Kd.R_mono (Kd.R_told (Kd.R_told (Kd.R_old HO252.out hb) (Kd.R_base ho0)) (Kd.R_base ho1)) (fun _ h_ => h_.1)); replace HB := Aside0.mk (below_step HB.out hb); clear hb ho0 ho1))
  go_loopg [8, 9, 10, 12] k (fun kq v8 v9 v10 v12 w' => ∃ (x8_1 : List Int) (x9_1 : List Int) (x10_1 : List Int) (x12_1 : List Int), Aside0 (clepsydraref03_Inverse.l0 kq t238 x8_1 x9_1 x10_1 x12_1 = some (r1, r2)) ∧ Aside0 (kq ≤ k) ∧ Aside0 (Kd.R (Kd.int .i64) 3 w' w.heap.size (fun k_ => some k_ ≠ (v8 : Value).ownBlock ∧ some k_ ≠ (v10 : Value).ownBlock ∧ some k_ ≠ (v12 : Value).ownBlock) (.slice Ao11 t238.length co11) t238) ∧ Aside0 (Kd.R (Kd.int .i64) 3 w' w.heap.size (fun k_ => some k_ ≠ ((.slice Ao11 t238.length co11) : Value).ownBlock ∧ some k_ ≠ (v9 : Value).ownBlock ∧ some k_ ≠ (v10 : Value).ownBlock ∧ some k_ ≠ (v12 : Value).ownBlock) v8 x8_1) ∧ Aside0 (Kd.R (Kd.int .i64) 3 w' w.heap.size (fun k_ => some k_ ≠ (v8 : Value).ownBlock ∧ some k_ ≠ (v10 : Value).ownBlock ∧ some k_ ≠ (v12 : Value).ownBlock) v9 x9_1) ∧ Aside0 (Kd.R (Kd.int .i64) 3 w' w.heap.size (fun k_ => some k_ ≠ ((.slice Ao11 t238.length co11) : Value).ownBlock ∧ some k_ ≠ (v8 : Value).ownBlock ∧ some k_ ≠ (v9 : Value).ownBlock ∧ some k_ ≠ (v12 : Value).ownBlock) v10 x10_1) ∧ Aside0 (Kd.R (Kd.int .i64) 3 w' w.heap.size (fun k_ => some k_ ≠ ((.slice Ao11 t238.length co11) : Value).ownBlock ∧ some k_ ≠ (v8 : Value).ownBlock ∧ some k_ ≠ (v9 : Value).ownBlock ∧ some k_ ≠ (v10 : Value).ownBlock) v12 x12_1) ∧ Aside0 (Below w.heap.size w w'))
  case atStart => exact ⟨(t245), (t238), (([] : List Int)), (t254), H', ⟨Nat.le_refl _⟩, ⟨by exact Kd.R_mono HO240.out (fun _ hk => by (exact ⟨hk.1.1.1.2, ⟨(by simp [Value.ownBlock]), hk.2⟩⟩))⟩, ⟨by exact Kd.R_mono HO249.out (fun _ hk => by (exact ⟨hk.1.1.1.1.2, ⟨hk.1.1.1.1.2, ⟨(by simp [Value.ownBlock]), hk.2⟩⟩⟩))⟩, ⟨by exact Kd.R_mono HO240.out (fun _ hk => by (exact ⟨hk.1.1.1.2, ⟨(by simp [Value.ownBlock]), hk.2⟩⟩))⟩, ⟨by (exact Kd.R_nil _ _ _ _ _)⟩, ⟨by exact Kd.R_mono HO258.out (fun _ hk => by (exact ⟨hk.1.1.1.1.2, ⟨hk.1.2, ⟨hk.1.1.1.1.2, (by simp [Value.ownBlock])⟩⟩⟩))⟩, ⟨HB.out⟩⟩
  case round =>
   clear H'
   try clear c1
   try clear p2
   try clear c4
   try clear c4b0
   try clear c4b1
   try clear c4b2
   try clear c6
   try clear c13
   obtain ⟨x8_1, x9_1, x10_1, x12_1, HA, HK1, HO_6, HO_8, HO_9, HO_10, HO_12, HB⟩ := hrel
   cases gk with
   | zero => exact absurd HA.out (by simp [clepsydraref03_Inverse.l0])
   | succ k1 =>
    have H := HA.out
    clear HA
    simp only [clepsydraref03_Inverse.l0] at H
    by_cases c19 : (x8_1.length : Int) > 0
    ·rw [if_pos c19] at H
     have c19b0 : decide (0 < (x8_1.length : Int)) = true := decide_eq_true c19
     have c19b1 : decide (0 < x8_1.length) = true := decide_eq_true (by omega)
     clear c19
     replace H := Option.bind_eq_some_iff.mp H
     obtain ⟨⟨t259, t260⟩, A200, H⟩ := H
     try dsimp only at H
     have A20 := Aside0.mk A200
     clear A200
     replace H := Option.bind_eq_some_iff.mp H
     obtain ⟨⟨t265, t266⟩, A210, H⟩ := H
     try dsimp only at H
     have A21 := Aside0.mk A210
     clear A210
     replace H := Option.bind_eq_some_iff.mp H
     obtain ⟨t271, A220, H⟩ := H
     try dsimp only at H
     have A22 := Aside0.mk A220
     clear A220
     replace H := Option.bind_eq_some_iff.mp H
     obtain ⟨t274, A230, H⟩ := H
     try dsimp only at H
     have A23 := Aside0.mk A230
     clear A230
     replace H := Option.bind_eq_some_iff.mp H
     obtain ⟨t277, A240, H⟩ := H
     try dsimp only at H
     have A24 := Aside0.mk A240
     clear A240
     replace H := Option.bind_eq_some_iff.mp H
     obtain ⟨⟨t280, t281⟩, A250, H⟩ := H
     try dsimp only at H
     have A25 := Aside0.mk A250
     clear A250
     have H' := Aside0.mk H
     clear H
     obtain ⟨Ao26, co26, eo26⟩ := Kd.R_slice HO_8.out
     subst eo26
     obtain ⟨Ao27, co27, eo27⟩ := Kd.R_slice HO_9.out
     subst eo27
     go_wp2_with (first | ((with_reducible refine gate_callee (f := 139) rfl ?_); refine goesL_ (some 41) rfl rfl Tryz.func139 (by kernel_rfl) rfl #[.slice Ao27 x9_1.length co27, .slice Ao26 x8_1.length co26] rfl (by (try simp only [List.map_toArray, List.map_cons, List.map_nil]); rfl) ?_; (with_reducible refine (clepsydraref03_parted.calls _ _ x9_1 _ _ x8_1 t259 t260 _ ?side1 ?side2 ?side3 ?side4 A20.out).mono ?_); (case side1 => exact (Kd.R_reads' HO_9.out).2.2); (case side2 => exact (Kd.R_reads' HO_9.out).2.1); (case side3 => exact (Kd.R_reads' HO_8.out).2.2); (case side4 => exact (Kd.R_reads' HO_8.out).2.1); rintro e w28 ⟨v261, v263, rfl, ho0, ho1, hb⟩; refine ⟨_, rfl, ?_⟩; have HO262 := Aside0.mk (Kd.R_lower (Kd.R_new' (Kd.R_new' (Kd.R_new' (Kd.R_new' (Kd.R_new' ho0 (Kd.R_lt HO_6.out)) (Kd.R_lt HO_8.out)) (Kd.R_lt HO_9.out)) (Kd.R_lt HO_10.out)) (Kd.R_lt HO_12.out)) (below_size HB.out)); have HO264 := Aside0.mk (Kd.R_lower (Kd.R_new' (Kd.R_new' (Kd.R_new' (Kd.R_new' (Kd.R_new' ho1 (Kd.R_lt HO_6.out)) (Kd.R_lt HO_8.out)) (Kd.R_lt HO_9.out)) (Kd.R_lt HO_10.out)) (Kd.R_lt HO_12.out)) (below_size HB.out)); replace HO_6 := Aside0.mk (Kd.R_mono (Kd.R_told (Kd.R_told (Kd.R_old HO_6.out hb) (Kd.R_base ho0)) (Kd.R_base ho1)) (fun _ h_ => h_.1)); replace HO_8 := Aside0.mk (Kd.R_mono (Kd.R_told (Kd.R_told (Kd.R_old HO_8.out hb) (Kd.R_base ho0)) (Kd.R_base ho1)) (fun _ h_ => h_.1)); replace HO_9 := Aside0.mk (Kd.R_mono (Kd.R_told (Kd.R_told (Kd.R_old HO_9.out hb) (Kd.R_base ho0)) (Kd.R_base ho1)) (fun _ h_ => h_.1)); replace HO_10 := Aside0.mk (Kd.R_mono (Kd.R_told (Kd.R_told (Kd.R_old HO_10.out hb) (Kd.R_base ho0)) (Kd.R_base ho1)) (fun _ h_ => h_.1)); replace HO_12 := Aside0.mk (Kd.R_mono (Kd.R_told (Kd.R_told (Kd.R_old HO_12.out hb) (Kd.R_base ho0)) (Kd.R_base ho1)) (fun _ h_ => h_.1)); replace HB := Aside0.mk (below_step HB.out hb); clear hb ho0 ho1; obtain ⟨Ao29, co29, eo29⟩ := Kd.R_slice HO262.out; subst eo29) | ((with_reducible refine gate_callee (f := 139) rfl ?_); refine goesL_ (some 47) rfl rfl Tryz.func139 (by kernel_rfl) rfl #[.slice Ao29 t259.length co29, .slice Ao11 t238.length co11] rfl (by (try simp only [List.map_toArray, List.map_cons, List.map_nil]); rfl) ?_; (with_reducible refine (clepsydraref03_parted.calls _ _ t259 _ _ t238 t265 t266 _ ?side1 ?side2 ?side3 ?side4 A21.out).mono ?_); (case side1 => exact (Kd.R_reads' HO262.out).2.2); (case side2 => exact (Kd.R_reads' HO262.out).2.1); (case side3 => exact (Kd.R_reads' HO_6.out).2.2); (case side4 => exact (Kd.R_reads' HO_6.out).2.1); rintro e w30 ⟨v267, v269, rfl, ho0, ho1, hb⟩; refine ⟨_, rfl, ?_⟩; have HO268 := Aside0.mk (Kd.R_lower (Kd.R_new' (Kd.R_new' (Kd.R_new' (Kd.R_new' (Kd.R_new' (Kd.R_new' (Kd.R_new' ho0 (Kd.R_lt HO_6.out)) (Kd.R_lt HO_8.out)) (Kd.R_lt HO_9.out)) (Kd.R_lt HO_10.out)) (Kd.R_lt HO_12.out)) (Kd.R_lt HO262.out)) (Kd.R_lt HO264.out)) (below_size HB.out)); have HO270 := Aside0.mk (Kd.R_lower (Kd.R_new' (Kd.R_new' (Kd.R_new' (Kd.R_new' (Kd.R_new' (Kd.R_new' (Kd.R_new' ho1 (Kd.R_lt HO_6.out)) (Kd.R_lt HO_8.out)) (Kd.R_lt HO_9.out)) (Kd.R_lt HO_10.out)) (Kd.R_lt HO_12.out)) (Kd.R_lt HO262.out)) (Kd.R_lt HO264.out)) (below_size HB.out)); replace HO_6 := Aside0.mk (Kd.R_mono (Kd.R_told (Kd.R_told (Kd.R_old HO_6.out hb) (Kd.R_base ho0)) (Kd.R_base ho1)) (fun _ h_ => h_.1)); replace HO_8 := Aside0.mk (Kd.R_mono (Kd.R_told (Kd.R_told (Kd.R_old HO_8.out hb) (Kd.R_base ho0)) (Kd.R_base ho1)) (fun _ h_ => h_.1)); replace HO_9 := Aside0.mk (Kd.R_mono (Kd.R_told (Kd.R_told (Kd.R_old HO_9.out hb) (Kd.R_base ho0)) (Kd.R_base ho1)) (fun _ h_ => h_.1)); replace HO_10 := Aside0.mk (Kd.R_mono (Kd.R_told (Kd.R_told (Kd.R_old HO_10.out hb) (Kd.R_base ho0)) (Kd.R_base ho1)) (fun _ h_ => h_.1)); replace HO_12 := Aside0.mk (Kd.R_mono (Kd.R_told (Kd.R_told (Kd.R_old HO_12.out hb) (Kd.R_base ho0)) (Kd.R_base ho1)) (fun _ h_ => h_.1)); replace HO262 := Aside0.mk (Kd.R_mono (Kd.R_told (Kd.R_told (Kd.R_old HO262.out hb) (Kd.R_base ho0)) (Kd.R_base ho1)) (fun _ h_ => h_.1)); replace HO264 := Aside0.mk (Kd.R_mono (Kd.R_told (Kd.R_told (Kd.R_old HO264.out hb) (Kd.R_base ho0)) (Kd.R_base ho1)) (fun _ h_ => h_.1)); replace HB := Aside0.mk (below_step HB.out hb); clear hb ho0 ho1; obtain ⟨Ao31, co31, eo31⟩ := Kd.R_slice HO_10.out; subst eo31) | ((with_reducible refine gate_callee (f := 141) rfl ?_); refine goesL_ (some 52) rfl rfl Tryz.func141 (by kernel_rfl) rfl #[.slice Ao31 x10_1.length co31, .slice Ao11 t238.length co11] rfl (by (try simp only [List.map_toArray, List.map_cons, List.map_nil]); rfl) ?_; (with_reducible refine (clepsydraref03_plus.calls k1 _ _ x10_1 _ _ t238 t271 _ ?side1 ?side2 ?side3 ?side4 A22.out).mono ?_); (case side1 => exact (Kd.R_reads' HO_10.out).2.2); (case side2 => exact (Kd.R_reads' HO_10.out).2.1); (case side3 => exact (Kd.R_reads' HO_6.out).2.2); (case side4 => exact (Kd.R_reads' HO_6.out).2.1); rintro e w32 ⟨v272, rfl, ho0, hb⟩; refine ⟨_, rfl, ?_⟩; have HO273 := Aside0.mk (Kd.R_lower (Kd.R_new' (Kd.R_new' (Kd.R_new' (Kd.R_new' (Kd.R_new' (Kd.R_new' (Kd.R_new' (Kd.R_new' (Kd.R_new' ho0 (Kd.R_lt HO_6.out)) (Kd.R_lt HO_8.out)) (Kd.R_lt HO_9.out)) (Kd.R_lt HO_10.out)) (Kd.R_lt HO_12.out)) (Kd.R_lt HO262.out)) (Kd.R_lt HO264.out)) (Kd.R_lt HO268.out)) (Kd.R_lt HO270.out)) (below_size HB.out)); replace HO_6 := Aside0.mk (Kd.R_elder' HO_6.out (Kd.R_base ho0) hb); replace HO_8 := Aside0.mk (Kd.R_elder' HO_8.out (Kd.R_base ho0) hb); replace HO_9 := Aside0.mk (Kd.R_elder' HO_9.out (Kd.R_base ho0) hb); replace HO_10 := Aside0.mk (Kd.R_elder' HO_10.out (Kd.R_base ho0) hb); replace HO_12 := Aside0.mk (Kd.R_elder' HO_12.out (Kd.R_base ho0) hb); replace HO262 := Aside0.mk (Kd.R_elder' HO262.out (Kd.R_base ho0) hb); replace HO264 := Aside0.mk (Kd.R_elder' HO264.out (Kd.R_base ho0) hb); replace HO268 := Aside0.mk (Kd.R_elder' HO268.out (Kd.R_base ho0) hb); replace HO270 := Aside0.mk (Kd.R_elder' HO270.out (Kd.R_base ho0) hb); replace HB := Aside0.mk (below_step HB.out hb); clear hb ho0; obtain ⟨Ao33, co33, eo33⟩ := Kd.R_slice HO270.out; subst eo33; obtain ⟨Ao34, co34, eo34⟩ := Kd.R_slice HO_12.out; subst eo34) | ((with_reducible refine gate_callee (f := 142) rfl ?_); refine goesL_ (some 56) rfl rfl Tryz.func142 (by kernel_rfl) rfl #[.slice Ao33 t266.length co33, .slice Ao34 x12_1.length co34, .slice Ao11 t238.length co11] rfl (by (try simp only [List.map_toArray, List.map_cons, List.map_nil]); rfl) ?_; (with_reducible refine (clepsydraref03_times.calls _ _ t266 _ _ x12_1 _ _ t238 t274 _ ?side1 ?side2 ?side3 ?side4 ?side5 ?side6 A23.out).mono ?_); (case side1 => exact (Kd.R_reads' HO270.out).2.2); (case side2 => exact (Kd.R_reads' HO270.out).2.1); (case side3 => exact (Kd.R_reads' HO_12.out).2.2); (case side4 => exact (Kd.R_reads' HO_12.out).2.1); (case side5 => exact (Kd.R_reads' HO_6.out).2.2); (case side6 => exact (Kd.R_reads' HO_6.out).2.1); rintro e w35 ⟨v275, rfl, ho0, hb⟩; refine ⟨_, rfl, ?_⟩; have HO276 := Aside0.mk (Kd.R_lower (Kd.R_new' (Kd.R_new' (Kd.R_new' (Kd.R_new' (Kd.R_new' (Kd.R_new' (Kd.R_new' (Kd.R_new' (Kd.R_new' (Kd.R_new' ho0 (Kd.R_lt HO_6.out)) (Kd.R_lt HO_8.out)) (Kd.R_lt HO_9.out)) (Kd.R_lt HO_10.out)) (Kd.R_lt HO_12.out)) (Kd.R_lt HO262.out)) (Kd.R_lt HO264.out)) (Kd.R_lt HO268.out)) (Kd.R_lt HO270.out)) (Kd.R_lt HO273.out)) (below_size HB.out)); replace HO_6 := Aside0.mk (Kd.R_elder' HO_6.out (Kd.R_base ho0) hb); replace HO_8 := Aside0.mk (Kd.R_elder' HO_8.out (Kd.R_base ho0) hb); replace HO_9 := Aside0.mk (Kd.R_elder' HO_9.out (Kd.R_base ho0) hb); replace HO_10 := Aside0.mk (Kd.R_elder' HO_10.out (Kd.R_base ho0) hb); replace HO_12 := Aside0.mk (Kd.R_elder' HO_12.out (Kd.R_base ho0) hb); replace HO262 := Aside0.mk (Kd.R_elder' HO262.out (Kd.R_base ho0) hb); replace HO264 := Aside0.mk (Kd.R_elder' HO264.out (Kd.R_base ho0) hb); replace HO268 := Aside0.mk (Kd.R_elder' HO268.out (Kd.R_base ho0) hb); replace HO270 := Aside0.mk (Kd.R_elder' HO270.out (Kd.R_base ho0) hb); replace HO273 := Aside0.mk (Kd.R_elder' HO273.out (Kd.R_base ho0) hb); replace HB := Aside0.mk (below_step HB.out hb); clear hb ho0; obtain ⟨Ao36, co36, eo36⟩ := Kd.R_slice HO273.out; subst eo36; obtain ⟨Ao37, co37, eo37⟩ := Kd.R_slice HO276.out; subst eo37) | ((with_reducible refine gate_callee (f := 140) rfl ?_); refine goesL_ (some 57) rfl rfl Tryz.func140 (by kernel_rfl) rfl #[.slice Ao36 t271.length co36, .slice Ao37 t274.length co37] rfl (by (try simp only [List.map_toArray, List.map_cons, List.map_nil]); rfl) ?_; (with_reducible refine (clepsydraref03_minus.calls k1 _ _ t271 _ _ t274 t277 _ ?side1 ?side2 ?side3 ?side4 A24.out).mono ?_); (case side1 => exact (Kd.R_reads' HO273.out).2.2); (case side2 => exact (Kd.R_reads' HO273.out).2.1); (case side3 => exact (Kd.R_reads' HO276.out).2.2); (case side4 => exact (Kd.R_reads' HO276.out).2.1); rintro e w38 ⟨v278, rfl, ho0, hb⟩; refine ⟨_, rfl, ?_⟩; have HO279 := Aside0.mk (Kd.R_lower (Kd.R_new' (Kd.R_new' (Kd.R_new' (Kd.R_new' (Kd.R_new' (Kd.R_new' (Kd.R_new' (Kd.R_new' (Kd.R_new' (Kd.R_new' (Kd.R_new' ho0 (Kd.R_lt HO_6.out)) (Kd.R_lt HO_8.out)) (Kd.R_lt HO_9.out)) (Kd.R_lt HO_10.out)) (Kd.R_lt HO_12.out)) (Kd.R_lt HO262.out)) (Kd.R_lt HO264.out)) (Kd.R_lt HO268.out)) (Kd.R_lt HO270.out)) (Kd.R_lt HO273.out)) (Kd.R_lt HO276.out)) (below_size HB.out)); replace HO_6 := Aside0.mk (Kd.R_elder' HO_6.out (Kd.R_base ho0) hb); replace HO_8 := Aside0.mk (Kd.R_elder' HO_8.out (Kd.R_base ho0) hb); replace HO_9 := Aside0.mk (Kd.R_elder' HO_9.out (Kd.R_base ho0) hb); replace HO_10 := Aside0.mk (Kd.R_elder' HO_10.out (Kd.R_base ho0) hb); replace HO_12 := Aside0.mk (Kd.R_elder' HO_12.out (Kd.R_base ho0) hb); replace HO262 := Aside0.mk (Kd.R_elder' HO262.out (Kd.R_base ho0) hb); replace HO264 := Aside0.mk (Kd.R_elder' HO264.out (Kd.R_base ho0) hb); replace HO268 := Aside0.mk (Kd.R_elder' HO268.out (Kd.R_base ho0) hb); replace HO270 := Aside0.mk (Kd.R_elder' HO270.out (Kd.R_base ho0) hb); replace HO273 := Aside0.mk (Kd.R_elder' HO273.out (Kd.R_base ho0) hb); replace HO276 := Aside0.mk (Kd.R_elder' HO276.out (Kd.R_base ho0) hb); replace HB := Aside0.mk (below_step HB.out hb); clear hb ho0; obtain ⟨Ao39, co39, eo39⟩ := Kd.R_slice HO279.out; subst eo39) | ((with_reducible refine gate_callee (f := 139) rfl ?_); refine goesL_ (some 61) rfl rfl Tryz.func139 (by kernel_rfl) rfl #[.slice Ao39 t277.length co39, .slice Ao11 t238.length co11] rfl (by (try simp only [List.map_toArray, List.map_cons, List.map_nil]); rfl) ?_; (with_reducible refine (clepsydraref03_parted.calls _ _ t277 _ _ t238 t280 t281 _ ?side1 ?side2 ?side3 ?side4 A25.out).mono ?_); (case side1 => exact (Kd.R_reads' HO279.out).2.2); (case side2 => exact (Kd.R_reads' HO279.out).2.1); (case side3 => exact (Kd.R_reads' HO_6.out).2.2); (case side4 => exact (Kd.R_reads' HO_6.out).2.1); rintro e w40 ⟨v282, v284, rfl, ho0, ho1, hb⟩; refine ⟨_, rfl, ?_⟩; have HO283 := Aside0.mk (Kd.R_lower (Kd.R_new' (Kd.R_new' (Kd.R_new' (Kd.R_new' (Kd.R_new' (Kd.R_new' (Kd.R_new' (Kd.R_new' (Kd.R_new' (Kd.R_new' (Kd.R_new' (Kd.R_new' ho0 (Kd.R_lt HO_6.out)) (Kd.R_lt HO_8.out)) (Kd.R_lt HO_9.out)) (Kd.R_lt HO_10.out)) (Kd.R_lt HO_12.out)) (Kd.R_lt HO262.out)) (Kd.R_lt HO264.out)) (Kd.R_lt HO268.out)) (Kd.R_lt HO270.out)) (Kd.R_lt HO273.out)) (Kd.R_lt HO276.out)) (Kd.R_lt HO279.out)) (below_size HB.out)); have HO285 := Aside0.mk (Kd.R_lower (Kd.R_new' (Kd.R_new' (Kd.R_new' (Kd.R_new' (Kd.R_new' (Kd.R_new' (Kd.R_new' (Kd.R_new' (Kd.R_new' (Kd.R_new' (Kd.R_new' (Kd.R_new' ho1 (Kd.R_lt HO_6.out)) (Kd.R_lt HO_8.out)) (Kd.R_lt HO_9.out)) (Kd.R_lt HO_10.out)) (Kd.R_lt HO_12.out)) (Kd.R_lt HO262.out)) (Kd.R_lt HO264.out)) (Kd.R_lt HO268.out)) (Kd.R_lt HO270.out)) (Kd.R_lt HO273.out)) (Kd.R_lt HO276.out)) (Kd.R_lt HO279.out)) (below_size HB.out)); replace HO_6 := Aside0.mk (Kd.R_mono (Kd.R_told (Kd.R_told (Kd.R_old HO_6.out hb) (Kd.R_base ho0)) (Kd.R_base ho1)) (fun _ h_ => h_.1)); replace HO_8 := Aside0.mk (Kd.R_mono (Kd.R_told (Kd.R_told (Kd.R_old HO_8.out hb) (Kd.R_base ho0)) (Kd.R_base ho1)) (fun _ h_ => h_.1)); replace HO_9 := Aside0.mk (Kd.R_mono (Kd.R_told (Kd.R_told (Kd.R_old HO_9.out hb) (Kd.R_base ho0)) (Kd.R_base ho1)) (fun _ h_ => h_.1)); replace HO_10 := Aside0.mk (Kd.R_mono (Kd.R_told (Kd.R_told (Kd.R_old HO_10.out hb) (Kd.R_base ho0)) (Kd.R_base ho1)) (fun _ h_ => h_.1)); replace HO_12 := Aside0.mk (Kd.R_mono (Kd.R_told (Kd.R_told (Kd.R_old HO_12.out hb) (Kd.R_base ho0)) (Kd.R_base ho1)) (fun _ h_ => h_.1)); replace HO262 := Aside0.mk (Kd.R_mono (Kd.R_told (Kd.R_told (Kd.R_old HO262.out hb) (Kd.R_base ho0)) (Kd.R_base ho1)) (fun _ h_ => h_.1)); replace HO264 := Aside0.mk (Kd.R_mono (Kd.R_told (Kd.R_told (Kd.R_old HO264.out hb) (Kd.R_base ho0)) (Kd.R_base ho1)) (fun _ h_ => h_.1)); replace HO268 := Aside0.mk (Kd.R_mono (Kd.R_told (Kd.R_told (Kd.R_old HO268.out hb) (Kd.R_base ho0)) (Kd.R_base ho1)) (fun _ h_ => h_.1)); replace HO270 := Aside0.mk (Kd.R_mono (Kd.R_told (Kd.R_told (Kd.R_old HO270.out hb) (Kd.R_base ho0)) (Kd.R_base ho1)) (fun _ h_ => h_.1)); replace HO273 := Aside0.mk (Kd.R_mono (Kd.R_told (Kd.R_told (Kd.R_old HO273.out hb) (Kd.R_base ho0)) (Kd.R_base ho1)) (fun _ h_ => h_.1)); replace HO276 := Aside0.mk (Kd.R_mono (Kd.R_told (Kd.R_told (Kd.R_old HO276.out hb) (Kd.R_base ho0)) (Kd.R_base ho1)) (fun _ h_ => h_.1)); replace HO279 := Aside0.mk (Kd.R_mono (Kd.R_told (Kd.R_told (Kd.R_old HO279.out hb) (Kd.R_base ho0)) (Kd.R_base ho1)) (fun _ h_ => h_.1)); replace HB := Aside0.mk (below_step HB.out hb); clear hb ho0 ho1))
     go_roundg k1
     case measure => have := HK1.out; omega
     case rel => exact ⟨(t260), (x8_1), (x12_1), (t281), H', ⟨by have := HK1.out; omega⟩, ⟨by exact Kd.R_mono HO_6.out (fun _ hk => by grind)⟩, ⟨by exact Kd.R_mono HO264.out (fun _ hk => by (exact ⟨hk.1.1.1.1.1.1.1.1.1.1.1.2, ⟨hk.1.1.1.1.1.1.1.1.1.1.2, ⟨hk.1.1.1.1.1.1.1.2, hk.2⟩⟩⟩))⟩, ⟨by exact Kd.R_mono HO_8.out (fun _ hk => by grind)⟩, ⟨by exact Kd.R_mono HO_12.out (fun _ hk => by (exact ⟨hk.1.1.1.1.1.1.1.1.1.1, ⟨hk.1.1.1.1.1.1.1.2, ⟨hk.1.1.1.1.1.1.1.1.1.2.1, hk.2⟩⟩⟩))⟩, ⟨by exact Kd.R_mono HO285.out (fun _ hk => by (exact ⟨hk.1.1.1.1.1.1.1.1.1.1.1.2, ⟨hk.1.1.1.1.1.2, ⟨hk.1.1.1.1.1.1.1.1.1.1.2, hk.1.1.1.1.1.1.1.2⟩⟩⟩))⟩, ⟨HB.out⟩⟩
    ·rw [if_neg c19] at H
     have c19b0 : decide (0 < (x8_1.length : Int)) = false := decide_eq_false c19
     have c19b1 : decide (0 < x8_1.length) = false := decide_eq_false (by omega)
     clear c19
     obtain ⟨y286, hy286⟩ : ∃ y_ : List Int, y_ = (([1] : List Int)) := ⟨_, rfl⟩
     rw [← hy286] at H
     have Ny286 := Aside0.mk hy286
     clear hy286
     replace H := Option.bind_eq_some_iff.mp H
     obtain ⟨t289, A410, H⟩ := H
     try dsimp only at H
     have A41 := Aside0.mk A410
     clear A410
     by_cases c42 : t289 = 0
     ·rw [if_pos c42] at H
      have c42b0 : (t289 == 0) = true := beq_iff_eq.mpr c42
      have c42b1 : (t289 != 0) = false := bne_eq_false_iff_eq.mpr c42
      clear c42
      replace H := Option.bind_eq_some_iff.mp H
      obtain ⟨t290, A430, H⟩ := H
      try dsimp only at H
      have A43 := Aside0.mk A430
      clear A430
      simp only [Option.some.injEq, Prod.mk.injEq] at H
      obtain ⟨rfl, rfl⟩ := H
      obtain ⟨Ao44, co44, eo44⟩ := Kd.R_slice HO_8.out
      subst eo44
      go_wp2_with (first | ((with_reducible refine gate_dst (N := 69) rfl ?_); refine Kd.R_lit (Kd.int .i64) _ 3 ?hg (N := 69) ?hd (xs := ([1] : List Int)) (inner := [.int .i64 1]) (ok := fun _ => True) (okp := fun _ => True) ?hr ?hp (fun _ hk => hk) trivial (Below.refl _ _) (Nat.le_refl _) (by simp) ?_; (case hd => rfl); (case hg => rfl); (case hr => (go_simp; done)); (case hp => exact (Reps.one (show Kd.M (Kd.int .i64) _ _ _ 1 [.int .i64 1] from rfl) (Reps.none _ _))); intro v287 w45 ho46 hb hg_ hnew_; clear hg_ hnew_; ((rw [← Ny286.out] at ho46)); have HO288 := Aside0.mk (Kd.R_lower (Kd.R_new' (Kd.R_new' (Kd.R_new' (Kd.R_new' (Kd.R_new' ho46 (Kd.R_lt HO_6.out)) (Kd.R_lt HO_8.out)) (Kd.R_lt HO_9.out)) (Kd.R_lt HO_10.out)) (Kd.R_lt HO_12.out)) (below_size HB.out)); replace HO_6 := Aside0.mk (Kd.R_elder' HO_6.out (Kd.R_base ho46) hb); replace HO_8 := Aside0.mk (Kd.R_elder' HO_8.out (Kd.R_base ho46) hb); replace HO_9 := Aside0.mk (Kd.R_elder' HO_9.out (Kd.R_base ho46) hb); replace HO_10 := Aside0.mk (Kd.R_elder' HO_10.out (Kd.R_base ho46) hb); replace HO_12 := Aside0.mk (Kd.R_elder' HO_12.out (Kd.R_base ho46) hb); replace HB := Aside0.mk (below_step HB.out hb); clear hb ho46; obtain ⟨Ao47, co47, eo47⟩ := Kd.R_slice HO_9.out; subst eo47; obtain ⟨Ao48, co48, eo48⟩ := Kd.R_slice HO288.out; subst eo48) | ((with_reducible refine gate_callee (f := 136) rfl ?_); refine goesL_ (some 70) rfl rfl Tryz.func136 (by kernel_rfl) rfl #[.slice Ao47 x9_1.length co47, .slice Ao48 y286.length co48] rfl (by (try simp only [List.map_toArray, List.map_cons, List.map_nil]); rfl) ?_; (with_reducible refine (clepsydraref03_cmp.calls _ _ x9_1 _ _ y286 t289 _ ?side1 ?side2 ?side3 ?side4 A41.out).mono ?_); (case side1 => exact (Kd.R_reads' HO_9.out).2.2); (case side2 => exact (Kd.R_reads' HO_9.out).2.1); (case side3 => exact (Kd.R_reads' HO288.out).2.2); (case side4 => exact (Kd.R_reads' HO288.out).2.1); rintro e w' ⟨rfl, ⟨nd, rfl⟩⟩; refine ⟨_, rfl, ?_⟩; obtain ⟨Ao49, co49, eo49⟩ := Kd.R_slice HO_10.out; subst eo49) | ((with_reducible refine gate_callee (f := 143) rfl ?_); refine goesL_ (some 73) rfl rfl Tryz.func143 (by kernel_rfl) rfl #[.slice Ao49 x10_1.length co49] rfl (by (try simp only [List.map_toArray, List.map_cons, List.map_nil]); rfl) ?_; (with_reducible refine (clepsydraref03_Number.calls k1 (fun k_ => some k_ = (.slice Ao49 x10_1.length co49 : Value).ownBlock) (.slice Ao49 x10_1.length co49) x10_1 t290 w _ ?side1 ?side2 A43.out).mono ?_); (case side1 => repeat ((with_reducible first | exact HB.out | apply pw_below_drewN))); (case side2 => exact Kd.R_tight rfl HO_10.out); rintro e w50 ⟨v291, rfl, ho0, hb, hkp⟩; refine ⟨_, rfl, ?_⟩; replace HO_6 := Aside0.mk (Kd.R_mono (ok' := fun k_ => some k_ ≠ (.slice Ao44 x8_1.length co44 : Value).ownBlock ∧ some k_ ≠ (u12 : Value).ownBlock ∧ some k_ ≠ (.slice Ao48 y286.length co48 : Value).ownBlock) (Kd.R_keptB (HO_6.out) hkp (fun k_ hk_ hs_ => (hk_.1.2.1) hs_)) (fun k_ hk_ => ⟨hk_.1.1.1, hk_.1.1.2.2, hk_.1.2⟩)); replace HO_8 := Aside0.mk (Kd.R_mono (ok' := fun k_ => some k_ ≠ (.slice Ao11 t238.length co11 : Value).ownBlock ∧ some k_ ≠ (.slice Ao47 x9_1.length co47 : Value).ownBlock ∧ some k_ ≠ (u12 : Value).ownBlock ∧ some k_ ≠ (.slice Ao48 y286.length co48 : Value).ownBlock) (Kd.R_keptB (HO_8.out) hkp (fun k_ hk_ hs_ => (hk_.1.2.2.1) hs_)) (fun k_ hk_ => ⟨hk_.1.1.1, hk_.1.1.2.1, hk_.1.1.2.2.2, hk_.1.2⟩)); replace HO_9 := Aside0.mk (Kd.R_mono (ok' := fun k_ => some k_ ≠ (.slice Ao44 x8_1.length co44 : Value).ownBlock ∧ some k_ ≠ (u12 : Value).ownBlock ∧ some k_ ≠ (.slice Ao48 y286.length co48 : Value).ownBlock) (Kd.R_keptB (HO_9.out) hkp (fun k_ hk_ hs_ => (hk_.1.2.1) hs_)) (fun k_ hk_ => ⟨hk_.1.1.1, hk_.1.1.2.2, hk_.1.2⟩)); replace HO_12 := Aside0.mk (Kd.R_mono (ok' := fun k_ => some k_ ≠ (.slice Ao11 t238.length co11 : Value).ownBlock ∧ some k_ ≠ (.slice Ao44 x8_1.length co44 : Value).ownBlock ∧ some k_ ≠ (.slice Ao47 x9_1.length co47 : Value).ownBlock ∧ some k_ ≠ (.slice Ao48 y286.length co48 : Value).ownBlock) (Kd.R_keptB (HO_12.out) hkp (fun k_ hk_ hs_ => (hk_.1.2.2.2) hs_)) (fun k_ hk_ => ⟨hk_.1.1.1, hk_.1.1.2.1, hk_.1.1.2.2.1, hk_.1.2⟩)); replace HO288 := Aside0.mk (Kd.R_mono (ok' := fun k_ => some k_ ≠ (.slice Ao11 t238.length co11 : Value).ownBlock ∧ some k_ ≠ (.slice Ao44 x8_1.length co44 : Value).ownBlock ∧ some k_ ≠ (.slice Ao47 x9_1.length co47 : Value).ownBlock ∧ some k_ ≠ (u12 : Value).ownBlock) (Kd.R_keptB (HO288.out) hkp (fun k_ hk_ hs_ => (hk_.1.2) hs_)) (fun k_ hk_ => ⟨hk_.1.1.1.1.1.2, hk_.1.1.1.1.2, hk_.1.1.1.2, hk_.1.2⟩)); have HO292 := Aside0.mk (Kd.R_mono (ok' := fun k_ => True) ho0 (fun k_ hk_ => trivial)); replace HB := Aside0.mk (hb); clear HO_10; clear hb hkp ho0))
      go_ret2
      exact ⟨_, by rfl, by exact HO292.out, HB.out⟩
     ·rw [if_neg c42] at H
      have c42b0 : (t289 == 0) = false := beq_eq_false_iff_ne.mpr c42
      have c42b1 : (t289 != 0) = true := bne_iff_ne.mpr c42
      simp only [Option.some.injEq, Prod.mk.injEq] at H
      obtain ⟨rfl, rfl⟩ := H
      obtain ⟨Ao51, co51, eo51⟩ := Kd.R_slice HO_8.out
      subst eo51
      go_wp2_with (first | ((with_reducible refine gate_dst (N := 69) rfl ?_); refine Kd.R_lit (Kd.int .i64) _ 3 ?hg (N := 69) ?hd (xs := ([1] : List Int)) (inner := [.int .i64 1]) (ok := fun _ => True) (okp := fun _ => True) ?hr ?hp (fun _ hk => hk) trivial (Below.refl _ _) (Nat.le_refl _) (by simp) ?_; (case hd => rfl); (case hg => rfl); (case hr => (go_simp; done)); (case hp => exact (Reps.one (show Kd.M (Kd.int .i64) _ _ _ 1 [.int .i64 1] from rfl) (Reps.none _ _))); intro v287 w52 ho53 hb hg_ hnew_; clear hg_ hnew_; ((rw [← Ny286.out] at ho53)); have HO288 := Aside0.mk (Kd.R_lower (Kd.R_new' (Kd.R_new' (Kd.R_new' (Kd.R_new' (Kd.R_new' ho53 (Kd.R_lt HO_6.out)) (Kd.R_lt HO_8.out)) (Kd.R_lt HO_9.out)) (Kd.R_lt HO_10.out)) (Kd.R_lt HO_12.out)) (below_size HB.out)); replace HO_6 := Aside0.mk (Kd.R_elder' HO_6.out (Kd.R_base ho53) hb); replace HO_8 := Aside0.mk (Kd.R_elder' HO_8.out (Kd.R_base ho53) hb); replace HO_9 := Aside0.mk (Kd.R_elder' HO_9.out (Kd.R_base ho53) hb); replace HO_10 := Aside0.mk (Kd.R_elder' HO_10.out (Kd.R_base ho53) hb); replace HO_12 := Aside0.mk (Kd.R_elder' HO_12.out (Kd.R_base ho53) hb); replace HB := Aside0.mk (below_step HB.out hb); clear hb ho53; obtain ⟨Ao54, co54, eo54⟩ := Kd.R_slice HO_9.out; subst eo54; obtain ⟨Ao55, co55, eo55⟩ := Kd.R_slice HO288.out; subst eo55) | ((with_reducible refine gate_callee (f := 136) rfl ?_); refine goesL_ (some 70) rfl rfl Tryz.func136 (by kernel_rfl) rfl #[.slice Ao54 x9_1.length co54, .slice Ao55 y286.length co55] rfl (by (try simp only [List.map_toArray, List.map_cons, List.map_nil]); rfl) ?_; (with_reducible refine (clepsydraref03_cmp.calls _ _ x9_1 _ _ y286 t289 _ ?side1 ?side2 ?side3 ?side4 A41.out).mono ?_); (case side1 => exact (Kd.R_reads' HO_9.out).2.2); (case side2 => exact (Kd.R_reads' HO_9.out).2.1); (case side3 => exact (Kd.R_reads' HO288.out).2.2); (case side4 => exact (Kd.R_reads' HO288.out).2.1); rintro e w' ⟨rfl, ⟨nd, rfl⟩⟩; refine ⟨_, rfl, ?_⟩))
      go_ret2
      exact ⟨_, by rfl, by (exact Kd.R_nil _ _ _ _ _), by repeat ((with_reducible first | exact HB.out | apply pw_below_drewN))⟩
end Go.Proofs.YtdmglajfmfjmlaaGreat.Cr
