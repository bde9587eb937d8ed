/- Texts of this claim, joined: what its laws use. -/
import Derived.Test.YtdmglajfmfjmlaaB9E
import Derived.Lib.Bytes
import Derived.BigQuiet
import Derived.Lib.SliceRun
namespace Go.Proofs.Ytdmglajfmfjmlaa.Cp
open Go.RowKit Go.Proofs.YtdmglajfmfjmlaaW.PrintWords Go.Proofs.YtdmglajfmfjmlaaW.PrintLast Go.Proofs.YtdmglajfmfjmlaaW.PrintMore
attribute [local go_sem] max2_int min2_int max_two min_two max_three min_three max_four min_four   -- for this text's walks alone
set_option linter.unusedVariables false
set_option linter.unusedSimpArgs false
def slices_Clone_uint64_uint64.f (l0 : List Int) : Option (List Int) := if okN 262144 l0 then some l0 else none
theorem slices_Clone_uint64_uint64.calls (A0 : Option Addr) (c0 : Nat) (l0 : List Int) (r : List Int) (w : World) (hr0 : Kd.C (Kd.int .u64) w A0 l0.length l0) (hc0 : l0.length ≤ c0) (h : slices_Clone_uint64_uint64.f l0 = some r) :
    Calls Try.prog 52 #[.slice A0 l0.length c0] w fun e w' => ∃ v0_ : Value, e = .returned (v0_) ∧ Kd.R (Kd.int .u64) 40 w' w.heap.size (fun _ => True) v0_ r ∧ Below w.heap.size w w' := by
  exact clone64_giv hr0 hc0 h
def pkey_Public.f (l0_0 : List Int) (l0_1 : List Int) (l0_2 : List Int) : Option (List Int × List Int × List Int) := (slices_Clone_uint64_uint64.f l0_0).bind fun t103 => ((slices_Clone_uint64_uint64.f l0_1).bind fun t106 => (some (t103, t106, ([] : List Int))))
def pkey_Public.T1 : Bool × List (List Nat × List Nat) := (true, [([], []), ([0], [0]), ([1], [1]), ([], []), ([3], [3]), ([4, 2], [4]), ([2, 5], [2, 5]), ([6, 5, 0, 1, 2, 3, 4, 5, 6], [6])])
def pkey_Public.B1 : List Nat := [0, 1, 3, 0, 8, 31, 63, 127]
theorem pkey_Public.tab1 : rtab .any (opsOf Try.f15 1) = pkey_Public.T1 := by kernel_rfl
theorem pkey_Public.bits1 : waitsOk pkey_Public.T1.2 pkey_Public.B1 = true := by kernel_rfl
set_option maxHeartbeats 8000000 in
set_option maxRecDepth 100000 in
theorem pkey_Public.calls (A0_0 : Option Addr) (c0_0 : Nat) (l0_0 : List Int) (A0_1 : Option Addr) (c0_1 : Nat) (l0_1 : List Int) (A0_2 : Option Addr) (c0_2 : Nat) (l0_2 : List Int) (r1 : List Int) (r2 : List Int) (r3 : List Int) (w : World) (hr0_0 : Kd.C (Kd.int .u64) w A0_0 l0_0.length l0_0) (hc0_0 : l0_0.length ≤ c0_0) (hr0_1 : Kd.C (Kd.int .u64) w A0_1 l0_1.length l0_1) (hc0_1 : l0_1.length ≤ c0_1) (hr0_2 : Kd.C (Kd.int .u64) w A0_2 l0_2.length l0_2) (hc0_2 : l0_2.length ≤ c0_2) (h : pkey_Public.f l0_0 l0_1 l0_2 = some (r1, r2, r3)) :
    Calls Try.prog 15 #[.agg #[.slice A0_0 l0_0.length c0_0, .slice A0_1 l0_1.length c0_1, .slice A0_2 l0_2.length c0_2]] w fun e w' => ∃ v0_ v1_ v2_ : Value, e = .returned (.agg #[v0_, v1_, v2_]) ∧ Kd.R (Kd.int .u64) 40 w' w.heap.size (fun k_ => some k_ ≠ (v1_ : Value).ownBlock ∧ some k_ ≠ (v2_ : Value).ownBlock) v0_ r1 ∧ Kd.R (Kd.int .u64) 40 w' w.heap.size (fun k_ => some k_ ≠ (v0_ : Value).ownBlock ∧ some k_ ≠ (v2_ : Value).ownBlock) v1_ r2 ∧ Kd.R (Kd.int .u64) 40 w' w.heap.size (fun k_ => some k_ ≠ (v0_ : Value).ownBlock ∧ some k_ ≠ (v1_ : Value).ownBlock) v2_ r3 ∧ Below w.heap.size w w' := by
  have hu26 := Try.underlying26
  have HR0_0 := Aside0.mk hr0_0
  have HC0_0 := Aside0.mk hc0_0
  clear hr0_0 hc0_0
  have HR0_1 := Aside0.mk hr0_1
  have HC0_1 := Aside0.mk hc0_1
  clear hr0_1 hc0_1
  have HR0_2 := Aside0.mk hr0_2
  have HC0_2 := Aside0.mk hc0_2
  clear hr0_2 hc0_2
  have HB := Aside0.mk (Below.refl w.heap.size w)
  have H : ((slices_Clone_uint64_uint64.f l0_0).bind fun t103 => ((slices_Clone_uint64_uint64.f l0_1).bind fun t106 => (some (t103, t106, ([] : List Int))))) = some (r1, r2, r3) := h
  clear h
  replace H := Option.bind_eq_some_iff.mp H
  obtain ⟨t103, A20, H⟩ := H
  replace H : ((slices_Clone_uint64_uint64.f l0_1).bind fun t106 => (some (t103, t106, ([] : List Int)))) = some (r1, r2, r3) := H
  have A2 := Aside0.mk A20
  clear A20
  replace H := Option.bind_eq_some_iff.mp H
  obtain ⟨t106, A30, H⟩ := H
  replace H : (some (t103, t106, ([] : List Int))) = some (r1, r2, r3) := H
  have A3 := Aside0.mk A30
  clear A30
  simp only [Option.some.injEq, Prod.mk.injEq] at H
  obtain ⟨rfl, rfl, rfl⟩ := H
  go_enter Try.func15, Try.ntmps15
  try go_wp2_with (first | ((with_reducible refine gate_dst (N := 1) rfl ?_); refine box_event ?hg (N := 1) ?hd (cs := #[.slice A0_0 l0_0.length c0_0, .slice A0_1 l0_1.length c0_1, .slice A0_2 l0_2.length c0_2]) (t := 26) ?hr ?_; (case hd => rfl); (case hg => rfl); (case hr => first | (go_simp; done) | (go_simp; rfl)); intro gb101 hg w4 hbox hb; have n0_ := Aside0.mk (below_step (by repeat (first | (with_reducible first | exact HB.out | apply below_alloc | apply pw_below_drewN | apply below_drew1) | exact HB.out)) hb); have n1_ := Aside0.mk (hbox); have n2_ := Aside0.mk ((by rw [hg]; exact (below_size (by repeat (first | (with_reducible first | exact HB.out | apply below_alloc | apply pw_below_drewN | apply below_drew1) | exact HB.out))) : w.heap.size ≤ gb101)); have n3_ := Aside0.mk ((by rw [hg]; exact (below_size (by repeat (first | (with_reducible first | exact HB.out | apply below_alloc | apply pw_below_drewN | apply below_drew1) | exact HB.out))) : w.heap.size ≤ gb101)); clear HB; have HB := n0_; have BK101 := n1_; have GW101 := n2_; have GE101 := n3_; clear n0_ n1_ n2_ n3_; clear hb hbox hg) | ((with_reducible refine gate_dst (N := 2) rfl ?_); refine box_event ?hg (N := 2) ?hd (cs := #[.slice none 0 0, .slice none 0 0, .slice none 0 0]) (t := 26) ?hr ?_; (case hd => rfl); (case hg => rfl); (case hr => first | (go_simp; done) | (go_simp; rfl)); intro gb102 hg w5 hbox hb; have n0_ := Aside0.mk (blk_below (g := gb101) (o := .cells #[.slice A0_0 l0_0.length c0_0, .slice A0_1 l0_1.length c0_1, .slice A0_2 l0_2.length c0_2] 26 (0, 0)) (by (with_reducible repeat (first | refine blk_drewN ?_ _ | refine blk_drew ?_ | refine blk_alloc ?_ _)); exact BK101.out) hb); have n1_ := Aside0.mk (below_step (by repeat (first | (with_reducible first | exact HB.out | apply below_alloc | apply pw_below_drewN | apply below_drew1 | refine below_set ?_ GE101.out) | exact HB.out)) hb); have n2_ := Aside0.mk (hbox); have n3_ := Aside0.mk ((by rw [hg]; exact (below_size (by repeat (first | (with_reducible first | exact HB.out | apply below_alloc | apply pw_below_drewN | apply below_drew1 | refine below_set ?_ GE101.out) | exact HB.out))) : w.heap.size ≤ gb102)); have n4_ := Aside0.mk ((by rw [hg]; exact (below_size (by repeat (first | (with_reducible first | exact HB.out | apply below_alloc | apply pw_below_drewN | apply below_drew1 | refine below_set ?_ GE101.out) | exact HB.out))) : w.heap.size ≤ gb102)); have n5_ := Aside0.mk ((by rw [hg]; exact Nat.ne_of_lt (blk_lt (g := gb101) (o := .cells #[.slice A0_0 l0_0.length c0_0, .slice A0_1 l0_1.length c0_1, .slice A0_2 l0_2.length c0_2] 26 (0, 0)) (by (with_reducible repeat (first | refine blk_drewN ?_ _ | refine blk_drew ?_ | refine blk_alloc ?_ _)); exact BK101.out)) : gb101 ≠ gb102)); have n6_ := Aside0.mk ((by rw [hg]; exact Nat.ne_of_gt (blk_lt (g := gb101) (o := .cells #[.slice A0_0 l0_0.length c0_0, .slice A0_1 l0_1.length c0_1, .slice A0_2 l0_2.length c0_2] 26 (0, 0)) (by (with_reducible repeat (first | refine blk_drewN ?_ _ | refine blk_drew ?_ | refine blk_alloc ?_ _)); exact BK101.out)) : gb102 ≠ gb101)); clear BK101; clear HB; have BK101 := n0_; have HB := n1_; have BK102 := n2_; have GW102 := n3_; have GE102 := n4_; have NB101_102 := n5_; have NB102_101 := n6_; clear n0_ n1_ n2_ n3_ n4_ n5_ n6_; clear hb hbox hg))
  have n0_ := Aside0.mk (blk_drew BK101.out)
  have n1_ := Aside0.mk (blk_drew BK102.out)
  have n2_ := Aside0.mk (below_drew1 HB.out)
  clear BK101
  clear BK102
  clear HB
  have BK101 := n0_
  have BK102 := n1_
  have HB := n2_
  clear n0_ n1_ n2_
  refine start_ (n := 8) (S := fun w' => w'.cell? ⟨gb101, 0, none⟩ = some (.slice A0_0 l0_0.length c0_0) ∧ w'.cell? ⟨gb101, 1, none⟩ = some (.slice A0_1 l0_1.length c0_1) ∧ w'.cell? ⟨gb101, 2, none⟩ = some (.slice A0_2 l0_2.length c0_2)) (ds := []) #[false, false, false, false, false, false, false, false] (by kernel_rfl) rfl rfl ⟨(blk_cell BK101.out 0).trans rfl, (blk_cell BK101.out 1).trans rfl, (blk_cell BK101.out 2).trans rfl⟩ (fun hHeld => ?_); refine with_tabW pkey_Public.tab1 pkey_Public.bits1 (fun HT_ HW_ => ?_)
  generalize w5.drew = w6 at BK101 BK102 HB hHeld ⊢
  refine pure_ (i := 0) (N := some 3) (v := ?_) (a' := ?_) #[true, false, false, false, false, false, false, false] rfl rfl (any_of HT_.out (by kernel_rfl)) (fun _ _ _ h => h) (Or.inl ⟨by rfl, ?_⟩) ?_ ?_
  rotate_left
  · intro w'
    go_simp
    with_reducible rfl
  rotate_left
  · simp only [Act.put, List.setIfInBounds_toArray, List.set_cons_zero, List.set_cons_succ, i64_w, i32_w]
    rfl
  refine pure_ (i := 3) (N := some 6) (v := ?_) (a' := ?_) #[true, false, false, true, false, false, false, false] rfl rfl (any_of HT_.out (by kernel_rfl)) (fun _ _ _ h => h) (Or.inl ⟨by rfl, ?_⟩) ?_ ?_
  rotate_left
  · intro w'
    go_simp
    with_reducible rfl
  rotate_left
  · simp only [Act.put, List.setIfInBounds_toArray, List.set_cons_zero, List.set_cons_succ, i64_w, i32_w]
    rfl
  refine take_ (i := 1) (N := some 4) (v := ?_) (a' := ?_) #[true, true, false, true, false, false, false, false] rfl rfl (take_ofW HT_.out HW_.out (by kernel_rfl)) (fun _ _ _ h => h) (Or.inl ⟨by rfl, ?_⟩) hHeld ?_ ?_
  rotate_left
  · rintro w' ⟨s0, s1, s2⟩
    go_simp
    with_reducible rfl
  rotate_left
  · simp only [Act.put, List.setIfInBounds_toArray, List.set_cons_zero, List.set_cons_succ, i64_w, i32_w]
    rfl
  refine take_ (i := 4) (N := some 7) (v := ?_) (a' := ?_) #[true, true, false, true, true, false, false, false] rfl rfl (take_ofW HT_.out HW_.out (by kernel_rfl)) (fun _ _ _ h => h) (Or.inl ⟨by rfl, ?_⟩) hHeld ?_ ?_
  rotate_left
  · rintro w' ⟨s0, s1, s2⟩
    go_simp
    with_reducible rfl
  rotate_left
  · simp only [Act.put, List.setIfInBounds_toArray, List.set_cons_zero, List.set_cons_succ, i64_w, i32_w]
    rfl
  refine one_ (i := 2) (N := some 5) #[true, true, true, true, true, false, false, false] rfl rfl (one_of HT_.out (by kernel_rfl)) (by decide) (fun K hK => ?_)
  refine goes_ Try.func52 (by kernel_rfl) rfl #[.slice A0_0 l0_0.length c0_0] (by rfl) rfl rfl (by (try simp only [List.map_toArray, List.map_cons, List.map_nil]); first | done | rfl | (simp only [List.length_drop, List.length_take]; rfl)) ?_
  with_reducible refine (slices_Clone_uint64_uint64.calls _ _ l0_0 t103 _ ?side1 ?side2 A2.out).mono ?_
  (case side1 => repeat (first | exact (Kd.C_below HR0_0.out HB.out) | (with_reducible refine Kd.C_alloc ?_ _) | (with_reducible refine Kd.C_drewN ?_ _) | (with_reducible refine Kd.C_drew ?_)))
  (case side2 => exact HC0_0.out)
  rintro e w7 ⟨v104, rfl, ho0, hb⟩
  refine ⟨_, rfl, ?_⟩
  have n0_ := Aside0.mk (Kd.R_lower ho0 (below_size (by repeat (first | (with_reducible first | exact HB.out | apply below_alloc | apply pw_below_drewN | apply below_drew1 | refine below_set ?_ GE101.out | refine below_set ?_ GE102.out) | exact HB.out))))
  have n1_ := Aside0.mk (blk_below (g := gb101) (o := .cells #[.slice A0_0 l0_0.length c0_0, .slice A0_1 l0_1.length c0_1, .slice A0_2 l0_2.length c0_2] 26 (0, 0)) (by (with_reducible repeat (first | refine blk_drewN ?_ _ | refine blk_drew ?_ | refine blk_alloc ?_ _)); exact BK101.out) hb)
  have n2_ := Aside0.mk (blk_below (g := gb102) (o := .cells #[.slice none 0 0, .slice none 0 0, .slice none 0 0] 26 (0, 0)) (by (with_reducible repeat (first | refine blk_drewN ?_ _ | refine blk_drew ?_ | refine blk_alloc ?_ _)); exact BK102.out) hb)
  have n3_ := Aside0.mk (below_step (by repeat (first | (with_reducible first | exact HB.out | apply below_alloc | apply pw_below_drewN | apply below_drew1 | refine below_set ?_ GE101.out | refine below_set ?_ GE102.out) | exact HB.out)) hb)
  clear BK101
  clear BK102
  clear HB
  have HO105 := n0_
  have BK101 := n1_
  have BK102 := n2_
  have HB := n3_
  clear n0_ n1_ n2_ n3_
  (try clear hb)
  (try clear hb2)
  (try clear hk)
  (try clear hi)
  (try clear ho0)
  refine hK.out _ _ ⟨(blk_cell BK101.out 0).trans rfl, (blk_cell BK101.out 1).trans rfl, (blk_cell BK101.out 2).trans rfl⟩ (fun hHeld => ?_)
  clear hK K
  refine norm_ (a' := ?_) ?_ ?_
  rotate_left
  · show Act.put _ (some 5) _ = _
    simp only [Act.put, List.setIfInBounds_toArray, List.set_cons_zero, List.set_cons_succ, i64_w, i32_w]
    rfl
  refine one_ (i := 5) (N := some 8) #[true, true, true, true, true, true, false, false] rfl rfl (one_of HT_.out (by kernel_rfl)) (by decide) (fun K hK => ?_)
  refine goes_ Try.func52 (by kernel_rfl) rfl #[.slice A0_1 l0_1.length c0_1] (by rfl) rfl rfl (by (try simp only [List.map_toArray, List.map_cons, List.map_nil]); first | done | rfl | (simp only [List.length_drop, List.length_take]; rfl)) ?_
  with_reducible refine (slices_Clone_uint64_uint64.calls _ _ l0_1 t106 _ ?side1 ?side2 A3.out).mono ?_
  (case side1 => repeat (first | exact (Kd.C_below HR0_1.out HB.out) | (with_reducible refine Kd.C_alloc ?_ _) | (with_reducible refine Kd.C_drewN ?_ _) | (with_reducible refine Kd.C_drew ?_)))
  (case side2 => exact HC0_1.out)
  rintro e w8 ⟨v107, rfl, ho0, hb⟩
  refine ⟨_, rfl, ?_⟩
  have n0_ := Aside0.mk (Kd.R_elder' (by (with_reducible repeat (first | apply Kd.R_alloc | apply Kd.R_drewN | apply Kd.R_drew)); exact HO105.out) (Kd.R_base ho0) hb)
  have n1_ := Aside0.mk (Kd.R_lower (Kd.R_new' ho0 (Kd.R_lt (by (with_reducible repeat (first | apply Kd.R_alloc | apply Kd.R_drewN | apply Kd.R_drew)); exact HO105.out))) (below_size (by repeat (first | (with_reducible first | exact HB.out | apply below_alloc | apply pw_below_drewN | apply below_drew1 | refine below_set ?_ GE101.out | refine below_set ?_ GE102.out) | exact HB.out))))
  have n2_ := Aside0.mk (blk_below (g := gb101) (o := .cells #[.slice A0_0 l0_0.length c0_0, .slice A0_1 l0_1.length c0_1, .slice A0_2 l0_2.length c0_2] 26 (0, 0)) (by (with_reducible repeat (first | refine blk_drewN ?_ _ | refine blk_drew ?_ | refine blk_alloc ?_ _)); exact BK101.out) hb)
  have n3_ := Aside0.mk (blk_below (g := gb102) (o := .cells #[.slice none 0 0, .slice none 0 0, .slice none 0 0] 26 (0, 0)) (by (with_reducible repeat (first | refine blk_drewN ?_ _ | refine blk_drew ?_ | refine blk_alloc ?_ _)); exact BK102.out) hb)
  have n4_ := Aside0.mk (below_step (by repeat (first | (with_reducible first | exact HB.out | apply below_alloc | apply pw_below_drewN | apply below_drew1 | refine below_set ?_ GE101.out | refine below_set ?_ GE102.out) | exact HB.out)) hb)
  clear HO105
  clear BK101
  clear BK102
  clear HB
  have HO105 := n0_
  have HO108 := n1_
  have BK101 := n2_
  have BK102 := n3_
  have HB := n4_
  clear n0_ n1_ n2_ n3_ n4_
  (try clear hb)
  (try clear hb2)
  (try clear hk)
  (try clear hi)
  (try clear ho0)
  obtain ⟨Ao9, co9, eo9⟩ := Kd.R_slice HO108.out
  (first | subst eo9 | (injection eo9 with f1_ f2_ f3_; have f4_ := f1_.symm; have f5_ := f3_.symm; clear f1_ f2_ f3_; subst f4_; subst f5_))
  obtain ⟨Ao10, co10, eo10⟩ := Kd.R_slice HO105.out
  (first | subst eo10 | (injection eo10 with f1_ f2_ f3_; have f4_ := f1_.symm; have f5_ := f3_.symm; clear f1_ f2_ f3_; subst f4_; subst f5_))
  refine hK.out _ _ ⟨(blk_cell BK101.out 0).trans rfl, (blk_cell BK101.out 1).trans rfl, (blk_cell BK101.out 2).trans rfl⟩ (fun hHeld => ?_)
  clear hK K
  refine norm_ (a' := ?_) ?_ ?_
  rotate_left
  · show Act.put _ (some 8) _ = _
    simp only [Act.put, List.setIfInBounds_toArray, List.set_cons_zero, List.set_cons_succ, i64_w, i32_w]
    rfl
  refine pure_ (i := 6) (N := some 9) (v := ?_) (a' := ?_) #[true, true, true, true, true, true, true, false] rfl rfl (any_of HT_.out (by kernel_rfl)) (fun _ _ _ h => h) (Or.inl ⟨by rfl, ?_⟩) ?_ ?_
  rotate_left
  · intro w'
    go_simp
    with_reducible rfl
  rotate_left
  · simp only [Act.put, List.setIfInBounds_toArray, List.set_cons_zero, List.set_cons_succ, i64_w, i32_w]
    rfl
  refine one_ (i := 7) (N := none) #[true, true, true, true, true, true, true, true] rfl rfl (one_of HT_.out (by kernel_rfl)) (by decide) (fun K hK => ?_)
  have hs11 : w8.cell? ⟨gb102, 0, none⟩ = some (.slice none 0 0) := (blk_cell BK102.out 0).trans rfl
  have hfs11 := blk_frozen BK102.out 0
  have hns11_0 := NB101_102.out
  have hms11_0 := NB102_101.out
  have hs12 : w8.cell? ⟨gb102, 1, none⟩ = some (.slice none 0 0) := (blk_cell BK102.out 1).trans rfl
  have hfs12 := blk_frozen BK102.out 1
  have hns12_0 := NB101_102.out
  have hms12_0 := NB102_101.out
  have hs13 : w8.cell? ⟨gb102, 2, none⟩ = some (.slice none 0 0) := (blk_cell BK102.out 2).trans rfl
  have hfs13 := blk_frozen BK102.out 2
  have hns13_0 := NB101_102.out
  have hms13_0 := NB102_101.out
  refine skip_ (w1 := ?_) (by rfl) rfl ?_ ?_
  rotate_left
  · go_simp
    rfl
  refine hK.out _ _ ⟨((cell_far (p := ⟨gb102, _, none⟩) NB101_102.out _).trans (((cell_far (p := ⟨gb102, _, none⟩) NB101_102.out _).trans (((cell_far (p := ⟨gb102, _, none⟩) NB101_102.out _).trans (hHeld.1)))))), ((cell_far (p := ⟨gb102, _, none⟩) NB101_102.out _).trans (((cell_far (p := ⟨gb102, _, none⟩) NB101_102.out _).trans (((cell_far (p := ⟨gb102, _, none⟩) NB101_102.out _).trans (hHeld.2.1)))))), ((cell_far (p := ⟨gb102, _, none⟩) NB101_102.out _).trans (((cell_far (p := ⟨gb102, _, none⟩) NB101_102.out _).trans (((cell_far (p := ⟨gb102, _, none⟩) NB101_102.out _).trans (hHeld.2.2))))))⟩ (fun hHeld => ?_)
  clear hK K
  refine done_ (done_of HT_.out (by kernel_rfl)) ?_
  try go_wp2
  refine bodyPost_ret (results_cell_row rfl _ _ gb102 26 #[.slice Ao10 t103.length co10, .slice Ao9 t106.length co9, .slice none 0 0] (0, 0) _ rfl (by (with_reducible repeat (first | refine blk_drewN ?_ _ | refine blk_drew ?_ | refine blk_alloc ?_ _)); refine blk_put (cs := #[.slice Ao10 t103.length co10, .slice Ao9 t106.length co9, .slice none 0 0]) ?_ 2 _ rfl; (with_reducible repeat (first | refine blk_drewN ?_ _ | refine blk_drew ?_ | refine blk_alloc ?_ _)); refine blk_put (cs := #[.slice Ao10 t103.length co10, .slice none 0 0, .slice none 0 0]) ?_ 1 _ rfl; (with_reducible repeat (first | refine blk_drewN ?_ _ | refine blk_drew ?_ | refine blk_alloc ?_ _)); refine blk_put (cs := #[.slice none 0 0, .slice none 0 0, .slice none 0 0]) ?_ 0 _ rfl; (with_reducible repeat (first | refine blk_drewN ?_ _ | refine blk_drew ?_ | refine blk_alloc ?_ _)); exact BK102.out) Try.underlying26 rfl (by kernel_rfl)) rfl ?_
  exact ⟨_, _, _, by first | rfl | (simp [errW_none, errW_some] <;> rfl) | (simp [*, errW_none, errW_some] <;> rfl), by (with_reducible repeat (first | apply Kd.R_alloc | apply Kd.R_drewN | apply Kd.R_drew)); exact Kd.R_mono (Kd.R_far (p := ⟨gb102, 2, none⟩) (Kd.R_far (p := ⟨gb102, 1, none⟩) (Kd.R_far (p := ⟨gb102, 0, none⟩) (Kd.R_types HO105.out BK102.out (by decide)) (fun _ hk => hk.2) (.slice Ao10 t103.length co10)) (fun _ hk => hk.2) (.slice Ao9 t106.length co9)) (fun _ hk => hk.2) (.slice none 0 0)) (fun _ hk => ⟨hk.1.2, (by simp [Value.ownBlock])⟩), by (with_reducible repeat (first | apply Kd.R_alloc | apply Kd.R_drewN | apply Kd.R_drew)); exact Kd.R_mono (Kd.R_far (p := ⟨gb102, 2, none⟩) (Kd.R_far (p := ⟨gb102, 1, none⟩) (Kd.R_far (p := ⟨gb102, 0, none⟩) (Kd.R_types HO108.out BK102.out (by decide)) (fun _ hk => hk.2) (.slice Ao10 t103.length co10)) (fun _ hk => hk.2) (.slice Ao9 t106.length co9)) (fun _ hk => hk.2) (.slice none 0 0)) (fun _ hk => ⟨hk.1.2, (by simp [Value.ownBlock])⟩), by first | exact Kd.R_nil _ _ _ _ _ | exact Kd.N_nil _ _ _ _ _ | exact Kd.V_nil _ _ _ _ _ | exact Kd.Q_nil _ _ _ _ _ | exact Kd.S_nil _ _ _ _ _, by repeat (first | (with_reducible first | exact HB.out | apply below_alloc | apply pw_below_drewN | apply below_drew1 | refine below_set ?_ GE101.out | refine below_set ?_ GE102.out) | exact HB.out)⟩
def pkey_Size.f (l0_0 : List Int) (l0_1 : List Int) (l0_2 : List Int) : Option (Int) := Ck.pkey_Size.f l0_0 l0_1 l0_2
theorem pkey_Size.calls (A0_0 : Option Addr) (c0_0 : Nat) (l0_0 : List Int) (A0_1 : Option Addr) (c0_1 : Nat) (l0_1 : List Int) (A0_2 : Option Addr) (c0_2 : Nat) (l0_2 : List Int) (r : Int) (w : World) (hr0_0 : Kd.C (Kd.int .u64) w A0_0 l0_0.length l0_0) (hc0_0 : l0_0.length ≤ c0_0) (hr0_1 : Kd.C (Kd.int .u64) w A0_1 l0_1.length l0_1) (hc0_1 : l0_1.length ≤ c0_1) (hr0_2 : Kd.C (Kd.int .u64) w A0_2 l0_2.length l0_2) (hc0_2 : l0_2.length ≤ c0_2) (h : pkey_Size.f l0_0 l0_1 l0_2 = some r) :
    Calls Try.prog 17 #[.agg #[.slice A0_0 l0_0.length c0_0, .slice A0_1 l0_1.length c0_1, .slice A0_2 l0_2.length c0_2]] w fun e w' => e = .returned (.int .i64 r) ∧ Below w.heap.size w w' := by
  exact Ck.pkey_Size.calls _ _ _ _ _ _ _ _ _ _ _ hr0_0 hc0_0 hr0_1 hc0_1 hr0_2 hc0_2 h
def nat_Bits.f (l0 : List Int) : Option (Int) := if okN 262144 l0 then some ((blen (nI l0) : Nat) : Int) else none
theorem nat_Bits.calls (A0 : Option Addr) (c0 : Nat) (l0 : List Int) (r : Int) (w : World) (hr0 : Kd.C (Kd.int .u64) w A0 l0.length l0) (hc0 : l0.length ≤ c0) (h : nat_Bits.f l0 = some r) :
    Calls Try.prog 19 #[.slice A0 l0.length c0] w fun e w' => e = .returned (.int .i64 r) ∧ Below w.heap.size w w' := by
  exact bits_giv hr0 hc0 h
def pkey_Right.f (l0_0 : List Int) (l0_1 : List Int) (l0_2 : List Int) : Option (Int) := Ck.pkey_Right.f l0_0 l0_1 l0_2
theorem pkey_Right.calls (A0_0 : Option Addr) (c0_0 : Nat) (l0_0 : List Int) (A0_1 : Option Addr) (c0_1 : Nat) (l0_1 : List Int) (A0_2 : Option Addr) (c0_2 : Nat) (l0_2 : List Int) (r : Int) (w : World) (hr0_0 : Kd.C (Kd.int .u64) w A0_0 l0_0.length l0_0) (hc0_0 : l0_0.length ≤ c0_0) (hr0_1 : Kd.C (Kd.int .u64) w A0_1 l0_1.length l0_1) (hc0_1 : l0_1.length ≤ c0_1) (hr0_2 : Kd.C (Kd.int .u64) w A0_2 l0_2.length l0_2) (hc0_2 : l0_2.length ≤ c0_2) (h : pkey_Right.f l0_0 l0_1 l0_2 = some r) :
    Calls Try.prog 20 #[.agg #[.slice A0_0 l0_0.length c0_0, .slice A0_1 l0_1.length c0_1, .slice A0_2 l0_2.length c0_2]] w fun e w' => e = .returned (.int .i64 r) ∧ Below w.heap.size w w' := by
  exact Ck.pkey_Right.calls _ _ _ _ _ _ _ _ _ _ _ hr0_0 hc0_0 hr0_1 hc0_1 hr0_2 hc0_2 h
def modn_Pow.f (l0 : List Int) (l1 : List Int) (l2 : List Int) : Option (List Int × Int) := if okN 4096 l0 ∧ okN 4096 l1 ∧ okN 1024 l2 then some (powR (nI l0) (nI l1) (nI l2)) else none
theorem modn_Pow.calls (A0 : Option Addr) (c0 : Nat) (l0 : List Int) (A1 : Option Addr) (c1 : Nat) (l1 : List Int) (A2 : Option Addr) (c2 : Nat) (l2 : List Int) (r1 : List Int) (r2 : Int) (w : World) (hr0 : Kd.C (Kd.int .u64) w A0 l0.length l0) (hc0 : l0.length ≤ c0) (hr1 : Kd.C (Kd.int .u64) w A1 l1.length l1) (hc1 : l1.length ≤ c1) (hr2 : Kd.C (Kd.int .u64) w A2 l2.length l2) (hc2 : l2.length ≤ c2) (h : modn_Pow.f l0 l1 l2 = some (r1, r2)) :
    Calls Try.prog 21 #[.slice A0 l0.length c0, .slice A1 l1.length c1, .slice A2 l2.length c2] w fun e w' => ∃ v0_ : Value, e = .returned (.tuple #[v0_, .int .i64 r2]) ∧ Kd.R (Kd.int .u64) 40 w' w.heap.size (fun _ => True) v0_ r1 ∧ Below w.heap.size w w' := by
  exact pow_giv hr0 hc0 hr1 hc1 hr2 hc2 h
def nat_Read.f (l0 : List Int) : Option (List Int) := if okB l0 ∧ l0.length ≤ 2097152 then some (ofN (beV l0)) else none
theorem nat_Read.calls (A0 : Option Addr) (c0 : Nat) (l0 : List Int) (r : List Int) (w : World) (hr0 : Kd.C (Kd.int .u8) w A0 l0.length l0) (hc0 : l0.length ≤ c0) (h : nat_Read.f l0 = some r) :
    Calls Try.prog 90 #[.slice A0 l0.length c0] w fun e w' => ∃ v0_ : Value, e = .returned (v0_) ∧ Kd.R (Kd.int .u64) 40 w' w.heap.size (fun _ => True) v0_ r ∧ Below w.heap.size w w' := by
  exact read_giv hr0 hc0 h
def nat_Write.f (l0 : List Int) (a1 : Int) : Option (List Int × Int) := if okN 262144 l0 then some (writeR (nI l0) a1) else none
theorem nat_Write.calls (A0 : Option Addr) (c0 : Nat) (l0 : List Int) (a1 : Int) (r1 : List Int) (r2 : Int) (w : World) (hr0 : Kd.C (Kd.int .u64) w A0 l0.length l0) (hc0 : l0.length ≤ c0) (h : nat_Write.f l0 a1 = some (r1, r2)) :
    Calls Try.prog 91 #[.slice A0 l0.length c0, .int .i64 a1] w fun e w' => ∃ v0_ : Value, e = .returned (.tuple #[v0_, .int .i64 r2]) ∧ Kd.R (Kd.int .u8) 5 w' w.heap.size (fun _ => True) v0_ r1 ∧ Below w.heap.size w w' := by
  exact write_giv hr0 hc0 h
def pkey_work.f (l0_0 : List Int) (l0_1 : List Int) (l0_2 : List Int) (l1 : List Int) (l2 : List Int) : Option (List Int) := (nat_Read.f l1).bind fun t110 => ((modn_Pow.f t110 l2 l0_0).bind fun bt113 => ((pkey_Size.f l0_0 l0_1 l0_2).bind fun t117 => ((nat_Write.f bt113.1 t117).bind fun bt118 => (some bt118.1))))
def pkey_work.T1 : Bool × List (List Nat × List Nat) := (true, [([], []), ([0], [0]), ([], []), ([], []), ([3], [3]), ([1, 2, 4, 1], [1, 2, 4]), ([5], [5]), ([6], [6]), ([6], [6]), ([7, 5, 0, 1, 2, 3, 4, 5, 6, 7], [7]), ([8, 9, 0, 1, 2, 3, 4, 5, 6, 7, 8, 9], [8])])
def pkey_work.B1 : List Nat := [0, 1, 0, 0, 8, 31, 63, 127, 127, 255, 1023]
theorem pkey_work.tab1 : rtab .any (opsOf Try.f49 1) = pkey_work.T1 := by kernel_rfl
theorem pkey_work.bits1 : waitsOk pkey_work.T1.2 pkey_work.B1 = true := by kernel_rfl
set_option maxHeartbeats 8000000 in
set_option maxRecDepth 100000 in
theorem pkey_work.calls (A0_0 : Option Addr) (c0_0 : Nat) (l0_0 : List Int) (A0_1 : Option Addr) (c0_1 : Nat) (l0_1 : List Int) (A0_2 : Option Addr) (c0_2 : Nat) (l0_2 : List Int) (A1 : Option Addr) (c1 : Nat) (l1 : List Int) (A2 : Option Addr) (c2 : Nat) (l2 : List Int) (r : List Int) (w : World) (hr0_0 : Kd.C (Kd.int .u64) w A0_0 l0_0.length l0_0) (hc0_0 : l0_0.length ≤ c0_0) (hr0_1 : Kd.C (Kd.int .u64) w A0_1 l0_1.length l0_1) (hc0_1 : l0_1.length ≤ c0_1) (hr0_2 : Kd.C (Kd.int .u64) w A0_2 l0_2.length l0_2) (hc0_2 : l0_2.length ≤ c0_2) (hr1 : Kd.C (Kd.int .u8) w A1 l1.length l1) (hc1 : l1.length ≤ c1) (hr2 : Kd.C (Kd.int .u64) w A2 l2.length l2) (hc2 : l2.length ≤ c2) (h : pkey_work.f l0_0 l0_1 l0_2 l1 l2 = some r) :
    Calls Try.prog 49 #[.agg #[.slice A0_0 l0_0.length c0_0, .slice A0_1 l0_1.length c0_1, .slice A0_2 l0_2.length c0_2], .slice A1 l1.length c1, .slice A2 l2.length c2] w fun e w' => ∃ v0_ : Value, e = .returned (v0_) ∧ Kd.R (Kd.int .u8) 5 w' w.heap.size (fun _ => True) v0_ r ∧ Below w.heap.size w w' := by
  have hu26 := Try.underlying26
  have HR0_0 := Aside0.mk hr0_0
  have HC0_0 := Aside0.mk hc0_0
  clear hr0_0 hc0_0
  have HR0_1 := Aside0.mk hr0_1
  have HC0_1 := Aside0.mk hc0_1
  clear hr0_1 hc0_1
  have HR0_2 := Aside0.mk hr0_2
  have HC0_2 := Aside0.mk hc0_2
  clear hr0_2 hc0_2
  have HR1 := Aside0.mk hr1
  have HC1 := Aside0.mk hc1
  clear hr1 hc1
  have HR2 := Aside0.mk hr2
  have HC2 := Aside0.mk hc2
  clear hr2 hc2
  have HB := Aside0.mk (Below.refl w.heap.size w)
  have H : ((nat_Read.f l1).bind fun t110 => ((modn_Pow.f t110 l2 l0_0).bind fun bt113 => ((pkey_Size.f l0_0 l0_1 l0_2).bind fun t117 => ((nat_Write.f bt113.1 t117).bind fun bt118 => (some bt118.1))))) = some r := h
  clear h
  replace H := Option.bind_eq_some_iff.mp H
  obtain ⟨t110, A40, H⟩ := H
  replace H : ((modn_Pow.f t110 l2 l0_0).bind fun bt113 => ((pkey_Size.f l0_0 l0_1 l0_2).bind fun t117 => ((nat_Write.f bt113.1 t117).bind fun bt118 => (some bt118.1)))) = some r := H
  have A4 := Aside0.mk A40
  clear A40
  replace H := Option.bind_eq_some_iff.mp H
  obtain ⟨⟨t113, t114⟩, A50, H⟩ := H
  replace H : ((pkey_Size.f l0_0 l0_1 l0_2).bind fun t117 => ((nat_Write.f t113 t117).bind fun bt118 => (some bt118.1))) = some r := H
  have A5 := Aside0.mk A50
  clear A50
  replace H := Option.bind_eq_some_iff.mp H
  obtain ⟨t117, A60, H⟩ := H
  replace H : ((nat_Write.f t113 t117).bind fun bt118 => (some bt118.1)) = some r := H
  have A6 := Aside0.mk A60
  clear A60
  replace H := Option.bind_eq_some_iff.mp H
  obtain ⟨⟨t118, t119⟩, A70, H⟩ := H
  replace H : (some t118) = some r := H
  have A7 := Aside0.mk A70
  clear A70
  obtain rfl := Option.some.inj H
  simp only [Option.some.injEq, Prod.mk.injEq] at H
  obtain ⟨rfl⟩ := H
  go_enter Try.func49, Try.ntmps49
  try go_wp2_with (first | ((with_reducible refine gate_dst (N := 3) rfl ?_); refine box_event ?hg (N := 3) ?hd (cs := #[.slice A0_0 l0_0.length c0_0, .slice A0_1 l0_1.length c0_1, .slice A0_2 l0_2.length c0_2]) (t := 26) ?hr ?_; (case hd => rfl); (case hg => rfl); (case hr => first | (go_simp; done) | (go_simp; rfl)); intro gb109 hg w8 hbox hb; have n0_ := Aside0.mk (below_step (by repeat (first | (with_reducible first | exact HB.out | apply below_alloc | apply pw_below_drewN | apply below_drew1) | exact HB.out)) hb); have n1_ := Aside0.mk (hbox); have n2_ := Aside0.mk ((by rw [hg]; exact (below_size (by repeat (first | (with_reducible first | exact HB.out | apply below_alloc | apply pw_below_drewN | apply below_drew1) | exact HB.out))) : w.heap.size ≤ gb109)); have n3_ := Aside0.mk ((by rw [hg]; exact (below_size (by repeat (first | (with_reducible first | exact HB.out | apply below_alloc | apply pw_below_drewN | apply below_drew1) | exact HB.out))) : w.heap.size ≤ gb109)); clear HB; have HB := n0_; have BK109 := n1_; have GW109 := n2_; have GE109 := n3_; clear n0_ n1_ n2_ n3_; clear hb hbox hg))
  have n0_ := Aside0.mk (blk_drew BK109.out)
  have n1_ := Aside0.mk (below_drew1 HB.out)
  clear BK109
  clear HB
  have BK109 := n0_
  have HB := n1_
  clear n0_ n1_
  refine start_ (n := 11) (S := fun w' => w'.cell? ⟨gb109, 0, none⟩ = some (.slice A0_0 l0_0.length c0_0) ∧ w'.cell? ⟨gb109, 1, none⟩ = some (.slice A0_1 l0_1.length c0_1) ∧ w'.cell? ⟨gb109, 2, none⟩ = some (.slice A0_2 l0_2.length c0_2)) (ds := []) #[false, false, false, false, false, false, false, false, false, false, false] (by kernel_rfl) rfl rfl ⟨(blk_cell BK109.out 0).trans rfl, (blk_cell BK109.out 1).trans rfl, (blk_cell BK109.out 2).trans rfl⟩ (fun hHeld => ?_); refine with_tabW pkey_work.tab1 pkey_work.bits1 (fun HT_ HW_ => ?_)
  generalize w8.drew = w9 at BK109 HB hHeld ⊢
  refine pure_ (i := 0) (N := some 12) (v := ?_) (a' := ?_) #[true, false, false, false, false, false, false, false, false, false, false] rfl rfl (any_of HT_.out (by kernel_rfl)) (fun _ _ _ h => h) (Or.inl ⟨by rfl, ?_⟩) ?_ ?_
  rotate_left
  · intro w'
    go_simp
    with_reducible rfl
  rotate_left
  · simp only [Act.put, List.setIfInBounds_toArray, List.set_cons_zero, List.set_cons_succ, i64_w, i32_w]
    rfl
  refine pure_ (i := 2) (N := some 14) (v := ?_) (a' := ?_) #[true, false, true, false, false, false, false, false, false, false, false] rfl rfl (any_of HT_.out (by kernel_rfl)) (fun _ _ _ h => h) (Or.inl ⟨by rfl, ?_⟩) ?_ ?_
  rotate_left
  · intro w'
    go_simp
    with_reducible rfl
  rotate_left
  · simp only [Act.put, List.setIfInBounds_toArray, List.set_cons_zero, List.set_cons_succ, i64_w, i32_w]
    rfl
  refine pure_ (i := 3) (N := some 15) (v := ?_) (a' := ?_) #[true, false, true, true, false, false, false, false, false, false, false] rfl rfl (any_of HT_.out (by kernel_rfl)) (fun _ _ _ h => h) (Or.inl ⟨by rfl, ?_⟩) ?_ ?_
  rotate_left
  · intro w'
    go_simp
    with_reducible rfl
  rotate_left
  · simp only [Act.put, List.setIfInBounds_toArray, List.set_cons_zero, List.set_cons_succ, i64_w, i32_w]
    rfl
  refine take_ (i := 4) (N := some 16) (v := ?_) (a' := ?_) #[true, false, true, true, true, false, false, false, false, false, false] rfl rfl (take_ofW HT_.out HW_.out (by kernel_rfl)) (fun _ _ _ h => h) (Or.inl ⟨by rfl, ?_⟩) hHeld ?_ ?_
  rotate_left
  · rintro w' ⟨s0, s1, s2⟩
    go_simp
    with_reducible rfl
  rotate_left
  · simp only [Act.put, List.setIfInBounds_toArray, List.set_cons_zero, List.set_cons_succ, i64_w, i32_w]
    rfl
  refine one_ (i := 1) (N := some 13) #[true, true, true, true, true, false, false, false, false, false, false] rfl rfl (one_of HT_.out (by kernel_rfl)) (by decide) (fun K hK => ?_)
  refine goes_ Try.func90 (by kernel_rfl) rfl #[.slice A1 l1.length c1] (by rfl) rfl rfl (by (try simp only [List.map_toArray, List.map_cons, List.map_nil]); first | done | rfl | (simp only [List.length_drop, List.length_take]; rfl)) ?_
  with_reducible refine (nat_Read.calls _ _ l1 t110 _ ?side1 ?side2 A4.out).mono ?_
  (case side1 => repeat (first | exact (Kd.C_below HR1.out HB.out) | (with_reducible refine Kd.C_alloc ?_ _) | (with_reducible refine Kd.C_drewN ?_ _) | (with_reducible refine Kd.C_drew ?_)))
  (case side2 => exact HC1.out)
  rintro e w10 ⟨v111, rfl, ho0, hb⟩
  refine ⟨_, rfl, ?_⟩
  have n0_ := Aside0.mk (Kd.R_lower ho0 (below_size (by repeat (first | (with_reducible first | exact HB.out | apply below_alloc | apply pw_below_drewN | apply below_drew1 | refine below_set ?_ GE109.out) | exact HB.out))))
  have n1_ := Aside0.mk (blk_below (g := gb109) (o := .cells #[.slice A0_0 l0_0.length c0_0, .slice A0_1 l0_1.length c0_1, .slice A0_2 l0_2.length c0_2] 26 (0, 0)) (by (with_reducible repeat (first | refine blk_drewN ?_ _ | refine blk_drew ?_ | refine blk_alloc ?_ _)); exact BK109.out) hb)
  have n2_ := Aside0.mk (below_step (by repeat (first | (with_reducible first | exact HB.out | apply below_alloc | apply pw_below_drewN | apply below_drew1 | refine below_set ?_ GE109.out) | exact HB.out)) hb)
  clear BK109
  clear HB
  have HO112 := n0_
  have BK109 := n1_
  have HB := n2_
  clear n0_ n1_ n2_
  (try clear hb)
  (try clear hb2)
  (try clear hk)
  (try clear hi)
  (try clear ho0)
  obtain ⟨Ao11, co11, eo11⟩ := Kd.R_slice HO112.out
  (first | subst eo11 | (injection eo11 with f1_ f2_ f3_; have f4_ := f1_.symm; have f5_ := f3_.symm; clear f1_ f2_ f3_; subst f4_; subst f5_))
  refine hK.out _ _ ⟨(blk_cell BK109.out 0).trans rfl, (blk_cell BK109.out 1).trans rfl, (blk_cell BK109.out 2).trans rfl⟩ (fun hHeld => ?_)
  clear hK K
  refine norm_ (a' := ?_) ?_ ?_
  rotate_left
  · show Act.put _ (some 13) _ = _
    simp only [Act.put, List.setIfInBounds_toArray, List.set_cons_zero, List.set_cons_succ, i64_w, i32_w]
    rfl
  refine one_ (i := 5) (N := some 17) #[true, true, true, true, true, true, false, false, false, false, false] rfl rfl (one_of HT_.out (by kernel_rfl)) (by decide) (fun K hK => ?_)
  refine goes_ Try.func21 (by kernel_rfl) rfl #[.slice Ao11 t110.length co11, .slice A2 l2.length c2, .slice A0_0 l0_0.length c0_0] (by rfl) rfl rfl (by (try simp only [List.map_toArray, List.map_cons, List.map_nil]); first | done | rfl | (simp only [List.length_drop, List.length_take]; rfl)) ?_
  with_reducible refine (modn_Pow.calls _ _ t110 _ _ l2 _ _ l0_0 t113 t114 _ ?side1 ?side2 ?side3 ?side4 ?side5 ?side6 A5.out).mono ?_
  (case side1 => repeat (first | exact (Kd.R_reads' HO112.out).2.2 | (with_reducible refine Kd.C_alloc ?_ _) | (with_reducible refine Kd.C_drewN ?_ _) | (with_reducible refine Kd.C_drew ?_)))
  (case side2 => exact (Kd.R_reads' HO112.out).2.1)
  (case side3 => repeat (first | exact (Kd.C_below HR2.out HB.out) | (with_reducible refine Kd.C_alloc ?_ _) | (with_reducible refine Kd.C_drewN ?_ _) | (with_reducible refine Kd.C_drew ?_)))
  (case side4 => exact HC2.out)
  (case side5 => repeat (first | exact (Kd.C_below HR0_0.out HB.out) | (with_reducible refine Kd.C_alloc ?_ _) | (with_reducible refine Kd.C_drewN ?_ _) | (with_reducible refine Kd.C_drew ?_)))
  (case side6 => exact HC0_0.out)
  rintro e w12 ⟨v115, rfl, ho0, hb⟩
  refine ⟨_, rfl, ?_⟩
  have n0_ := Aside0.mk (Kd.R_elder' (by (with_reducible repeat (first | apply Kd.R_alloc | apply Kd.R_drewN | apply Kd.R_drew)); exact HO112.out) (Kd.R_base ho0) hb)
  have n1_ := Aside0.mk (Kd.R_lower (Kd.R_new' ho0 (Kd.R_lt (by (with_reducible repeat (first | apply Kd.R_alloc | apply Kd.R_drewN | apply Kd.R_drew)); exact HO112.out))) (below_size (by repeat (first | (with_reducible first | exact HB.out | apply below_alloc | apply pw_below_drewN | apply below_drew1 | refine below_set ?_ GE109.out) | exact HB.out))))
  have n2_ := Aside0.mk (blk_below (g := gb109) (o := .cells #[.slice A0_0 l0_0.length c0_0, .slice A0_1 l0_1.length c0_1, .slice A0_2 l0_2.length c0_2] 26 (0, 0)) (by (with_reducible repeat (first | refine blk_drewN ?_ _ | refine blk_drew ?_ | refine blk_alloc ?_ _)); exact BK109.out) hb)
  have n3_ := Aside0.mk (below_step (by repeat (first | (with_reducible first | exact HB.out | apply below_alloc | apply pw_below_drewN | apply below_drew1 | refine below_set ?_ GE109.out) | exact HB.out)) hb)
  clear HO112
  clear BK109
  clear HB
  have HO112 := n0_
  have HO116 := n1_
  have BK109 := n2_
  have HB := n3_
  clear n0_ n1_ n2_ n3_
  (try clear hb)
  (try clear hb2)
  (try clear hk)
  (try clear hi)
  (try clear ho0)
  refine hK.out _ _ ⟨(blk_cell BK109.out 0).trans rfl, (blk_cell BK109.out 1).trans rfl, (blk_cell BK109.out 2).trans rfl⟩ (fun hHeld => ?_)
  clear hK K
  refine norm_ (a' := ?_) ?_ ?_
  rotate_left
  · show Act.put _ (some 17) _ = _
    simp only [Act.put, List.setIfInBounds_toArray, List.set_cons_zero, List.set_cons_succ, i64_w, i32_w]
    rfl
  refine pure_ (i := 6) (N := some 11) (v := ?_) (a' := ?_) #[true, true, true, true, true, true, true, false, false, false, false] rfl rfl (any_of HT_.out (by kernel_rfl)) (fun _ _ _ h => h) (Or.inl ⟨by rfl, ?_⟩) ?_ ?_
  rotate_left
  · intro w'
    go_simp
    with_reducible rfl
  rotate_left
  · simp only [Act.put, List.setIfInBounds_toArray, List.set_cons_zero, List.set_cons_succ, i64_w, i32_w]
    rfl
  refine pure_ (i := 7) (N := some 18) (v := ?_) (a' := ?_) #[true, true, true, true, true, true, true, true, false, false, false] rfl rfl (any_of HT_.out (by kernel_rfl)) (fun _ _ _ h => h) (Or.inl ⟨by rfl, ?_⟩) ?_ ?_
  rotate_left
  · intro w'
    go_simp
    with_reducible rfl
  rotate_left
  · simp only [Act.put, List.setIfInBounds_toArray, List.set_cons_zero, List.set_cons_succ, i64_w, i32_w]
    rfl
  refine pure_ (i := 8) (N := some 19) (v := ?_) (a' := ?_) #[true, true, true, true, true, true, true, true, true, false, false] rfl rfl (any_of HT_.out (by kernel_rfl)) (fun _ _ _ h => h) (Or.inl ⟨by rfl, ?_⟩) ?_ ?_
  rotate_left
  · intro w'
    go_simp
    with_reducible rfl
  rotate_left
  · simp only [Act.put, List.setIfInBounds_toArray, List.set_cons_zero, List.set_cons_succ, i64_w, i32_w]
    rfl
  refine pure_ (i := 9) (N := some 7) (v := ?_) (a' := ?_) #[true, true, true, true, true, true, true, true, true, true, false] rfl rfl (any_of HT_.out (by kernel_rfl)) (fun _ _ _ h => h) (Or.inl ⟨by rfl, ?_⟩) ?_ ?_
  rotate_left
  · intro w'
    go_simp
    with_reducible rfl
  rotate_left
  · simp only [Act.put, List.setIfInBounds_toArray, List.set_cons_zero, List.set_cons_succ, i64_w, i32_w]
    rfl
  refine pure_ (i := 10) (N := some 8) (v := ?_) (a' := ?_) #[true, true, true, true, true, true, true, true, true, true, true] rfl rfl (any_of HT_.out (by kernel_rfl)) (fun _ _ _ h => h) (Or.inl ⟨by rfl, ?_⟩) ?_ ?_
  rotate_left
  · intro w'
    go_simp
    with_reducible rfl
  rotate_left
  · simp only [Act.put, List.setIfInBounds_toArray, List.set_cons_zero, List.set_cons_succ, i64_w, i32_w]
    rfl
  refine done_ (done_of HT_.out (by kernel_rfl)) ?_
  have hcz13_0 : w12.cell? ⟨gb109, 0, none⟩ = some (.slice A0_0 l0_0.length c0_0) := (blk_cell BK109.out 0).trans rfl
  have hcz13_1 : w12.cell? ⟨gb109, 1, none⟩ = some (.slice A0_1 l0_1.length c0_1) := (blk_cell BK109.out 1).trans rfl
  have hcz13_2 : w12.cell? ⟨gb109, 2, none⟩ = some (.slice A0_2 l0_2.length c0_2) := (blk_cell BK109.out 2).trans rfl
  have hfz13_0 := blk_frozen BK109.out 0
  have hfz13_1 := blk_frozen BK109.out 1
  have hfz13_2 := blk_frozen BK109.out 2
  try go_wp2_with (first | ((with_reducible refine gate_callee (f := 17) rfl ?_); refine goesL_ (some 23) rfl rfl Try.func17 (by kernel_rfl) rfl #[.agg #[.slice A0_0 l0_0.length c0_0, .slice A0_1 l0_1.length c0_1, .slice A0_2 l0_2.length c0_2]] rfl (by (try simp only [List.map_toArray, List.map_cons, List.map_nil]); first | done | rfl | (simp only [List.length_drop, List.length_take]; rfl)) ?_; (with_reducible refine (pkey_Size.calls _ _ l0_0 _ _ l0_1 _ _ l0_2 t117 _ ?side1 ?side2 ?side3 ?side4 ?side5 ?side6 A6.out).mono ?_); (case side1 => repeat (first | exact (Kd.C_below HR0_0.out HB.out) | (with_reducible refine Kd.C_alloc ?_ _) | (with_reducible refine Kd.C_drewN ?_ _) | (with_reducible refine Kd.C_drew ?_))); (case side2 => exact HC0_0.out); (case side3 => repeat (first | exact (Kd.C_below HR0_1.out HB.out) | (with_reducible refine Kd.C_alloc ?_ _) | (with_reducible refine Kd.C_drewN ?_ _) | (with_reducible refine Kd.C_drew ?_))); (case side4 => exact HC0_1.out); (case side5 => repeat (first | exact (Kd.C_below HR0_2.out HB.out) | (with_reducible refine Kd.C_alloc ?_ _) | (with_reducible refine Kd.C_drewN ?_ _) | (with_reducible refine Kd.C_drew ?_))); (case side6 => exact HC0_2.out); rintro e w14 ⟨rfl, hb⟩; refine ⟨_, rfl, ?_⟩; have n0_ := Aside0.mk (Kd.R_below (by (with_reducible repeat (first | apply Kd.R_alloc | apply Kd.R_drewN | apply Kd.R_drew)); exact HO112.out) hb); have n1_ := Aside0.mk (Kd.R_below (by (with_reducible repeat (first | apply Kd.R_alloc | apply Kd.R_drewN | apply Kd.R_drew)); exact HO116.out) hb); have n2_ := Aside0.mk (blk_below (g := gb109) (o := .cells #[.slice A0_0 l0_0.length c0_0, .slice A0_1 l0_1.length c0_1, .slice A0_2 l0_2.length c0_2] 26 (0, 0)) (by (with_reducible repeat (first | refine blk_drewN ?_ _ | refine blk_drew ?_ | refine blk_alloc ?_ _)); exact BK109.out) hb); have n3_ := Aside0.mk (below_step (by repeat (first | (with_reducible first | exact HB.out | apply below_alloc | apply pw_below_drewN | apply below_drew1 | refine below_set ?_ GE109.out) | exact HB.out)) hb); clear HO112; clear HO116; clear BK109; clear HB; have HO112 := n0_; have HO116 := n1_; have BK109 := n2_; have HB := n3_; clear n0_ n1_ n2_ n3_; (try clear hb); (try clear hb2); (try clear hk); (try clear hi); obtain ⟨Ao15, co15, eo15⟩ := Kd.R_slice HO116.out; subst eo15) | ((with_reducible refine gate_callee (f := 91) rfl ?_); refine goesL_ (some 24) rfl rfl Try.func91 (by kernel_rfl) rfl #[.slice Ao15 t113.length co15, .int .i64 t117] rfl (by (try simp only [List.map_toArray, List.map_cons, List.map_nil]); first | done | rfl | (simp only [List.length_drop, List.length_take]; rfl)) ?_; (with_reducible refine (nat_Write.calls _ _ t113 t117 t118 t119 _ ?side1 ?side2 A7.out).mono ?_); (case side1 => repeat (first | exact (Kd.R_reads' HO116.out).2.2 | (with_reducible refine Kd.C_alloc ?_ _) | (with_reducible refine Kd.C_drewN ?_ _) | (with_reducible refine Kd.C_drew ?_))); (case side2 => exact (Kd.R_reads' HO116.out).2.1); rintro e w16 ⟨v120, rfl, ho0, hb⟩; refine ⟨_, rfl, ?_⟩; have n0_ := Aside0.mk (Kd.R_below (by (with_reducible repeat (first | apply Kd.R_alloc | apply Kd.R_drewN | apply Kd.R_drew)); exact HO112.out) hb); have n1_ := Aside0.mk (Kd.R_below (by (with_reducible repeat (first | apply Kd.R_alloc | apply Kd.R_drewN | apply Kd.R_drew)); exact HO116.out) hb); have n2_ := Aside0.mk (Kd.R_lower ho0 (below_size (by repeat (first | (with_reducible first | exact HB.out | apply below_alloc | apply pw_below_drewN | apply below_drew1 | refine below_set ?_ GE109.out) | exact HB.out)))); have n3_ := Aside0.mk (blk_below (g := gb109) (o := .cells #[.slice A0_0 l0_0.length c0_0, .slice A0_1 l0_1.length c0_1, .slice A0_2 l0_2.length c0_2] 26 (0, 0)) (by (with_reducible repeat (first | refine blk_drewN ?_ _ | refine blk_drew ?_ | refine blk_alloc ?_ _)); exact BK109.out) hb); have n4_ := Aside0.mk (below_step (by repeat (first | (with_reducible first | exact HB.out | apply below_alloc | apply pw_below_drewN | apply below_drew1 | refine below_set ?_ GE109.out) | exact HB.out)) hb); clear HO112; clear HO116; clear BK109; clear HB; have HO112 := n0_; have HO116 := n1_; have HO121 := n2_; have BK109 := n3_; have HB := n4_; clear n0_ n1_ n2_ n3_ n4_; (try clear hb); (try clear hb2); (try clear hk); (try clear hi); (try clear ho0)))
  go_ret
  exact ⟨_, by first | rfl | (simp [errW_none, errW_some] <;> rfl) | (simp [*, errW_none, errW_some] <;> rfl), by (with_reducible repeat (first | apply Kd.R_alloc | apply Kd.R_drewN | apply Kd.R_drew)); exact HO121.out, by repeat (first | (with_reducible first | exact HB.out | apply below_alloc | apply pw_below_drewN | apply below_drew1 | refine below_set ?_ GE109.out) | exact HB.out)⟩
def pkey_signed.f (a0 : Int) (l1 : List Int) : Option (List Int) := if okB l1 ∧ 27 ≤ a0 ∧ a0 ≤ 1000000 ∧ l1.length ≤ 2097152 then some (NI (sgnN a0.toNat (toN l1))) else none
theorem pkey_signed.calls (a0 : Int) (A1 : Option Addr) (c1 : Nat) (l1 : List Int) (r : List Int) (w : World) (hr1 : Kd.C (Kd.int .u8) w A1 l1.length l1) (hc1 : l1.length ≤ c1) (h : pkey_signed.f a0 l1 = some r) :
    Calls Try.prog 50 #[.int .i64 a0, .slice A1 l1.length c1] w fun e w' => ∃ v0_ : Value, e = .returned (v0_) ∧ Kd.R (Kd.int .u8) 5 w' w.heap.size (fun _ => True) v0_ r ∧ Below w.heap.size w w' := by
  exact signed_giv hr1 hc1 h
def pkey_Sign.j0 : Nat → List Int → Bool → List Int → List Int → List Int → Option (List Int × Int)
  | 0, _, _, _, _, _ => none
  | k + 1, x1, x14, x123000, x123001, x123002 => if x14 = true then (some (([] : List Int), 50)) else ((pkey_Size.f x123000 x123001 x123002).bind fun t125 => (if t125 < 27 then (some (([] : List Int), 51)) else ((pkey_Size.f x123000 x123001 x123002).bind fun t126 => ((pkey_signed.f t126 x1).bind fun t127 => ((pkey_work.f x123000 x123001 x123002 t127 x123002).bind fun t130 => (some (t130, 0)))))))
def pkey_Sign.f (k : Nat) (l0_0 : List Int) (l0_1 : List Int) (l0_2 : List Int) (l1 : List Int) : Option (List Int × Int) := (pkey_Right.f l0_0 l0_1 l0_2).bind fun t123 => (if t123 = 0 then ((nat_Bits.f l0_2).bind fun t124 => (pkey_Sign.j0 k l1 (t124 == 0) l0_0 l0_1 l0_2)) else (pkey_Sign.j0 k l1 true l0_0 l0_1 l0_2))
def pkey_Sign.T5 : Bool × List (List Nat × List Nat) := (true, [([], []), ([], []), ([1], [1]), ([], []), ([2, 3, 2], [2, 3]), ([], []), ([5], [5]), ([0, 4, 6, 4], [0, 4, 6]), ([7, 7, 0, 1, 2, 3, 4, 5, 6, 7], [7]), ([8, 0, 1, 2, 3, 4, 5, 6, 7, 8], [])])
def pkey_Sign.B5 : List Nat := [0, 0, 2, 0, 14, 0, 32, 127, 255, 511]
theorem pkey_Sign.tab5 : rtab .any (opsOf Try.f13 5) = pkey_Sign.T5 := by kernel_rfl
theorem pkey_Sign.bits5 : waitsOk pkey_Sign.T5.2 pkey_Sign.B5 = true := by kernel_rfl
set_option maxHeartbeats 8000000 in
set_option maxRecDepth 100000 in
theorem pkey_Sign.calls (k : Nat) (A0_0 : Option Addr) (c0_0 : Nat) (l0_0 : List Int) (A0_1 : Option Addr) (c0_1 : Nat) (l0_1 : List Int) (A0_2 : Option Addr) (c0_2 : Nat) (l0_2 : List Int) (A1 : Option Addr) (c1 : Nat) (l1 : List Int) (r1 : List Int) (r2 : Int) (w : World) (hr0_0 : Kd.C (Kd.int .u64) w A0_0 l0_0.length l0_0) (hc0_0 : l0_0.length ≤ c0_0) (hr0_1 : Kd.C (Kd.int .u64) w A0_1 l0_1.length l0_1) (hc0_1 : l0_1.length ≤ c0_1) (hr0_2 : Kd.C (Kd.int .u64) w A0_2 l0_2.length l0_2) (hc0_2 : l0_2.length ≤ c0_2) (hr1 : Kd.C (Kd.int .u8) w A1 l1.length l1) (hc1 : l1.length ≤ c1) (h : pkey_Sign.f k l0_0 l0_1 l0_2 l1 = some (r1, r2)) :
    Calls Try.prog 13 #[.agg #[.slice A0_0 l0_0.length c0_0, .slice A0_1 l0_1.length c0_1, .slice A0_2 l0_2.length c0_2], .slice A1 l1.length c1] w fun e w' => ∃ v0_ : Value, e = .returned (.tuple #[v0_, .int .i64 r2]) ∧ Kd.R (Kd.int .u8) 5 w' w.heap.size (fun _ => True) v0_ r1 ∧ Below w.heap.size w w' := by
  have hu26 := Try.underlying26
  have HR0_0 := Aside0.mk hr0_0
  have HC0_0 := Aside0.mk hc0_0
  clear hr0_0 hc0_0
  have HR0_1 := Aside0.mk hr0_1
  have HC0_1 := Aside0.mk hc0_1
  clear hr0_1 hc0_1
  have HR0_2 := Aside0.mk hr0_2
  have HC0_2 := Aside0.mk hc0_2
  clear hr0_2 hc0_2
  have HR1 := Aside0.mk hr1
  have HC1 := Aside0.mk hc1
  clear hr1 hc1
  have HB := Aside0.mk (Below.refl w.heap.size w)
  have H : ((pkey_Right.f l0_0 l0_1 l0_2).bind fun t123 => (if t123 = 0 then ((nat_Bits.f l0_2).bind fun t124 => (pkey_Sign.j0 k l1 (t124 == 0) l0_0 l0_1 l0_2)) else (pkey_Sign.j0 k l1 true l0_0 l0_1 l0_2))) = some (r1, r2) := h
  clear h
  have HC3 := Aside0.mk H
  clear H
  go_enter Try.func13, Try.ntmps13
  go_upto_region 1 with (first | ((with_reducible refine gate_dst (N := 2) rfl ?_); refine box_event ?hg (N := 2) ?hd (cs := #[.slice A0_0 l0_0.length c0_0, .slice A0_1 l0_1.length c0_1, .slice A0_2 l0_2.length c0_2]) (t := 26) ?hr ?_; (case hd => rfl); (case hg => rfl); (case hr => first | (go_simp; done) | (go_simp; rfl)); intro gb122 hg w4 hbox hb; have n0_ := Aside0.mk (below_step (by repeat (first | (with_reducible first | exact HB.out | apply below_alloc | apply pw_below_drewN | apply below_drew1) | exact HB.out)) hb); have n1_ := Aside0.mk (hbox); have n2_ := Aside0.mk ((by rw [hg]; exact (below_size (by repeat (first | (with_reducible first | exact HB.out | apply below_alloc | apply pw_below_drewN | apply below_drew1) | exact HB.out))) : w.heap.size ≤ gb122)); have n3_ := Aside0.mk ((by rw [hg]; exact (below_size (by repeat (first | (with_reducible first | exact HB.out | apply below_alloc | apply pw_below_drewN | apply below_drew1) | exact HB.out))) : w.heap.size ≤ gb122)); clear HB; have HB := n0_; have BK122 := n1_; have GW122 := n2_; have GE122 := n3_; clear n0_ n1_ n2_ n3_; clear hb hbox hg))
  (try simp only [Act.put, List.setIfInBounds_toArray, List.set_cons_zero, List.set_cons_succ])
  go_cut [14] (fun v14 wc => ∃ (kq : Nat) (x14_2 : Bool), v14 = .bool x14_2 ∧ Aside0 (pkey_Sign.j0 kq l1 x14_2 l0_0 l0_1 l0_2 = some (r1, r2)) ∧ Aside0 (kq ≤ k) ∧ Aside0 (wc.heap[gb122]? = some (.cells #[(.slice A0_0 l0_0.length c0_0), (.slice A0_1 l0_1.length c0_1), (.slice A0_2 l0_2.length c0_2)] 26 (0, 0))) ∧ Aside0 (Below w.heap.size w wc))
  case first =>
    have H := HC3.out
    clear HC3
    replace H := Option.bind_eq_some_iff.mp H
    obtain ⟨t123, A50, H⟩ := H
    replace H : (if t123 = 0 then ((nat_Bits.f l0_2).bind fun t124 => (pkey_Sign.j0 k l1 (t124 == 0) l0_0 l0_1 l0_2)) else (pkey_Sign.j0 k l1 true l0_0 l0_1 l0_2)) = some (r1, r2) := H
    have A5 := Aside0.mk A50
    clear A50
    by_cases c6 : t123 = 0
    · rw [if_pos c6] at H
      have c6b0 : (t123 == 0) = true := beq_iff_eq.mpr c6
      have c6b1 : (t123 != 0) = false := bne_eq_false_iff_eq.mpr c6
      clear c6
      (first | rw [c6b0] | (simp only [i64_w, i32_w]; rw [c6b0]) | skip)
      replace H := Option.bind_eq_some_iff.mp H
      obtain ⟨t124, A70, H⟩ := H
      replace H : (pkey_Sign.j0 k l1 (t124 == 0) l0_0 l0_1 l0_2) = some (r1, r2) := H
      have A7 := Aside0.mk A70
      clear A70
      have H' := Aside0.mk H
      clear H
      have hcz8_0 : w4.cell? ⟨gb122, 0, none⟩ = some (.slice A0_0 l0_0.length c0_0) := (blk_cell BK122.out 0).trans rfl
      have hcz8_1 : w4.cell? ⟨gb122, 1, none⟩ = some (.slice A0_1 l0_1.length c0_1) := (blk_cell BK122.out 1).trans rfl
      have hcz8_2 : w4.cell? ⟨gb122, 2, none⟩ = some (.slice A0_2 l0_2.length c0_2) := (blk_cell BK122.out 2).trans rfl
      have hfz8_0 := blk_frozen BK122.out 0
      have hfz8_1 := blk_frozen BK122.out 1
      have hfz8_2 := blk_frozen BK122.out 2
      go_wp2_with (first | ((with_reducible refine gate_callee (f := 20) rfl ?_); refine goesL_ (some 7) rfl rfl Try.func20 (by kernel_rfl) rfl #[.agg #[.slice A0_0 l0_0.length c0_0, .slice A0_1 l0_1.length c0_1, .slice A0_2 l0_2.length c0_2]] rfl (by (try simp only [List.map_toArray, List.map_cons, List.map_nil]); first | done | rfl | (simp only [List.length_drop, List.length_take]; rfl)) ?_; (with_reducible refine (pkey_Right.calls _ _ l0_0 _ _ l0_1 _ _ l0_2 t123 _ ?side1 ?side2 ?side3 ?side4 ?side5 ?side6 A5.out).mono ?_); (case side1 => repeat (first | exact (Kd.C_below HR0_0.out HB.out) | (with_reducible refine Kd.C_alloc ?_ _) | (with_reducible refine Kd.C_drewN ?_ _) | (with_reducible refine Kd.C_drew ?_))); (case side2 => exact HC0_0.out); (case side3 => repeat (first | exact (Kd.C_below HR0_1.out HB.out) | (with_reducible refine Kd.C_alloc ?_ _) | (with_reducible refine Kd.C_drewN ?_ _) | (with_reducible refine Kd.C_drew ?_))); (case side4 => exact HC0_1.out); (case side5 => repeat (first | exact (Kd.C_below HR0_2.out HB.out) | (with_reducible refine Kd.C_alloc ?_ _) | (with_reducible refine Kd.C_drewN ?_ _) | (with_reducible refine Kd.C_drew ?_))); (case side6 => exact HC0_2.out); rintro e w9 ⟨rfl, hb⟩; refine ⟨_, rfl, ?_⟩; have n0_ := Aside0.mk (blk_below (g := gb122) (o := .cells #[.slice A0_0 l0_0.length c0_0, .slice A0_1 l0_1.length c0_1, .slice A0_2 l0_2.length c0_2] 26 (0, 0)) (by (with_reducible repeat (first | refine blk_drewN ?_ _ | refine blk_drew ?_ | refine blk_alloc ?_ _)); exact BK122.out) hb); have n1_ := Aside0.mk (below_step (by repeat (first | (with_reducible first | exact HB.out | apply below_alloc | apply pw_below_drewN | apply below_drew1 | refine below_set ?_ GE122.out) | exact HB.out)) hb); clear BK122; clear HB; have BK122 := n0_; have HB := n1_; clear n0_ n1_; (try clear hb); (try clear hb2); (try clear hk); (try clear hi); have hcz10_0 : w9.cell? ⟨gb122, 0, none⟩ = some (.slice A0_0 l0_0.length c0_0) := (blk_cell BK122.out 0).trans rfl; have hcz10_1 : w9.cell? ⟨gb122, 1, none⟩ = some (.slice A0_1 l0_1.length c0_1) := (blk_cell BK122.out 1).trans rfl; have hcz10_2 : w9.cell? ⟨gb122, 2, none⟩ = some (.slice A0_2 l0_2.length c0_2) := (blk_cell BK122.out 2).trans rfl; have hfz10_0 := blk_frozen BK122.out 0; have hfz10_1 := blk_frozen BK122.out 1; have hfz10_2 := blk_frozen BK122.out 2) | (go_at_call 19; (with_reducible refine (nat_Bits.calls _ _ l0_2 t124 _ ?side1 ?side2 A7.out).mono ?_); (case side1 => repeat (first | exact (Kd.C_below HR0_2.out HB.out) | (with_reducible refine Kd.C_alloc ?_ _) | (with_reducible refine Kd.C_drewN ?_ _) | (with_reducible refine Kd.C_drew ?_))); (case side2 => exact HC0_2.out); rintro e w11 ⟨rfl, hb⟩; have n0_ := Aside0.mk (blk_below (g := gb122) (o := .cells #[.slice A0_0 l0_0.length c0_0, .slice A0_1 l0_1.length c0_1, .slice A0_2 l0_2.length c0_2] 26 (0, 0)) (by (with_reducible repeat (first | refine blk_drewN ?_ _ | refine blk_drew ?_ | refine blk_alloc ?_ _)); exact BK122.out) hb); have n1_ := Aside0.mk (below_step (by repeat (first | (with_reducible first | exact HB.out | apply below_alloc | apply pw_below_drewN | apply below_drew1 | refine below_set ?_ GE122.out) | exact HB.out)) hb); clear BK122; clear HB; have BK122 := n0_; have HB := n1_; clear n0_ n1_; (try clear hb); (try clear hb2); (try clear hk); (try clear hi)))
      go_meet
      case rel => exact ⟨_, ((t124 == 0)), (by first | rfl | (simp; done) | (simp [*]; done)), H', ⟨by first | omega | exact Nat.le_refl _⟩, ⟨by (with_reducible repeat (first | refine blk_drewN ?_ _ | refine blk_drew ?_ | refine blk_alloc ?_ _)); exact BK122.out⟩, ⟨by repeat (first | (with_reducible first | exact HB.out | apply below_alloc | apply pw_below_drewN | apply below_drew1 | refine below_set ?_ GE122.out) | exact HB.out)⟩⟩
    · rw [if_neg c6] at H
      have c6b0 : (t123 == 0) = false := beq_eq_false_iff_ne.mpr c6
      have c6b1 : (t123 != 0) = true := bne_iff_ne.mpr c6
      (first | rw [c6b0] | (simp only [i64_w, i32_w]; rw [c6b0]) | skip)
      have H' := Aside0.mk H
      clear H
      have hcz12_0 : w4.cell? ⟨gb122, 0, none⟩ = some (.slice A0_0 l0_0.length c0_0) := (blk_cell BK122.out 0).trans rfl
      have hcz12_1 : w4.cell? ⟨gb122, 1, none⟩ = some (.slice A0_1 l0_1.length c0_1) := (blk_cell BK122.out 1).trans rfl
      have hcz12_2 : w4.cell? ⟨gb122, 2, none⟩ = some (.slice A0_2 l0_2.length c0_2) := (blk_cell BK122.out 2).trans rfl
      have hfz12_0 := blk_frozen BK122.out 0
      have hfz12_1 := blk_frozen BK122.out 1
      have hfz12_2 := blk_frozen BK122.out 2
      go_wp2_with (first | ((with_reducible refine gate_callee (f := 20) rfl ?_); refine goesL_ (some 7) rfl rfl Try.func20 (by kernel_rfl) rfl #[.agg #[.slice A0_0 l0_0.length c0_0, .slice A0_1 l0_1.length c0_1, .slice A0_2 l0_2.length c0_2]] rfl (by (try simp only [List.map_toArray, List.map_cons, List.map_nil]); first | done | rfl | (simp only [List.length_drop, List.length_take]; rfl)) ?_; (with_reducible refine (pkey_Right.calls _ _ l0_0 _ _ l0_1 _ _ l0_2 t123 _ ?side1 ?side2 ?side3 ?side4 ?side5 ?side6 A5.out).mono ?_); (case side1 => repeat (first | exact (Kd.C_below HR0_0.out HB.out) | (with_reducible refine Kd.C_alloc ?_ _) | (with_reducible refine Kd.C_drewN ?_ _) | (with_reducible refine Kd.C_drew ?_))); (case side2 => exact HC0_0.out); (case side3 => repeat (first | exact (Kd.C_below HR0_1.out HB.out) | (with_reducible refine Kd.C_alloc ?_ _) | (with_reducible refine Kd.C_drewN ?_ _) | (with_reducible refine Kd.C_drew ?_))); (case side4 => exact HC0_1.out); (case side5 => repeat (first | exact (Kd.C_below HR0_2.out HB.out) | (with_reducible refine Kd.C_alloc ?_ _) | (with_reducible refine Kd.C_drewN ?_ _) | (with_reducible refine Kd.C_drew ?_))); (case side6 => exact HC0_2.out); rintro e w13 ⟨rfl, hb⟩; refine ⟨_, rfl, ?_⟩; have n0_ := Aside0.mk (blk_below (g := gb122) (o := .cells #[.slice A0_0 l0_0.length c0_0, .slice A0_1 l0_1.length c0_1, .slice A0_2 l0_2.length c0_2] 26 (0, 0)) (by (with_reducible repeat (first | refine blk_drewN ?_ _ | refine blk_drew ?_ | refine blk_alloc ?_ _)); exact BK122.out) hb); have n1_ := Aside0.mk (below_step (by repeat (first | (with_reducible first | exact HB.out | apply below_alloc | apply pw_below_drewN | apply below_drew1 | refine below_set ?_ GE122.out) | exact HB.out)) hb); clear BK122; clear HB; have BK122 := n0_; have HB := n1_; clear n0_ n1_; (try clear hb); (try clear hb2); (try clear hk); (try clear hi)))
      go_meet
      case rel => exact ⟨_, (true), (by first | rfl | (simp; done) | (simp [*]; done)), H', ⟨by first | omega | exact Nat.le_refl _⟩, ⟨by (with_reducible repeat (first | refine blk_drewN ?_ _ | refine blk_drew ?_ | refine blk_alloc ?_ _)); exact BK122.out⟩, ⟨by repeat (first | (with_reducible first | exact HB.out | apply below_alloc | apply pw_below_drewN | apply below_drew1 | refine below_set ?_ GE122.out) | exact HB.out)⟩⟩
  case rest =>
    clear HC3
    try clear c1
    try clear c2
    try clear p2
    try clear c6
    try clear c6b0
    try clear c6b1
    try clear c13
    try clear hcz10_0
    try clear hcz10_1
    try clear hcz10_2
    try clear hcz12_0
    try clear hcz12_1
    try clear hcz12_2
    try clear hcz8_0
    try clear hcz8_1
    try clear hcz8_2
    try clear hfz10_0
    try clear hfz10_1
    try clear hfz10_2
    try clear hfz12_0
    try clear hfz12_1
    try clear hfz12_2
    try clear hfz8_0
    try clear hfz8_1
    try clear hfz8_2
    obtain ⟨kq, x14_2, rfl, HA, HJ2, BK122, HB⟩ := hcut
    cases kq with
    | zero => exact absurd HA.out (by simp [pkey_Sign.j0])
    | succ kj2 =>
      have H := HA.out
      clear HA
      simp only [pkey_Sign.j0] at H
      by_cases c14 : x14_2 = true
      · subst c14
        have H1 : (some (([] : List Int), 50)) = some (r1, r2) := by rw [if_pos rfl] at H; exact H
        clear H
        have H := H1
        clear H1
        simp only [Option.some.injEq, Prod.mk.injEq] at H
        obtain ⟨rfl, rfl⟩ := H
        go_wp2
        go_ret2
        exact ⟨_, by first | rfl | (simp [errW_none, errW_some] <;> rfl) | (simp [*, errW_none, errW_some] <;> rfl), by first | exact Kd.R_nil _ _ _ _ _ | exact Kd.N_nil _ _ _ _ _ | exact Kd.V_nil _ _ _ _ _ | exact Kd.Q_nil _ _ _ _ _ | exact Kd.S_nil _ _ _ _ _, by repeat (first | (with_reducible first | exact HB.out | apply below_alloc | apply pw_below_drewN | apply below_drew1 | refine below_set ?_ GE122.out) | exact HB.out)⟩
      · replace c14 := Bool.eq_false_iff.mpr c14
        subst c14
        have H1 : ((pkey_Size.f l0_0 l0_1 l0_2).bind fun t125 => (if t125 < 27 then (some (([] : List Int), 51)) else ((pkey_Size.f l0_0 l0_1 l0_2).bind fun t126 => ((pkey_signed.f t126 l1).bind fun t127 => ((pkey_work.f l0_0 l0_1 l0_2 t127 l0_2).bind fun t130 => (some (t130, 0))))))) = some (r1, r2) := by rw [if_neg (show ¬ (false = true) by decide)] at H; exact H
        clear H
        have H := H1
        clear H1
        replace H := Option.bind_eq_some_iff.mp H
        obtain ⟨t125, A150, H⟩ := H
        replace H : (if t125 < 27 then (some (([] : List Int), 51)) else ((pkey_Size.f l0_0 l0_1 l0_2).bind fun t126 => ((pkey_signed.f t126 l1).bind fun t127 => ((pkey_work.f l0_0 l0_1 l0_2 t127 l0_2).bind fun t130 => (some (t130, 0)))))) = some (r1, r2) := H
        have A15 := Aside0.mk A150
        clear A150
        by_cases c16 : t125 < 27
        · rw [if_pos c16] at H
          have c16b0 : decide (t125 < 27) = true := decide_eq_true c16
          clear c16
          simp only [Option.some.injEq, Prod.mk.injEq] at H
          obtain ⟨rfl, rfl⟩ := H
          have hcz17_0 : wc.cell? ⟨gb122, 0, none⟩ = some (.slice A0_0 l0_0.length c0_0) := (blk_cell BK122.out 0).trans rfl
          have hcz17_1 : wc.cell? ⟨gb122, 1, none⟩ = some (.slice A0_1 l0_1.length c0_1) := (blk_cell BK122.out 1).trans rfl
          have hcz17_2 : wc.cell? ⟨gb122, 2, none⟩ = some (.slice A0_2 l0_2.length c0_2) := (blk_cell BK122.out 2).trans rfl
          have hfz17_0 := blk_frozen BK122.out 0
          have hfz17_1 := blk_frozen BK122.out 1
          have hfz17_2 := blk_frozen BK122.out 2
          go_wp2_with (first | ((with_reducible refine gate_callee (f := 17) rfl ?_); refine goesL_ (some 16) rfl rfl Try.func17 (by kernel_rfl) rfl #[.agg #[.slice A0_0 l0_0.length c0_0, .slice A0_1 l0_1.length c0_1, .slice A0_2 l0_2.length c0_2]] rfl (by (try simp only [List.map_toArray, List.map_cons, List.map_nil]); first | done | rfl | (simp only [List.length_drop, List.length_take]; rfl)) ?_; (with_reducible refine (pkey_Size.calls _ _ l0_0 _ _ l0_1 _ _ l0_2 t125 _ ?side1 ?side2 ?side3 ?side4 ?side5 ?side6 A15.out).mono ?_); (case side1 => repeat (first | exact (Kd.C_below HR0_0.out HB.out) | (with_reducible refine Kd.C_alloc ?_ _) | (with_reducible refine Kd.C_drewN ?_ _) | (with_reducible refine Kd.C_drew ?_))); (case side2 => exact HC0_0.out); (case side3 => repeat (first | exact (Kd.C_below HR0_1.out HB.out) | (with_reducible refine Kd.C_alloc ?_ _) | (with_reducible refine Kd.C_drewN ?_ _) | (with_reducible refine Kd.C_drew ?_))); (case side4 => exact HC0_1.out); (case side5 => repeat (first | exact (Kd.C_below HR0_2.out HB.out) | (with_reducible refine Kd.C_alloc ?_ _) | (with_reducible refine Kd.C_drewN ?_ _) | (with_reducible refine Kd.C_drew ?_))); (case side6 => exact HC0_2.out); rintro e w18 ⟨rfl, hb⟩; refine ⟨_, rfl, ?_⟩; have n0_ := Aside0.mk (blk_below (g := gb122) (o := .cells #[.slice A0_0 l0_0.length c0_0, .slice A0_1 l0_1.length c0_1, .slice A0_2 l0_2.length c0_2] 26 (0, 0)) (by (with_reducible repeat (first | refine blk_drewN ?_ _ | refine blk_drew ?_ | refine blk_alloc ?_ _)); exact BK122.out) hb); have n1_ := Aside0.mk (below_step (by repeat (first | (with_reducible first | exact HB.out | apply below_alloc | apply pw_below_drewN | apply below_drew1 | refine below_set ?_ GE122.out) | exact HB.out)) hb); clear BK122; clear HB; have BK122 := n0_; have HB := n1_; clear n0_ n1_; (try clear hb); (try clear hb2); (try clear hk); (try clear hi)))
          go_ret2
          exact ⟨_, by first | rfl | (simp [errW_none, errW_some] <;> rfl) | (simp [*, errW_none, errW_some] <;> rfl), by first | exact Kd.R_nil _ _ _ _ _ | exact Kd.N_nil _ _ _ _ _ | exact Kd.V_nil _ _ _ _ _ | exact Kd.Q_nil _ _ _ _ _ | exact Kd.S_nil _ _ _ _ _, by repeat (first | (with_reducible first | exact HB.out | apply below_alloc | apply pw_below_drewN | apply below_drew1 | refine below_set ?_ GE122.out) | exact HB.out)⟩
        · rw [if_neg c16] at H
          have c16b0 : decide (t125 < 27) = false := decide_eq_false c16
          clear c16
          replace H := Option.bind_eq_some_iff.mp H
          obtain ⟨t126, A190, H⟩ := H
          replace H : ((pkey_signed.f t126 l1).bind fun t127 => ((pkey_work.f l0_0 l0_1 l0_2 t127 l0_2).bind fun t130 => (some (t130, 0)))) = some (r1, r2) := H
          have A19 := Aside0.mk A190
          clear A190
          replace H := Option.bind_eq_some_iff.mp H
          obtain ⟨t127, A200, H⟩ := H
          replace H : ((pkey_work.f l0_0 l0_1 l0_2 t127 l0_2).bind fun t130 => (some (t130, 0))) = some (r1, r2) := H
          have A20 := Aside0.mk A200
          clear A200
          replace H := Option.bind_eq_some_iff.mp H
          obtain ⟨t130, A210, H⟩ := H
          replace H : (some (t130, 0)) = some (r1, r2) := H
          have A21 := Aside0.mk A210
          clear A210
          simp only [Option.some.injEq, Prod.mk.injEq] at H
          obtain ⟨rfl, rfl⟩ := H
          have hcz22_0 : wc.cell? ⟨gb122, 0, none⟩ = some (.slice A0_0 l0_0.length c0_0) := (blk_cell BK122.out 0).trans rfl
          have hcz22_1 : wc.cell? ⟨gb122, 1, none⟩ = some (.slice A0_1 l0_1.length c0_1) := (blk_cell BK122.out 1).trans rfl
          have hcz22_2 : wc.cell? ⟨gb122, 2, none⟩ = some (.slice A0_2 l0_2.length c0_2) := (blk_cell BK122.out 2).trans rfl
          have hfz22_0 := blk_frozen BK122.out 0
          have hfz22_1 := blk_frozen BK122.out 1
          have hfz22_2 := blk_frozen BK122.out 2
          try go_wp2_with (first | ((with_reducible refine gate_callee (f := 17) rfl ?_); refine goesL_ (some 16) rfl rfl Try.func17 (by kernel_rfl) rfl #[.agg #[.slice A0_0 l0_0.length c0_0, .slice A0_1 l0_1.length c0_1, .slice A0_2 l0_2.length c0_2]] rfl (by (try simp only [List.map_toArray, List.map_cons, List.map_nil]); first | done | rfl | (simp only [List.length_drop, List.length_take]; rfl)) ?_; (with_reducible refine (pkey_Size.calls _ _ l0_0 _ _ l0_1 _ _ l0_2 t125 _ ?side1 ?side2 ?side3 ?side4 ?side5 ?side6 A15.out).mono ?_); (case side1 => repeat (first | exact (Kd.C_below HR0_0.out HB.out) | (with_reducible refine Kd.C_alloc ?_ _) | (with_reducible refine Kd.C_drewN ?_ _) | (with_reducible refine Kd.C_drew ?_))); (case side2 => exact HC0_0.out); (case side3 => repeat (first | exact (Kd.C_below HR0_1.out HB.out) | (with_reducible refine Kd.C_alloc ?_ _) | (with_reducible refine Kd.C_drewN ?_ _) | (with_reducible refine Kd.C_drew ?_))); (case side4 => exact HC0_1.out); (case side5 => repeat (first | exact (Kd.C_below HR0_2.out HB.out) | (with_reducible refine Kd.C_alloc ?_ _) | (with_reducible refine Kd.C_drewN ?_ _) | (with_reducible refine Kd.C_drew ?_))); (case side6 => exact HC0_2.out); rintro e w23 ⟨rfl, hb⟩; refine ⟨_, rfl, ?_⟩; have n0_ := Aside0.mk (blk_below (g := gb122) (o := .cells #[.slice A0_0 l0_0.length c0_0, .slice A0_1 l0_1.length c0_1, .slice A0_2 l0_2.length c0_2] 26 (0, 0)) (by (with_reducible repeat (first | refine blk_drewN ?_ _ | refine blk_drew ?_ | refine blk_alloc ?_ _)); exact BK122.out) hb); have n1_ := Aside0.mk (below_step (by repeat (first | (with_reducible first | exact HB.out | apply below_alloc | apply pw_below_drewN | apply below_drew1 | refine below_set ?_ GE122.out) | exact HB.out)) hb); clear BK122; clear HB; have BK122 := n0_; have HB := n1_; clear n0_ n1_; (try clear hb); (try clear hb2); (try clear hk); (try clear hi)))
          have n0_ := Aside0.mk (blk_drew BK122.out)
          have n1_ := Aside0.mk (below_drew1 HB.out)
          clear BK122
          clear HB
          have BK122 := n0_
          have HB := n1_
          clear n0_ n1_
          refine start_ (n := 10) (S := fun w' => w'.cell? ⟨gb122, 0, none⟩ = some (.slice A0_0 l0_0.length c0_0) ∧ w'.cell? ⟨gb122, 1, none⟩ = some (.slice A0_1 l0_1.length c0_1) ∧ w'.cell? ⟨gb122, 2, none⟩ = some (.slice A0_2 l0_2.length c0_2)) (ds := []) #[false, false, false, false, false, false, false, false, false, false] (by kernel_rfl) rfl rfl ⟨(blk_cell BK122.out 0).trans rfl, (blk_cell BK122.out 1).trans rfl, (blk_cell BK122.out 2).trans rfl⟩ (fun hHeld => ?_); refine with_tabW pkey_Sign.tab5 pkey_Sign.bits5 (fun HT_ HW_ => ?_)
          generalize w23.drew = w24 at BK122 HB hHeld ⊢
          refine pure_ (i := 3) (N := some 21) (v := ?_) (a' := ?_) #[false, false, false, true, false, false, false, false, false, false] rfl rfl (any_of HT_.out (by kernel_rfl)) (fun _ _ _ h => h) (Or.inl ⟨by rfl, ?_⟩) ?_ ?_
          rotate_left
          · intro w'
            go_simp
            with_reducible rfl
          rotate_left
          · simp only [Act.put, List.setIfInBounds_toArray, List.set_cons_zero, List.set_cons_succ, i64_w, i32_w]
            rfl
          refine pure_ (i := 5) (N := some 23) (v := ?_) (a' := ?_) #[false, false, false, true, false, true, false, false, false, false] rfl rfl (any_of HT_.out (by kernel_rfl)) (fun _ _ _ h => h) (Or.inl ⟨by rfl, ?_⟩) ?_ ?_
          rotate_left
          · intro w'
            go_simp
            with_reducible rfl
          rotate_left
          · simp only [Act.put, List.setIfInBounds_toArray, List.set_cons_zero, List.set_cons_succ, i64_w, i32_w]
            rfl
          refine take_ (i := 0) (N := some 18) (v := ?_) (a' := ?_) #[true, false, false, true, false, true, false, false, false, false] rfl rfl (take_ofW HT_.out HW_.out (by kernel_rfl)) (fun _ _ _ h => h) (Or.inl ⟨by rfl, ?_⟩) hHeld ?_ ?_
          rotate_left
          · rintro w' ⟨s0, s1, s2⟩
            go_simp
            with_reducible rfl
          rotate_left
          · simp only [Act.put, List.setIfInBounds_toArray, List.set_cons_zero, List.set_cons_succ, i64_w, i32_w]
            rfl
          refine take_ (i := 1) (N := some 19) (v := ?_) (a' := ?_) #[true, true, false, true, false, true, false, false, false, false] rfl rfl (take_ofW HT_.out HW_.out (by kernel_rfl)) (fun _ _ _ h => h) (Or.inl ⟨by rfl, ?_⟩) hHeld ?_ ?_
          rotate_left
          · rintro w' ⟨s0, s1, s2⟩
            go_simp
            with_reducible rfl
          rotate_left
          · simp only [Act.put, List.setIfInBounds_toArray, List.set_cons_zero, List.set_cons_succ, i64_w, i32_w]
            rfl
          refine take_ (i := 6) (N := some 24) (v := ?_) (a' := ?_) #[true, true, false, true, false, true, true, false, false, false] rfl rfl (take_ofW HT_.out HW_.out (by kernel_rfl)) (fun _ _ _ h => h) (Or.inl ⟨by rfl, ?_⟩) hHeld ?_ ?_
          rotate_left
          · rintro w' ⟨s0, s1, s2⟩
            go_simp
            with_reducible rfl
          rotate_left
          · simp only [Act.put, List.setIfInBounds_toArray, List.set_cons_zero, List.set_cons_succ, i64_w, i32_w]
            rfl
          refine one_ (i := 2) (N := some 20) #[true, true, true, true, false, true, true, false, false, false] rfl rfl (one_of HT_.out (by kernel_rfl)) (by decide) (fun K hK => ?_)
          refine goes_ Try.func17 (by kernel_rfl) rfl #[.agg #[.slice A0_0 l0_0.length c0_0, .slice A0_1 l0_1.length c0_1, .slice A0_2 l0_2.length c0_2]] (by rfl) rfl rfl (by (try simp only [List.map_toArray, List.map_cons, List.map_nil]); first | done | rfl | (simp only [List.length_drop, List.length_take]; rfl)) ?_
          with_reducible refine (pkey_Size.calls _ _ l0_0 _ _ l0_1 _ _ l0_2 t126 _ ?side1 ?side2 ?side3 ?side4 ?side5 ?side6 A19.out).mono ?_
          (case side1 => repeat (first | exact (Kd.C_below HR0_0.out HB.out) | (with_reducible refine Kd.C_alloc ?_ _) | (with_reducible refine Kd.C_drewN ?_ _) | (with_reducible refine Kd.C_drew ?_)))
          (case side2 => exact HC0_0.out)
          (case side3 => repeat (first | exact (Kd.C_below HR0_1.out HB.out) | (with_reducible refine Kd.C_alloc ?_ _) | (with_reducible refine Kd.C_drewN ?_ _) | (with_reducible refine Kd.C_drew ?_)))
          (case side4 => exact HC0_1.out)
          (case side5 => repeat (first | exact (Kd.C_below HR0_2.out HB.out) | (with_reducible refine Kd.C_alloc ?_ _) | (with_reducible refine Kd.C_drewN ?_ _) | (with_reducible refine Kd.C_drew ?_)))
          (case side6 => exact HC0_2.out)
          rintro e w25 ⟨rfl, hb⟩
          refine ⟨_, rfl, ?_⟩
          have n0_ := Aside0.mk (blk_below (g := gb122) (o := .cells #[.slice A0_0 l0_0.length c0_0, .slice A0_1 l0_1.length c0_1, .slice A0_2 l0_2.length c0_2] 26 (0, 0)) (by (with_reducible repeat (first | refine blk_drewN ?_ _ | refine blk_drew ?_ | refine blk_alloc ?_ _)); exact BK122.out) hb)
          have n1_ := Aside0.mk (below_step (by repeat (first | (with_reducible first | exact HB.out | apply below_alloc | apply pw_below_drewN | apply below_drew1 | refine below_set ?_ GE122.out) | exact HB.out)) hb)
          clear BK122
          clear HB
          have BK122 := n0_
          have HB := n1_
          clear n0_ n1_
          (try clear hb)
          (try clear hb2)
          (try clear hk)
          (try clear hi)
          refine hK.out _ _ ⟨(blk_cell BK122.out 0).trans rfl, (blk_cell BK122.out 1).trans rfl, (blk_cell BK122.out 2).trans rfl⟩ (fun hHeld => ?_)
          clear hK K
          refine norm_ (a' := ?_) ?_ ?_
          rotate_left
          · show Act.put _ (some 20) _ = _
            simp only [Act.put, List.setIfInBounds_toArray, List.set_cons_zero, List.set_cons_succ, i64_w, i32_w]
            rfl
          refine one_ (i := 4) (N := some 22) #[true, true, true, true, true, true, true, false, false, false] rfl rfl (one_of HT_.out (by kernel_rfl)) (by decide) (fun K hK => ?_)
          refine goes_ Try.func50 (by kernel_rfl) rfl #[.int .i64 t126, .slice A1 l1.length c1] (by rfl) rfl rfl (by (try simp only [List.map_toArray, List.map_cons, List.map_nil]); first | done | rfl | (simp only [List.length_drop, List.length_take]; rfl)) ?_
          with_reducible refine (pkey_signed.calls t126 _ _ l1 t127 _ ?side1 ?side2 A20.out).mono ?_
          (case side1 => repeat (first | exact (Kd.C_below HR1.out HB.out) | (with_reducible refine Kd.C_alloc ?_ _) | (with_reducible refine Kd.C_drewN ?_ _) | (with_reducible refine Kd.C_drew ?_)))
          (case side2 => exact HC1.out)
          rintro e w26 ⟨v128, rfl, ho0, hb⟩
          refine ⟨_, rfl, ?_⟩
          have n0_ := Aside0.mk (Kd.R_lower ho0 (below_size (by repeat (first | (with_reducible first | exact HB.out | apply below_alloc | apply pw_below_drewN | apply below_drew1 | refine below_set ?_ GE122.out) | exact HB.out))))
          have n1_ := Aside0.mk (blk_below (g := gb122) (o := .cells #[.slice A0_0 l0_0.length c0_0, .slice A0_1 l0_1.length c0_1, .slice A0_2 l0_2.length c0_2] 26 (0, 0)) (by (with_reducible repeat (first | refine blk_drewN ?_ _ | refine blk_drew ?_ | refine blk_alloc ?_ _)); exact BK122.out) hb)
          have n2_ := Aside0.mk (below_step (by repeat (first | (with_reducible first | exact HB.out | apply below_alloc | apply pw_below_drewN | apply below_drew1 | refine below_set ?_ GE122.out) | exact HB.out)) hb)
          clear BK122
          clear HB
          have HO129 := n0_
          have BK122 := n1_
          have HB := n2_
          clear n0_ n1_ n2_
          (try clear hb)
          (try clear hb2)
          (try clear hk)
          (try clear hi)
          (try clear ho0)
          obtain ⟨Ao27, co27, eo27⟩ := Kd.R_slice HO129.out
          (first | subst eo27 | (injection eo27 with f1_ f2_ f3_; have f4_ := f1_.symm; have f5_ := f3_.symm; clear f1_ f2_ f3_; subst f4_; subst f5_))
          refine hK.out _ _ ⟨(blk_cell BK122.out 0).trans rfl, (blk_cell BK122.out 1).trans rfl, (blk_cell BK122.out 2).trans rfl⟩ (fun hHeld => ?_)
          clear hK K
          refine norm_ (a' := ?_) ?_ ?_
          rotate_left
          · show Act.put _ (some 22) _ = _
            simp only [Act.put, List.setIfInBounds_toArray, List.set_cons_zero, List.set_cons_succ, i64_w, i32_w]
            rfl
          refine one_ (i := 7) (N := some 25) #[true, true, true, true, true, true, true, true, false, false] rfl rfl (one_of HT_.out (by kernel_rfl)) (by decide) (fun K hK => ?_)
          refine goes_ Try.func49 (by kernel_rfl) rfl #[.agg #[.slice A0_0 l0_0.length c0_0, .slice A0_1 l0_1.length c0_1, .slice A0_2 l0_2.length c0_2], .slice Ao27 t127.length co27, .slice A0_2 l0_2.length c0_2] (by rfl) rfl rfl (by (try simp only [List.map_toArray, List.map_cons, List.map_nil]); first | done | rfl | (simp only [List.length_drop, List.length_take]; rfl)) ?_
          with_reducible refine (pkey_work.calls _ _ l0_0 _ _ l0_1 _ _ l0_2 _ _ t127 _ _ l0_2 t130 _ ?side1 ?side2 ?side3 ?side4 ?side5 ?side6 ?side7 ?side8 ?side9 ?side10 A21.out).mono ?_
          (case side1 => repeat (first | exact (Kd.C_below HR0_0.out HB.out) | (with_reducible refine Kd.C_alloc ?_ _) | (with_reducible refine Kd.C_drewN ?_ _) | (with_reducible refine Kd.C_drew ?_)))
          (case side2 => exact HC0_0.out)
          (case side3 => repeat (first | exact (Kd.C_below HR0_1.out HB.out) | (with_reducible refine Kd.C_alloc ?_ _) | (with_reducible refine Kd.C_drewN ?_ _) | (with_reducible refine Kd.C_drew ?_)))
          (case side4 => exact HC0_1.out)
          (case side5 => repeat (first | exact (Kd.C_below HR0_2.out HB.out) | (with_reducible refine Kd.C_alloc ?_ _) | (with_reducible refine Kd.C_drewN ?_ _) | (with_reducible refine Kd.C_drew ?_)))
          (case side6 => exact HC0_2.out)
          (case side7 => repeat (first | exact (Kd.R_reads' HO129.out).2.2 | (with_reducible refine Kd.C_alloc ?_ _) | (with_reducible refine Kd.C_drewN ?_ _) | (with_reducible refine Kd.C_drew ?_)))
          (case side8 => exact (Kd.R_reads' HO129.out).2.1)
          (case side9 => repeat (first | exact (Kd.C_below HR0_2.out HB.out) | (with_reducible refine Kd.C_alloc ?_ _) | (with_reducible refine Kd.C_drewN ?_ _) | (with_reducible refine Kd.C_drew ?_)))
          (case side10 => exact HC0_2.out)
          rintro e w28 ⟨v131, rfl, ho0, hb⟩
          refine ⟨_, rfl, ?_⟩
          have n0_ := Aside0.mk (Kd.R_elder' (by (with_reducible repeat (first | apply Kd.R_alloc | apply Kd.R_drewN | apply Kd.R_drew)); exact HO129.out) (Kd.R_base ho0) hb)
          have n1_ := Aside0.mk (Kd.R_lower (Kd.R_new' ho0 (Kd.R_lt (by (with_reducible repeat (first | apply Kd.R_alloc | apply Kd.R_drewN | apply Kd.R_drew)); exact HO129.out))) (below_size (by repeat (first | (with_reducible first | exact HB.out | apply below_alloc | apply pw_below_drewN | apply below_drew1 | refine below_set ?_ GE122.out) | exact HB.out))))
          have n2_ := Aside0.mk (blk_below (g := gb122) (o := .cells #[.slice A0_0 l0_0.length c0_0, .slice A0_1 l0_1.length c0_1, .slice A0_2 l0_2.length c0_2] 26 (0, 0)) (by (with_reducible repeat (first | refine blk_drewN ?_ _ | refine blk_drew ?_ | refine blk_alloc ?_ _)); exact BK122.out) hb)
          have n3_ := Aside0.mk (below_step (by repeat (first | (with_reducible first | exact HB.out | apply below_alloc | apply pw_below_drewN | apply below_drew1 | refine below_set ?_ GE122.out) | exact HB.out)) hb)
          clear HO129
          clear BK122
          clear HB
          have HO129 := n0_
          have HO132 := n1_
          have BK122 := n2_
          have HB := n3_
          clear n0_ n1_ n2_ n3_
          (try clear hb)
          (try clear hb2)
          (try clear hk)
          (try clear hi)
          (try clear ho0)
          refine hK.out _ _ ⟨(blk_cell BK122.out 0).trans rfl, (blk_cell BK122.out 1).trans rfl, (blk_cell BK122.out 2).trans rfl⟩ (fun hHeld => ?_)
          clear hK K
          refine norm_ (a' := ?_) ?_ ?_
          rotate_left
          · show Act.put _ (some 25) _ = _
            simp only [Act.put, List.setIfInBounds_toArray, List.set_cons_zero, List.set_cons_succ, i64_w, i32_w]
            rfl
          refine pure_ (i := 8) (N := some 4) (v := ?_) (a' := ?_) #[true, true, true, true, true, true, true, true, true, false] rfl rfl (any_of HT_.out (by kernel_rfl)) (fun _ _ _ h => h) (Or.inl ⟨by rfl, ?_⟩) ?_ ?_
          rotate_left
          · intro w'
            go_simp
            with_reducible rfl
          rotate_left
          · simp only [Act.put, List.setIfInBounds_toArray, List.set_cons_zero, List.set_cons_succ, i64_w, i32_w]
            rfl
          refine pure_ (i := 9) (N := some 5) (v := ?_) (a' := ?_) #[true, true, true, true, true, true, true, true, true, true] rfl rfl (any_of HT_.out (by kernel_rfl)) (fun _ _ _ h => h) (Or.inl ⟨by rfl, ?_⟩) ?_ ?_
          rotate_left
          · intro w'
            go_simp
            with_reducible rfl
          rotate_left
          · simp only [Act.put, List.setIfInBounds_toArray, List.set_cons_zero, List.set_cons_succ, i64_w, i32_w]
            rfl
          refine done_ (done_of HT_.out (by kernel_rfl)) ?_
          try go_wp2
          go_ret2
          exact ⟨_, by first | rfl | (simp [errW_none, errW_some] <;> rfl) | (simp [*, errW_none, errW_some] <;> rfl), by (with_reducible repeat (first | apply Kd.R_alloc | apply Kd.R_drewN | apply Kd.R_drew)); exact Kd.R_mono HO132.out (fun _ hk => trivial), by repeat (first | (with_reducible first | exact HB.out | apply below_alloc | apply pw_below_drewN | apply below_drew1 | refine below_set ?_ GE122.out) | exact HB.out)⟩
def nat_Cmp.f (l0 : List Int) (l1 : List Int) : Option (Int) := if okN 262144 l0 ∧ okN 262144 l1 then some (cmpN (nI l0) (nI l1)) else none
theorem nat_Cmp.calls (A0 : Option Addr) (c0 : Nat) (l0 : List Int) (A1 : Option Addr) (c1 : Nat) (l1 : List Int) (r : Int) (w : World) (hr0 : Kd.C (Kd.int .u64) w A0 l0.length l0) (hc0 : l0.length ≤ c0) (hr1 : Kd.C (Kd.int .u64) w A1 l1.length l1) (hc1 : l1.length ≤ c1) (h : nat_Cmp.f l0 l1 = some r) :
    Calls Try.prog 33 #[.slice A0 l0.length c0, .slice A1 l1.length c1] w fun e w' => e = .returned (.int .i64 r) ∧ Drawn0 w w' := by
  exact cmp_giv hr0 hc0 hr1 hc1 h
end Go.Proofs.Ytdmglajfmfjmlaa.Cp
namespace Go.Proofs.Ytdmglajfmfjmlaa.Cp
open Go.RowKit Go.Proofs.YtdmglajfmfjmlaaW.PrintWords Go.Proofs.YtdmglajfmfjmlaaW.PrintLast Go.Proofs.YtdmglajfmfjmlaaW.PrintMore
attribute [local go_sem] max2_int min2_int max_two min_two max_three min_three max_four min_four   -- for this text's walks alone
set_option linter.unusedVariables false
set_option linter.unusedSimpArgs false
def pkey_fits.f (l0_0 : List Int) (l0_1 : List Int) (l0_2 : List Int) (l1 : List Int) : Option (Bool) := (pkey_Size.f l0_0 l0_1 l0_2).bind fun t134 => (if (l1.length : Int) = t134 then ((nat_Read.f l1).bind fun t135 => ((nat_Cmp.f t135 l0_0).bind fun t138 => (some (decide (t138 < 0))))) else (some false))
def pkey_fits.T1 : Bool × List (List Nat × List Nat) := (true, [([], []), ([0], [0]), ([], []), ([2], [2]), ([1, 3], [1, 3]), ([4, 3], [4]), ([5], [5]), ([6, 5, 5], [5, 6]), ([5], [5]), ([8, 5], [5, 8]), ([7, 9, 7, 5], [5, 7, 9]), ([10, 5], [5, 10]), ([5, 11], [5, 11]), ([12, 10, 0, 1, 2, 3, 4, 5, 6, 7, 8, 9, 10, 11, 12], [12])])
def pkey_fits.B1 : List Nat := [0, 1, 0, 4, 15, 31, 63, 127, 63, 319, 1023, 2047, 4095, 8191]
theorem pkey_fits.tab1 : rtab .any (opsOf Try.f51 1) = pkey_fits.T1 := by kernel_rfl
theorem pkey_fits.bits1 : waitsOk pkey_fits.T1.2 pkey_fits.B1 = true := by kernel_rfl
set_option maxHeartbeats 8000000 in
set_option maxRecDepth 100000 in
theorem pkey_fits.calls (A0_0 : Option Addr) (c0_0 : Nat) (l0_0 : List Int) (A0_1 : Option Addr) (c0_1 : Nat) (l0_1 : List Int) (A0_2 : Option Addr) (c0_2 : Nat) (l0_2 : List Int) (A1 : Option Addr) (c1 : Nat) (l1 : List Int) (r : Bool) (w : World) (hr0_0 : Kd.C (Kd.int .u64) w A0_0 l0_0.length l0_0) (hc0_0 : l0_0.length ≤ c0_0) (hr0_1 : Kd.C (Kd.int .u64) w A0_1 l0_1.length l0_1) (hc0_1 : l0_1.length ≤ c0_1) (hr0_2 : Kd.C (Kd.int .u64) w A0_2 l0_2.length l0_2) (hc0_2 : l0_2.length ≤ c0_2) (hr1 : Kd.C (Kd.int .u8) w A1 l1.length l1) (hc1 : l1.length ≤ c1) (h : pkey_fits.f l0_0 l0_1 l0_2 l1 = some r) :
    Calls Try.prog 51 #[.agg #[.slice A0_0 l0_0.length c0_0, .slice A0_1 l0_1.length c0_1, .slice A0_2 l0_2.length c0_2], .slice A1 l1.length c1] w fun e w' => e = .returned (.bool r) ∧ Below w.heap.size w w' := by
  have hu26 := Try.underlying26
  have HR0_0 := Aside0.mk hr0_0
  have HC0_0 := Aside0.mk hc0_0
  clear hr0_0 hc0_0
  have HR0_1 := Aside0.mk hr0_1
  have HC0_1 := Aside0.mk hc0_1
  clear hr0_1 hc0_1
  have HR0_2 := Aside0.mk hr0_2
  have HC0_2 := Aside0.mk hc0_2
  clear hr0_2 hc0_2
  have HR1 := Aside0.mk hr1
  have HC1 := Aside0.mk hc1
  clear hr1 hc1
  have HB := Aside0.mk (Below.refl w.heap.size w)
  have H : ((pkey_Size.f l0_0 l0_1 l0_2).bind fun t134 => (if (l1.length : Int) = t134 then ((nat_Read.f l1).bind fun t135 => ((nat_Cmp.f t135 l0_0).bind fun t138 => (some (decide (t138 < 0))))) else (some false))) = some r := h
  clear h
  replace H := Option.bind_eq_some_iff.mp H
  obtain ⟨t134, A30, H⟩ := H
  replace H : (if (l1.length : Int) = t134 then ((nat_Read.f l1).bind fun t135 => ((nat_Cmp.f t135 l0_0).bind fun t138 => (some (decide (t138 < 0))))) else (some false)) = some r := H
  have A3 := Aside0.mk A30
  clear A30
  by_cases c4 : (l1.length : Int) = t134
  · rw [if_pos c4] at H
    have c4b0 : ((l1.length : Int) == t134) = true := beq_iff_eq.mpr c4
    have c4b1 : ((l1.length : Int) != t134) = false := bne_eq_false_iff_eq.mpr c4
    clear c4
    replace H := Option.bind_eq_some_iff.mp H
    obtain ⟨t135, A50, H⟩ := H
    replace H : ((nat_Cmp.f t135 l0_0).bind fun t138 => (some (decide (t138 < 0)))) = some r := H
    have A5 := Aside0.mk A50
    clear A50
    replace H := Option.bind_eq_some_iff.mp H
    obtain ⟨t138, A60, H⟩ := H
    replace H : (some (decide (t138 < 0))) = some r := H
    have A6 := Aside0.mk A60
    clear A60
    obtain rfl := Option.some.inj H
    simp only [Option.some.injEq, Prod.mk.injEq] at H
    obtain ⟨rfl⟩ := H
    go_enter Try.func51, Try.ntmps51
    try go_wp2_with (first | ((with_reducible refine gate_dst (N := 2) rfl ?_); refine box_event ?hg (N := 2) ?hd (cs := #[.slice A0_0 l0_0.length c0_0, .slice A0_1 l0_1.length c0_1, .slice A0_2 l0_2.length c0_2]) (t := 26) ?hr ?_; (case hd => rfl); (case hg => rfl); (case hr => first | (go_simp; done) | (go_simp; rfl)); intro gb133 hg w7 hbox hb; have n0_ := Aside0.mk (below_step (by repeat (first | (with_reducible first | exact HB.out | apply below_alloc | apply pw_below_drewN | apply below_drew1) | exact HB.out)) hb); have n1_ := Aside0.mk (hbox); have n2_ := Aside0.mk ((by rw [hg]; exact (below_size (by repeat (first | (with_reducible first | exact HB.out | apply below_alloc | apply pw_below_drewN | apply below_drew1) | exact HB.out))) : w.heap.size ≤ gb133)); have n3_ := Aside0.mk ((by rw [hg]; exact (below_size (by repeat (first | (with_reducible first | exact HB.out | apply below_alloc | apply pw_below_drewN | apply below_drew1) | exact HB.out))) : w.heap.size ≤ gb133)); clear HB; have HB := n0_; have BK133 := n1_; have GW133 := n2_; have GE133 := n3_; clear n0_ n1_ n2_ n3_; clear hb hbox hg))
    have n0_ := Aside0.mk (blk_drew BK133.out)
    have n1_ := Aside0.mk (below_drew1 HB.out)
    clear BK133
    clear HB
    have BK133 := n0_
    have HB := n1_
    clear n0_ n1_
    refine start_ (n := 14) (S := fun w' => w'.cell? ⟨gb133, 0, none⟩ = some (.slice A0_0 l0_0.length c0_0) ∧ w'.cell? ⟨gb133, 1, none⟩ = some (.slice A0_1 l0_1.length c0_1) ∧ w'.cell? ⟨gb133, 2, none⟩ = some (.slice A0_2 l0_2.length c0_2)) (ds := []) #[false, false, false, false, false, false, false, false, false, false, false, false, false, false] (by kernel_rfl) rfl rfl ⟨(blk_cell BK133.out 0).trans rfl, (blk_cell BK133.out 1).trans rfl, (blk_cell BK133.out 2).trans rfl⟩ (fun hHeld => ?_); refine with_tabW pkey_fits.tab1 pkey_fits.bits1 (fun HT_ HW_ => ?_)
    generalize w7.drew = w8 at BK133 HB hHeld ⊢
    refine pure_ (i := 0) (N := some 5) (v := ?_) (a' := ?_) #[true, false, false, false, false, false, false, false, false, false, false, false, false, false] rfl rfl (any_of HT_.out (by kernel_rfl)) (fun _ _ _ h => h) (Or.inl ⟨by rfl, ?_⟩) ?_ ?_
    rotate_left
    · intro w'
      go_simp
      with_reducible rfl
    rotate_left
    · simp only [Act.put, List.setIfInBounds_toArray, List.set_cons_zero, List.set_cons_succ, i64_w, i32_w]
      rfl
    refine pure_ (i := 1) (N := some 6) (v := ?_) (a' := ?_) #[true, true, false, false, false, false, false, false, false, false, false, false, false, false] rfl rfl (any_of HT_.out (by kernel_rfl)) (fun _ _ _ h => h) (Or.inl ⟨by rfl, ?_⟩) ?_ ?_
    rotate_left
    · intro w'
      go_simp
      with_reducible rfl
    rotate_left
    · simp only [Act.put, List.setIfInBounds_toArray, List.set_cons_zero, List.set_cons_succ, i64_w, i32_w]
      rfl
    refine take_ (i := 2) (N := some 7) (v := ?_) (a' := ?_) #[true, true, true, false, false, false, false, false, false, false, false, false, false, false] rfl rfl (take_ofW HT_.out HW_.out (by kernel_rfl)) (fun _ _ _ h => h) (Or.inl ⟨by rfl, ?_⟩) hHeld ?_ ?_
    rotate_left
    · rintro w' ⟨s0, s1, s2⟩
      go_simp
      with_reducible rfl
    rotate_left
    · simp only [Act.put, List.setIfInBounds_toArray, List.set_cons_zero, List.set_cons_succ, i64_w, i32_w]
      rfl
    refine one_ (i := 3) (N := some 8) #[true, true, true, true, false, false, false, false, false, false, false, false, false, false] rfl rfl (one_of HT_.out (by kernel_rfl)) (by decide) (fun K hK => ?_)
    refine goes_ Try.func17 (by kernel_rfl) rfl #[.agg #[.slice A0_0 l0_0.length c0_0, .slice A0_1 l0_1.length c0_1, .slice A0_2 l0_2.length c0_2]] (by rfl) rfl rfl (by (try simp only [List.map_toArray, List.map_cons, List.map_nil]); first | done | rfl | (simp only [List.length_drop, List.length_take]; rfl)) ?_
    with_reducible refine (pkey_Size.calls _ _ l0_0 _ _ l0_1 _ _ l0_2 t134 _ ?side1 ?side2 ?side3 ?side4 ?side5 ?side6 A3.out).mono ?_
    (case side1 => repeat (first | exact (Kd.C_below HR0_0.out HB.out) | (with_reducible refine Kd.C_alloc ?_ _) | (with_reducible refine Kd.C_drewN ?_ _) | (with_reducible refine Kd.C_drew ?_)))
    (case side2 => exact HC0_0.out)
    (case side3 => repeat (first | exact (Kd.C_below HR0_1.out HB.out) | (with_reducible refine Kd.C_alloc ?_ _) | (with_reducible refine Kd.C_drewN ?_ _) | (with_reducible refine Kd.C_drew ?_)))
    (case side4 => exact HC0_1.out)
    (case side5 => repeat (first | exact (Kd.C_below HR0_2.out HB.out) | (with_reducible refine Kd.C_alloc ?_ _) | (with_reducible refine Kd.C_drewN ?_ _) | (with_reducible refine Kd.C_drew ?_)))
    (case side6 => exact HC0_2.out)
    rintro e w9 ⟨rfl, hb⟩
    refine ⟨_, rfl, ?_⟩
    have n0_ := Aside0.mk (blk_below (g := gb133) (o := .cells #[.slice A0_0 l0_0.length c0_0, .slice A0_1 l0_1.length c0_1, .slice A0_2 l0_2.length c0_2] 26 (0, 0)) (by (with_reducible repeat (first | refine blk_drewN ?_ _ | refine blk_drew ?_ | refine blk_alloc ?_ _)); exact BK133.out) hb)
    have n1_ := Aside0.mk (below_step (by repeat (first | (with_reducible first | exact HB.out | apply below_alloc | apply pw_below_drewN | apply below_drew1 | refine below_set ?_ GE133.out) | exact HB.out)) hb)
    clear BK133
    clear HB
    have BK133 := n0_
    have HB := n1_
    clear n0_ n1_
    (try clear hb)
    (try clear hb2)
    (try clear hk)
    (try clear hi)
    refine hK.out _ _ ⟨(blk_cell BK133.out 0).trans rfl, (blk_cell BK133.out 1).trans rfl, (blk_cell BK133.out 2).trans rfl⟩ (fun hHeld => ?_)
    clear hK K
    refine norm_ (a' := ?_) ?_ ?_
    rotate_left
    · show Act.put _ (some 8) _ = _
      simp only [Act.put, List.setIfInBounds_toArray, List.set_cons_zero, List.set_cons_succ, i64_w, i32_w]
      rfl
    refine pure_ (i := 4) (N := some 9) (v := ?_) (a' := ?_) #[true, true, true, true, true, false, false, false, false, false, false, false, false, false] rfl rfl (any_of HT_.out (by kernel_rfl)) (fun _ _ _ h => h) (Or.inl ⟨by rfl, ?_⟩) ?_ ?_
    rotate_left
    · intro w'
      go_simp
      with_reducible rfl
    rotate_left
    · simp only [Act.put, List.setIfInBounds_toArray, List.set_cons_zero, List.set_cons_succ, i64_w, i32_w]
      rfl
    refine pure_ (i := 5) (N := some 10) (v := ?_) (a' := ?_) #[true, true, true, true, true, true, false, false, false, false, false, false, false, false] rfl rfl (any_of HT_.out (by kernel_rfl)) (fun _ _ _ h => h) (Or.inl ⟨by rfl, ?_⟩) ?_ ?_
    rotate_left
    · intro w'
      go_simp
      with_reducible rfl
    rotate_left
    · simp only [Act.put, List.setIfInBounds_toArray, List.set_cons_zero, List.set_cons_succ, i64_w, i32_w]
      rfl
    refine pure_ (i := 6) (N := some 11) (v := ?_) (a' := ?_) #[true, true, true, true, true, true, true, false, false, false, false, false, false, false] rfl rfl (any_of HT_.out (by kernel_rfl)) (fun _ _ _ h => h) (Or.inl ⟨by rfl, ?_⟩) ?_ ?_
    rotate_left
    · intro w'
      go_simp
      with_reducible rfl
    rotate_left
    · simp only [Act.put, List.setIfInBounds_toArray, List.set_cons_zero, List.set_cons_succ, i64_w, i32_w]
      rfl
    refine pure_ (i := 8) (N := some 13) (v := ?_) (a' := ?_) #[true, true, true, true, true, true, true, false, true, false, false, false, false, false] rfl rfl (any_of HT_.out (by kernel_rfl)) (fun _ _ _ h => h) (Or.inl ⟨by rfl, ?_⟩) ?_ ?_
    rotate_left
    · intro w'
      go_simp
      with_reducible rfl
    rotate_left
    · simp only [Act.put, List.setIfInBounds_toArray, List.set_cons_zero, List.set_cons_succ, i64_w, i32_w]
      rfl
    refine take_ (i := 9) (N := some 14) (v := ?_) (a' := ?_) #[true, true, true, true, true, true, true, false, true, true, false, false, false, false] rfl rfl (take_ofW HT_.out HW_.out (by kernel_rfl)) (fun _ _ _ h => h) (Or.inl ⟨by rfl, ?_⟩) hHeld ?_ ?_
    rotate_left
    · rintro w' ⟨s0, s1, s2⟩
      go_simp
      with_reducible rfl
    rotate_left
    · simp only [Act.put, List.setIfInBounds_toArray, List.set_cons_zero, List.set_cons_succ, i64_w, i32_w]
      rfl
    refine one_ (i := 7) (N := some 12) #[true, true, true, true, true, true, true, true, true, true, false, false, false, false] rfl rfl (one_of HT_.out (by kernel_rfl)) (by decide) (fun K hK => ?_)
    refine goes_ Try.func90 (by kernel_rfl) rfl #[.slice A1 l1.length c1] (by rfl) rfl rfl (by (try simp only [List.map_toArray, List.map_cons, List.map_nil]); first | done | rfl | (simp only [List.length_drop, List.length_take]; rfl)) ?_
    with_reducible refine (nat_Read.calls _ _ l1 t135 _ ?side1 ?side2 A5.out).mono ?_
    (case side1 => repeat (first | exact (Kd.C_below HR1.out HB.out) | (with_reducible refine Kd.C_alloc ?_ _) | (with_reducible refine Kd.C_drewN ?_ _) | (with_reducible refine Kd.C_drew ?_)))
    (case side2 => exact HC1.out)
    rintro e w10 ⟨v136, rfl, ho0, hb⟩
    refine ⟨_, rfl, ?_⟩
    have n0_ := Aside0.mk (Kd.R_lower ho0 (below_size (by repeat (first | (with_reducible first | exact HB.out | apply below_alloc | apply pw_below_drewN | apply below_drew1 | refine below_set ?_ GE133.out) | exact HB.out))))
    have n1_ := Aside0.mk (blk_below (g := gb133) (o := .cells #[.slice A0_0 l0_0.length c0_0, .slice A0_1 l0_1.length c0_1, .slice A0_2 l0_2.length c0_2] 26 (0, 0)) (by (with_reducible repeat (first | refine blk_drewN ?_ _ | refine blk_drew ?_ | refine blk_alloc ?_ _)); exact BK133.out) hb)
    have n2_ := Aside0.mk (below_step (by repeat (first | (with_reducible first | exact HB.out | apply below_alloc | apply pw_below_drewN | apply below_drew1 | refine below_set ?_ GE133.out) | exact HB.out)) hb)
    clear BK133
    clear HB
    have HO137 := n0_
    have BK133 := n1_
    have HB := n2_
    clear n0_ n1_ n2_
    (try clear hb)
    (try clear hb2)
    (try clear hk)
    (try clear hi)
    (try clear ho0)
    obtain ⟨Ao11, co11, eo11⟩ := Kd.R_slice HO137.out
    (first | subst eo11 | (injection eo11 with f1_ f2_ f3_; have f4_ := f1_.symm; have f5_ := f3_.symm; clear f1_ f2_ f3_; subst f4_; subst f5_))
    refine hK.out _ _ ⟨(blk_cell BK133.out 0).trans rfl, (blk_cell BK133.out 1).trans rfl, (blk_cell BK133.out 2).trans rfl⟩ (fun hHeld => ?_)
    clear hK K
    refine norm_ (a' := ?_) ?_ ?_
    rotate_left
    · show Act.put _ (some 12) _ = _
      simp only [Act.put, List.setIfInBounds_toArray, List.set_cons_zero, List.set_cons_succ, i64_w, i32_w]
      rfl
    refine one_ (i := 10) (N := some 15) #[true, true, true, true, true, true, true, true, true, true, true, false, false, false] rfl rfl (one_of HT_.out (by kernel_rfl)) (by decide) (fun K hK => ?_)
    refine goes_ Try.func33 (by kernel_rfl) rfl #[.slice Ao11 t135.length co11, .slice A0_0 l0_0.length c0_0] (by rfl) rfl rfl (by (try simp only [List.map_toArray, List.map_cons, List.map_nil]); first | done | rfl | (simp only [List.length_drop, List.length_take]; rfl)) ?_
    with_reducible refine (nat_Cmp.calls _ _ t135 _ _ l0_0 t138 _ ?side1 ?side2 ?side3 ?side4 A6.out).mono ?_
    (case side1 => repeat (first | exact (Kd.R_reads' HO137.out).2.2 | (with_reducible refine Kd.C_alloc ?_ _) | (with_reducible refine Kd.C_drewN ?_ _) | (with_reducible refine Kd.C_drew ?_)))
    (case side2 => exact (Kd.R_reads' HO137.out).2.1)
    (case side3 => repeat (first | exact (Kd.C_below HR0_0.out HB.out) | (with_reducible refine Kd.C_alloc ?_ _) | (with_reducible refine Kd.C_drewN ?_ _) | (with_reducible refine Kd.C_drew ?_)))
    (case side4 => exact HC0_0.out)
    rintro e w' ⟨rfl, ⟨nd, rfl⟩⟩
    refine ⟨_, rfl, ?_⟩
    refine hK.out _ _ ⟨(blk_cell BK133.out 0).trans rfl, (blk_cell BK133.out 1).trans rfl, (blk_cell BK133.out 2).trans rfl⟩ (fun hHeld => ?_)
    clear hK K
    refine norm_ (a' := ?_) ?_ ?_
    rotate_left
    · show Act.put _ (some 15) _ = _
      simp only [Act.put, List.setIfInBounds_toArray, List.set_cons_zero, List.set_cons_succ, i64_w, i32_w]
      rfl
    refine pure_ (i := 11) (N := some 16) (v := ?_) (a' := ?_) #[true, true, true, true, true, true, true, true, true, true, true, true, false, false] rfl rfl (any_of HT_.out (by kernel_rfl)) (fun _ _ _ h => h) (Or.inl ⟨by rfl, ?_⟩) ?_ ?_
    rotate_left
    · intro w'
      go_simp
      with_reducible rfl
    rotate_left
    · simp only [Act.put, List.setIfInBounds_toArray, List.set_cons_zero, List.set_cons_succ, i64_w, i32_w]
      rfl
    refine pure_ (i := 12) (N := some 17) (v := ?_) (a' := ?_) #[true, true, true, true, true, true, true, true, true, true, true, true, true, false] rfl rfl (any_of HT_.out (by kernel_rfl)) (fun _ _ _ h => h) (Or.inl ⟨by rfl, ?_⟩) ?_ ?_
    rotate_left
    · intro w'
      go_simp
      with_reducible rfl
    rotate_left
    · simp only [Act.put, List.setIfInBounds_toArray, List.set_cons_zero, List.set_cons_succ, i64_w, i32_w]
      rfl
    refine pure_ (i := 13) (N := some 4) (v := ?_) (a' := ?_) #[true, true, true, true, true, true, true, true, true, true, true, true, true, true] rfl rfl (any_of HT_.out (by kernel_rfl)) (fun _ _ _ h => h) (Or.inl ⟨by rfl, ?_⟩) ?_ ?_
    rotate_left
    · intro w'
      go_simp
      with_reducible rfl
    rotate_left
    · simp only [Act.put, List.setIfInBounds_toArray, List.set_cons_zero, List.set_cons_succ, i64_w, i32_w]
      rfl
    refine done_ (done_of HT_.out (by kernel_rfl)) ?_
    try go_wp2
    go_ret
    exact ⟨by first | rfl | (simp [errW_none, errW_some] <;> rfl) | (simp [*, errW_none, errW_some] <;> rfl), by repeat (first | (with_reducible first | exact HB.out | apply below_alloc | apply pw_below_drewN | apply below_drew1 | refine below_set ?_ GE133.out) | exact HB.out)⟩
  · rw [if_neg c4] at H
    have c4b0 : ((l1.length : Int) == t134) = false := beq_eq_false_iff_ne.mpr c4
    have c4b1 : ((l1.length : Int) != t134) = true := bne_iff_ne.mpr c4
    obtain rfl := Option.some.inj H
    simp only [Option.some.injEq, Prod.mk.injEq] at H
    obtain ⟨rfl⟩ := H
    go_enter Try.func51, Try.ntmps51
    try go_wp2_with (first | ((with_reducible refine gate_dst (N := 2) rfl ?_); refine box_event ?hg (N := 2) ?hd (cs := #[.slice A0_0 l0_0.length c0_0, .slice A0_1 l0_1.length c0_1, .slice A0_2 l0_2.length c0_2]) (t := 26) ?hr ?_; (case hd => rfl); (case hg => rfl); (case hr => first | (go_simp; done) | (go_simp; rfl)); intro gb133 hg w12 hbox hb; have n0_ := Aside0.mk (below_step (by repeat (first | (with_reducible first | exact HB.out | apply below_alloc | apply pw_below_drewN | apply below_drew1) | exact HB.out)) hb); have n1_ := Aside0.mk (hbox); have n2_ := Aside0.mk ((by rw [hg]; exact (below_size (by repeat (first | (with_reducible first | exact HB.out | apply below_alloc | apply pw_below_drewN | apply below_drew1) | exact HB.out))) : w.heap.size ≤ gb133)); have n3_ := Aside0.mk ((by rw [hg]; exact (below_size (by repeat (first | (with_reducible first | exact HB.out | apply below_alloc | apply pw_below_drewN | apply below_drew1) | exact HB.out))) : w.heap.size ≤ gb133)); clear HB; have HB := n0_; have BK133 := n1_; have GW133 := n2_; have GE133 := n3_; clear n0_ n1_ n2_ n3_; clear hb hbox hg))
    have n0_ := Aside0.mk (blk_drew BK133.out)
    have n1_ := Aside0.mk (below_drew1 HB.out)
    clear BK133
    clear HB
    have BK133 := n0_
    have HB := n1_
    clear n0_ n1_
    refine start_ (n := 14) (S := fun w' => w'.cell? ⟨gb133, 0, none⟩ = some (.slice A0_0 l0_0.length c0_0) ∧ w'.cell? ⟨gb133, 1, none⟩ = some (.slice A0_1 l0_1.length c0_1) ∧ w'.cell? ⟨gb133, 2, none⟩ = some (.slice A0_2 l0_2.length c0_2)) (ds := []) #[false, false, false, false, false, false, false, false, false, false, false, false, false, false] (by kernel_rfl) rfl rfl ⟨(blk_cell BK133.out 0).trans rfl, (blk_cell BK133.out 1).trans rfl, (blk_cell BK133.out 2).trans rfl⟩ (fun hHeld => ?_); refine with_tabW pkey_fits.tab1 pkey_fits.bits1 (fun HT_ HW_ => ?_)
    generalize w12.drew = w13 at BK133 HB hHeld ⊢
    refine pure_ (i := 0) (N := some 5) (v := ?_) (a' := ?_) #[true, false, false, false, false, false, false, false, false, false, false, false, false, false] rfl rfl (any_of HT_.out (by kernel_rfl)) (fun _ _ _ h => h) (Or.inl ⟨by rfl, ?_⟩) ?_ ?_
    rotate_left
    · intro w'
      go_simp
      with_reducible rfl
    rotate_left
    · simp only [Act.put, List.setIfInBounds_toArray, List.set_cons_zero, List.set_cons_succ, i64_w, i32_w]
      rfl
    refine pure_ (i := 1) (N := some 6) (v := ?_) (a' := ?_) #[true, true, false, false, false, false, false, false, false, false, false, false, false, false] rfl rfl (any_of HT_.out (by kernel_rfl)) (fun _ _ _ h => h) (Or.inl ⟨by rfl, ?_⟩) ?_ ?_
    rotate_left
    · intro w'
      go_simp
      with_reducible rfl
    rotate_left
    · simp only [Act.put, List.setIfInBounds_toArray, List.set_cons_zero, List.set_cons_succ, i64_w, i32_w]
      rfl
    refine take_ (i := 2) (N := some 7) (v := ?_) (a' := ?_) #[true, true, true, false, false, false, false, false, false, false, false, false, false, false] rfl rfl (take_ofW HT_.out HW_.out (by kernel_rfl)) (fun _ _ _ h => h) (Or.inl ⟨by rfl, ?_⟩) hHeld ?_ ?_
    rotate_left
    · rintro w' ⟨s0, s1, s2⟩
      go_simp
      with_reducible rfl
    rotate_left
    · simp only [Act.put, List.setIfInBounds_toArray, List.set_cons_zero, List.set_cons_succ, i64_w, i32_w]
      rfl
    refine one_ (i := 3) (N := some 8) #[true, true, true, true, false, false, false, false, false, false, false, false, false, false] rfl rfl (one_of HT_.out (by kernel_rfl)) (by decide) (fun K hK => ?_)
    refine goes_ Try.func17 (by kernel_rfl) rfl #[.agg #[.slice A0_0 l0_0.length c0_0, .slice A0_1 l0_1.length c0_1, .slice A0_2 l0_2.length c0_2]] (by rfl) rfl rfl (by (try simp only [List.map_toArray, List.map_cons, List.map_nil]); first | done | rfl | (simp only [List.length_drop, List.length_take]; rfl)) ?_
    with_reducible refine (pkey_Size.calls _ _ l0_0 _ _ l0_1 _ _ l0_2 t134 _ ?side1 ?side2 ?side3 ?side4 ?side5 ?side6 A3.out).mono ?_
    (case side1 => repeat (first | exact (Kd.C_below HR0_0.out HB.out) | (with_reducible refine Kd.C_alloc ?_ _) | (with_reducible refine Kd.C_drewN ?_ _) | (with_reducible refine Kd.C_drew ?_)))
    (case side2 => exact HC0_0.out)
    (case side3 => repeat (first | exact (Kd.C_below HR0_1.out HB.out) | (with_reducible refine Kd.C_alloc ?_ _) | (with_reducible refine Kd.C_drewN ?_ _) | (with_reducible refine Kd.C_drew ?_)))
    (case side4 => exact HC0_1.out)
    (case side5 => repeat (first | exact (Kd.C_below HR0_2.out HB.out) | (with_reducible refine Kd.C_alloc ?_ _) | (with_reducible refine Kd.C_drewN ?_ _) | (with_reducible refine Kd.C_drew ?_)))
    (case side6 => exact HC0_2.out)
    rintro e w14 ⟨rfl, hb⟩
    refine ⟨_, rfl, ?_⟩
    have n0_ := Aside0.mk (blk_below (g := gb133) (o := .cells #[.slice A0_0 l0_0.length c0_0, .slice A0_1 l0_1.length c0_1, .slice A0_2 l0_2.length c0_2] 26 (0, 0)) (by (with_reducible repeat (first | refine blk_drewN ?_ _ | refine blk_drew ?_ | refine blk_alloc ?_ _)); exact BK133.out) hb)
    have n1_ := Aside0.mk (below_step (by repeat (first | (with_reducible first | exact HB.out | apply below_alloc | apply pw_below_drewN | apply below_drew1 | refine below_set ?_ GE133.out) | exact HB.out)) hb)
    clear BK133
    clear HB
    have BK133 := n0_
    have HB := n1_
    clear n0_ n1_
    (try clear hb)
    (try clear hb2)
    (try clear hk)
    (try clear hi)
    refine hK.out _ _ ⟨(blk_cell BK133.out 0).trans rfl, (blk_cell BK133.out 1).trans rfl, (blk_cell BK133.out 2).trans rfl⟩ (fun hHeld => ?_)
    clear hK K
    refine norm_ (a' := ?_) ?_ ?_
    rotate_left
    · show Act.put _ (some 8) _ = _
      simp only [Act.put, List.setIfInBounds_toArray, List.set_cons_zero, List.set_cons_succ, i64_w, i32_w]
      rfl
    refine pure_ (i := 4) (N := some 9) (v := ?_) (a' := ?_) #[true, true, true, true, true, false, false, false, false, false, false, false, false, false] rfl rfl (any_of HT_.out (by kernel_rfl)) (fun _ _ _ h => h) (Or.inl ⟨by rfl, ?_⟩) ?_ ?_
    rotate_left
    · intro w'
      go_simp
      with_reducible rfl
    rotate_left
    · simp only [Act.put, List.setIfInBounds_toArray, List.set_cons_zero, List.set_cons_succ, i64_w, i32_w]
      rfl
    refine pure_ (i := 5) (N := some 10) (v := ?_) (a' := ?_) #[true, true, true, true, true, true, false, false, false, false, false, false, false, false] rfl rfl (any_of HT_.out (by kernel_rfl)) (fun _ _ _ h => h) (Or.inl ⟨by rfl, ?_⟩) ?_ ?_
    rotate_left
    · intro w'
      go_simp
      with_reducible rfl
    rotate_left
    · simp only [Act.put, List.setIfInBounds_toArray, List.set_cons_zero, List.set_cons_succ, i64_w, i32_w]
      rfl
    refine pure_ (i := 6) (N := some 11) (v := undef) (a' := ?_) #[true, true, true, true, true, true, true, false, false, false, false, false, false, false] rfl rfl (any_of HT_.out (by kernel_rfl)) (fun _ _ _ h => h) (Or.inr ⟨by rfl, rfl⟩) ?_ ?_
    rotate_left
    · simp only [Act.put, List.setIfInBounds_toArray, List.set_cons_zero, List.set_cons_succ, i64_w, i32_w]
      rfl
    refine pure_ (i := 7) (N := some 12) (v := undef) (a' := ?_) #[true, true, true, true, true, true, true, true, false, false, false, false, false, false] rfl rfl (any_of HT_.out (by kernel_rfl)) (fun _ _ _ h => h) (Or.inr ⟨by rfl, rfl⟩) ?_ ?_
    rotate_left
    · simp only [Act.put, List.setIfInBounds_toArray, List.set_cons_zero, List.set_cons_succ, i64_w, i32_w]
      rfl
    refine pure_ (i := 8) (N := some 13) (v := undef) (a' := ?_) #[true, true, true, true, true, true, true, true, true, false, false, false, false, false] rfl rfl (any_of HT_.out (by kernel_rfl)) (fun _ _ _ h => h) (Or.inr ⟨by rfl, rfl⟩) ?_ ?_
    rotate_left
    · simp only [Act.put, List.setIfInBounds_toArray, List.set_cons_zero, List.set_cons_succ, i64_w, i32_w]
      rfl
    refine pure_ (i := 9) (N := some 14) (v := undef) (a' := ?_) #[true, true, true, true, true, true, true, true, true, true, false, false, false, false] rfl rfl (any_of HT_.out (by kernel_rfl)) (fun _ _ _ h => h) (Or.inr ⟨by rfl, rfl⟩) ?_ ?_
    rotate_left
    · simp only [Act.put, List.setIfInBounds_toArray, List.set_cons_zero, List.set_cons_succ, i64_w, i32_w]
      rfl
    refine pure_ (i := 10) (N := some 15) (v := undef) (a' := ?_) #[true, true, true, true, true, true, true, true, true, true, true, false, false, false] rfl rfl (any_of HT_.out (by kernel_rfl)) (fun _ _ _ h => h) (Or.inr ⟨by rfl, rfl⟩) ?_ ?_
    rotate_left
    · simp only [Act.put, List.setIfInBounds_toArray, List.set_cons_zero, List.set_cons_succ, i64_w, i32_w]
      rfl
    refine pure_ (i := 11) (N := some 16) (v := undef) (a' := ?_) #[true, true, true, true, true, true, true, true, true, true, true, true, false, false] rfl rfl (any_of HT_.out (by kernel_rfl)) (fun _ _ _ h => h) (Or.inr ⟨by rfl, rfl⟩) ?_ ?_
    rotate_left
    · simp only [Act.put, List.setIfInBounds_toArray, List.set_cons_zero, List.set_cons_succ, i64_w, i32_w]
      rfl
    refine pure_ (i := 12) (N := some 17) (v := ?_) (a' := ?_) #[true, true, true, true, true, true, true, true, true, true, true, true, true, false] rfl rfl (any_of HT_.out (by kernel_rfl)) (fun _ _ _ h => h) (Or.inl ⟨by rfl, ?_⟩) ?_ ?_
    rotate_left
    · intro w'
      go_simp
      with_reducible rfl
    rotate_left
    · simp only [Act.put, List.setIfInBounds_toArray, List.set_cons_zero, List.set_cons_succ, i64_w, i32_w]
      rfl
    refine pure_ (i := 13) (N := some 4) (v := ?_) (a' := ?_) #[true, true, true, true, true, true, true, true, true, true, true, true, true, true] rfl rfl (any_of HT_.out (by kernel_rfl)) (fun _ _ _ h => h) (Or.inl ⟨by rfl, ?_⟩) ?_ ?_
    rotate_left
    · intro w'
      go_simp
      with_reducible rfl
    rotate_left
    · simp only [Act.put, List.setIfInBounds_toArray, List.set_cons_zero, List.set_cons_succ, i64_w, i32_w]
      rfl
    refine done_ (done_of HT_.out (by kernel_rfl)) ?_
    try go_wp2
    go_ret
    exact ⟨by first | rfl | (simp [errW_none, errW_some] <;> rfl) | (simp [*, errW_none, errW_some] <;> rfl), by repeat (first | (with_reducible first | exact HB.out | apply below_alloc | apply pw_below_drewN | apply below_drew1 | refine below_set ?_ GE133.out) | exact HB.out)⟩
end Go.Proofs.Ytdmglajfmfjmlaa.Cp
namespace Go.Proofs.Ytdmglajfmfjmlaa.Cp
open Go.RowKit Go.Proofs.YtdmglajfmfjmlaaW.PrintWords Go.Proofs.YtdmglajfmfjmlaaW.PrintLast Go.Proofs.YtdmglajfmfjmlaaW.PrintMore
attribute [local go_sem] max2_int min2_int max_two min_two max_three min_three max_four min_four   -- for this text's walks alone
set_option linter.unusedVariables false
set_option linter.unusedSimpArgs false
def slices_Clone_byte_byte.f (l0 : List Int) : Option (List Int) := if okB l0 ∧ l0.length ≤ 2097152 then some l0 else none
theorem slices_Clone_byte_byte.calls (A0 : Option Addr) (c0 : Nat) (l0 : List Int) (r : List Int) (w : World) (hr0 : Kd.C (Kd.int .u8) w A0 l0.length l0) (hc0 : l0.length ≤ c0) (h : slices_Clone_byte_byte.f l0 = some r) :
    Calls Try.prog 64 #[.slice A0 l0.length c0] w fun e w' => ∃ v0_ : Value, e = .returned (v0_) ∧ Kd.R (Kd.int .u8) 5 w' w.heap.size (fun _ => True) v0_ r ∧ Below w.heap.size w w' := by
  exact clone8_giv hr0 hc0 h
def slices_Index_byte_byte.l0 : Nat → List Int → Int → Int → Int → Option (Int)
  | 0, _, _, _, _ => none
  | k + 1, x0, x1, x7, x8 => if x8 < x7 then (if 0 ≤ x8 then (if x8 < (x0.length : Int) then (if x1 = (rd x0 x8) then (some x8) else (slices_Index_byte_byte.l0 k x0 x1 x7 (wrap64 (x8 + 1)))) else (none)) else (none)) else (some (-1))
def slices_Index_byte_byte.f (k : Nat) (l0 : List Int) (a1 : Int) : Option (Int) := slices_Index_byte_byte.l0 k l0 a1 (l0.length : Int) 0
set_option maxHeartbeats 8000000 in
set_option maxRecDepth 100000 in
theorem slices_Index_byte_byte.calls (k : Nat) (A0 : Option Addr) (c0 : Nat) (l0 : List Int) (a1 : Int) (r : Int) (w : World) (hr0 : Kd.C (Kd.int .u8) w A0 l0.length l0) (hc0 : l0.length ≤ c0) (h : slices_Index_byte_byte.f k l0 a1 = some r) :
    Calls Try.prog 67 #[.slice A0 l0.length c0, .int .u8 a1] w fun e w' => e = .returned (.int .i64 r) ∧ Drawn0 w w' := by
  have HR0 := Aside0.mk hr0
  have HC0 := Aside0.mk hc0
  clear hr0 hc0
  have H : (slices_Index_byte_byte.l0 k l0 a1 (l0.length : Int) 0) = some r := h
  clear h
  have H' := Aside0.mk H
  clear H
  go_enter Try.func67, Try.ntmps67
  go_wp2
  go_loopg [8] k (fun kq v8 w' => ∃ (x8_1 : Int), v8 = .int .i64 x8_1 ∧ Aside0 (slices_Index_byte_byte.l0 kq l0 a1 (l0.length : Int) x8_1 = some r) ∧ Aside0 (kq ≤ k) ∧ Drawn0 w w')
  case atStart => exact ⟨(0), (by first | rfl | (simp; done) | (simp [*]; done)), H', ⟨Nat.le_refl _⟩, by repeat (first | exact Drawn0.refl _ | apply Drawn0.step)⟩
  case round =>
    clear H'
    try clear p2
    obtain ⟨x8_1, rfl, HA, HK1, ⟨m1, rfl⟩⟩ := hrel
    cases gk with
    | zero => exact absurd HA.out (by simp [slices_Index_byte_byte.l0])
    | succ k1 =>
      have H := HA.out
      clear HA
      simp only [slices_Index_byte_byte.l0] at H
      by_cases c3 : x8_1 < (l0.length : Int)
      · rw [if_pos c3] at H
        have c3b0 : decide (x8_1 < (l0.length : Int)) = true := decide_eq_true c3
        clear c3
        by_cases c4 : 0 ≤ x8_1
        · rw [if_pos c4] at H
          have c4b0 : decide (0 ≤ x8_1) = true := decide_eq_true c4
          clear c4
          by_cases c5 : x8_1 < (l0.length : Int)
          · rw [if_pos c5] at H
            have c5b0 : decide (x8_1 < (l0.length : Int)) = true := decide_eq_true c5
            clear c5
            by_cases c6 : a1 = (rd l0 x8_1)
            · rw [if_pos c6] at H
              have c6b0 : (a1 == (rd l0 x8_1)) = true := beq_iff_eq.mpr c6
              have c6b1 : (a1 != (rd l0 x8_1)) = false := bne_eq_false_iff_eq.mpr c6
              clear c6
              obtain rfl := Option.some.inj H
              simp only [Option.some.injEq, Prod.mk.injEq] at H
              obtain ⟨rfl⟩ := H
              have p150 : 0 ≤ (x8_1 : Int) := of_decide_eq_true (by first | (with_reducible assumption) | assumption)
              have q150 : x8_1 < (l0.length : Int) := of_decide_eq_true (by first | (with_reducible assumption) | assumption)
              obtain ⟨ad150, e150, hx150_0⟩ := Kd.at_int HR0.out x8_1 p150 q150
              cases e150
              replace p150 := eq_true p150
              replace q150 := eq_true q150
              go_wp2
              go_ret
              exact ⟨by first | rfl | (simp; done) | (simp [*]; done), by repeat (first | exact Drawn0.refl _ | apply Drawn0.step)⟩
            · rw [if_neg c6] at H
              have c6b0 : (a1 == (rd l0 x8_1)) = false := beq_eq_false_iff_ne.mpr c6
              have c6b1 : (a1 != (rd l0 x8_1)) = true := bne_iff_ne.mpr c6
              have H' := Aside0.mk H
              clear H
              have p150 : 0 ≤ (x8_1 : Int) := of_decide_eq_true (by first | (with_reducible assumption) | assumption)
              have q150 : x8_1 < (l0.length : Int) := of_decide_eq_true (by first | (with_reducible assumption) | assumption)
              obtain ⟨ad150, e150, hx150_0⟩ := Kd.at_int HR0.out x8_1 p150 q150
              cases e150
              replace p150 := eq_true p150
              replace q150 := eq_true q150
              go_wp2
              go_roundg k1
              case measure => have := HK1.out; omega
              case rel => exact ⟨(wrap64 (x8_1 + 1)), (by first | rfl | (simp; done) | (simp [*]; done)), H', ⟨by have := HK1.out; omega⟩, by repeat (first | exact Drawn0.refl _ | apply Drawn0.step)⟩
          · rw [if_neg c5] at H
            exact absurd H (by simp)
        · rw [if_neg c4] at H
          exact absurd H (by simp)
      · rw [if_neg c3] at H
        have c3b0 : decide (x8_1 < (l0.length : Int)) = false := decide_eq_false c3
        clear c3
        obtain rfl := Option.some.inj H
        simp only [Option.some.injEq, Prod.mk.injEq] at H
        obtain ⟨rfl⟩ := H
        go_wp2
        go_ret
        exact ⟨by first | rfl | (simp; done) | (simp [*]; done), by repeat (first | exact Drawn0.refl _ | apply Drawn0.step)⟩
end Go.Proofs.Ytdmglajfmfjmlaa.Cp
namespace Go.Proofs.Ytdmglajfmfjmlaa.Cp
open Go.RowKit Go.Proofs.YtdmglajfmfjmlaaW.PrintWords Go.Proofs.YtdmglajfmfjmlaaW.PrintLast Go.Proofs.YtdmglajfmfjmlaaW.PrintMore
attribute [local go_sem] max2_int min2_int max_two min_two max_three min_three max_four min_four   -- for this text's walks alone
set_option linter.unusedVariables false
set_option linter.unusedSimpArgs false
mutual
def pkey_Decrypt.j0 : Nat → List Int → Bool → List Int → List Int → List Int → Option (List Int × Int)
  | 0, _, _, _, _, _ => none
  | k + 1, x1, x16, x152000, x152001, x152002 => if x16 = true then (some (([] : List Int), 50)) else ((pkey_fits.f x152000 x152001 x152002 x1).bind fun t154 => (if t154 = true then ((pkey_work.f x152000 x152001 x152002 x1 x152002).bind fun t155 => (if 0 < (t155.length : Int) then (if (rd t155 0) = 0 then (if 1 < (t155.length : Int) then (pkey_Decrypt.j1 k t155 ((rd t155 1) != 2)) else (none)) else (pkey_Decrypt.j1 k t155 true)) else (none))) else (some (([] : List Int), 51))))
def pkey_Decrypt.j1 : Nat → List Int → Bool → Option (List Int × Int)
  | 0, _, _ => none
  | k + 1, x6, x35 => if x35 = true then (some (([] : List Int), 51)) else (if 2 ≤ (x6.length : Int) then ((slices_Index_byte_byte.f k (x6.drop 2) 0).bind fun t164 => (if t164 < 8 then (some (([] : List Int), 51)) else (if 0 ≤ (wrap64 (t164 + 3)) then (if (wrap64 (t164 + 3)) ≤ (x6.length : Int) then ((slices_Clone_byte_byte.f (x6.drop ((wrap64 (t164 + 3)) : Int).toNat)).bind fun t169 => (some (t169, 0))) else (none)) else (none)))) else (none))
end
def pkey_Decrypt.f (k : Nat) (l0_0 : List Int) (l0_1 : List Int) (l0_2 : List Int) (l1 : List Int) : Option (List Int × Int) := (pkey_Right.f l0_0 l0_1 l0_2).bind fun t152 => (if t152 = 0 then ((nat_Bits.f l0_2).bind fun t153 => (pkey_Decrypt.j0 k l1 (t153 == 0) l0_0 l0_1 l0_2)) else (pkey_Decrypt.j0 k l1 true l0_0 l0_1 l0_2))
set_option maxHeartbeats 8000000 in
set_option maxRecDepth 100000 in
theorem pkey_Decrypt.calls (k : Nat) (A0_0 : Option Addr) (c0_0 : Nat) (l0_0 : List Int) (A0_1 : Option Addr) (c0_1 : Nat) (l0_1 : List Int) (A0_2 : Option Addr) (c0_2 : Nat) (l0_2 : List Int) (A1 : Option Addr) (c1 : Nat) (l1 : List Int) (r1 : List Int) (r2 : Int) (w : World) (hr0_0 : Kd.C (Kd.int .u64) w A0_0 l0_0.length l0_0) (hc0_0 : l0_0.length ≤ c0_0) (hr0_1 : Kd.C (Kd.int .u64) w A0_1 l0_1.length l0_1) (hc0_1 : l0_1.length ≤ c0_1) (hr0_2 : Kd.C (Kd.int .u64) w A0_2 l0_2.length l0_2) (hc0_2 : l0_2.length ≤ c0_2) (hr1 : Kd.C (Kd.int .u8) w A1 l1.length l1) (hc1 : l1.length ≤ c1) (h : pkey_Decrypt.f k l0_0 l0_1 l0_2 l1 = some (r1, r2)) :
    Calls Try.prog 25 #[.agg #[.slice A0_0 l0_0.length c0_0, .slice A0_1 l0_1.length c0_1, .slice A0_2 l0_2.length c0_2], .slice A1 l1.length c1] w fun e w' => ∃ v0_ : Value, e = .returned (.tuple #[v0_, .int .i64 r2]) ∧ Kd.R (Kd.int .u8) 5 w' w.heap.size (fun _ => True) v0_ r1 ∧ Below w.heap.size w w' := by
  have hu26 := Try.underlying26
  have HR0_0 := Aside0.mk hr0_0
  have HC0_0 := Aside0.mk hc0_0
  clear hr0_0 hc0_0
  have HR0_1 := Aside0.mk hr0_1
  have HC0_1 := Aside0.mk hc0_1
  clear hr0_1 hc0_1
  have HR0_2 := Aside0.mk hr0_2
  have HC0_2 := Aside0.mk hc0_2
  clear hr0_2 hc0_2
  have HR1 := Aside0.mk hr1
  have HC1 := Aside0.mk hc1
  clear hr1 hc1
  have HB := Aside0.mk (Below.refl w.heap.size w)
  have H : ((pkey_Right.f l0_0 l0_1 l0_2).bind fun t152 => (if t152 = 0 then ((nat_Bits.f l0_2).bind fun t153 => (pkey_Decrypt.j0 k l1 (t153 == 0) l0_0 l0_1 l0_2)) else (pkey_Decrypt.j0 k l1 true l0_0 l0_1 l0_2))) = some (r1, r2) := h
  clear h
  have HC3 := Aside0.mk H
  clear H
  go_enter Try.func25, Try.ntmps25
  go_upto_region 1 with (first | ((with_reducible refine gate_dst (N := 2) rfl ?_); refine box_event ?hg (N := 2) ?hd (cs := #[.slice A0_0 l0_0.length c0_0, .slice A0_1 l0_1.length c0_1, .slice A0_2 l0_2.length c0_2]) (t := 26) ?hr ?_; (case hd => rfl); (case hg => rfl); (case hr => first | (go_simp; done) | (go_simp; rfl)); intro gb151 hg w4 hbox hb; have n0_ := Aside0.mk (below_step (by repeat (first | (with_reducible first | exact HB.out | apply below_alloc | apply pw_below_drewN | apply below_drew1) | exact HB.out)) hb); have n1_ := Aside0.mk (hbox); have n2_ := Aside0.mk ((by rw [hg]; exact (below_size (by repeat (first | (with_reducible first | exact HB.out | apply below_alloc | apply pw_below_drewN | apply below_drew1) | exact HB.out))) : w.heap.size ≤ gb151)); have n3_ := Aside0.mk ((by rw [hg]; exact (below_size (by repeat (first | (with_reducible first | exact HB.out | apply below_alloc | apply pw_below_drewN | apply below_drew1) | exact HB.out))) : w.heap.size ≤ gb151)); clear HB; have HB := n0_; have BK151 := n1_; have GW151 := n2_; have GE151 := n3_; clear n0_ n1_ n2_ n3_; clear hb hbox hg))
  (try simp only [Act.put, List.setIfInBounds_toArray, List.set_cons_zero, List.set_cons_succ])
  go_cut [16] (fun v16 wc => ∃ (kq : Nat) (x16_2 : Bool), v16 = .bool x16_2 ∧ Aside0 (pkey_Decrypt.j0 kq l1 x16_2 l0_0 l0_1 l0_2 = some (r1, r2)) ∧ Aside0 (kq ≤ k) ∧ Aside0 (wc.heap[gb151]? = some (.cells #[(.slice A0_0 l0_0.length c0_0), (.slice A0_1 l0_1.length c0_1), (.slice A0_2 l0_2.length c0_2)] 26 (0, 0))) ∧ Aside0 (Below w.heap.size w wc))
  case first =>
    have H := HC3.out
    clear HC3
    replace H := Option.bind_eq_some_iff.mp H
    obtain ⟨t152, A50, H⟩ := H
    replace H : (if t152 = 0 then ((nat_Bits.f l0_2).bind fun t153 => (pkey_Decrypt.j0 k l1 (t153 == 0) l0_0 l0_1 l0_2)) else (pkey_Decrypt.j0 k l1 true l0_0 l0_1 l0_2)) = some (r1, r2) := H
    have A5 := Aside0.mk A50
    clear A50
    by_cases c6 : t152 = 0
    · rw [if_pos c6] at H
      have c6b0 : (t152 == 0) = true := beq_iff_eq.mpr c6
      have c6b1 : (t152 != 0) = false := bne_eq_false_iff_eq.mpr c6
      clear c6
      (first | rw [c6b0] | (simp only [i64_w, i32_w]; rw [c6b0]) | skip)
      replace H := Option.bind_eq_some_iff.mp H
      obtain ⟨t153, A70, H⟩ := H
      replace H : (pkey_Decrypt.j0 k l1 (t153 == 0) l0_0 l0_1 l0_2) = some (r1, r2) := H
      have A7 := Aside0.mk A70
      clear A70
      have H' := Aside0.mk H
      clear H
      have hcz8_0 : w4.cell? ⟨gb151, 0, none⟩ = some (.slice A0_0 l0_0.length c0_0) := (blk_cell BK151.out 0).trans rfl
      have hcz8_1 : w4.cell? ⟨gb151, 1, none⟩ = some (.slice A0_1 l0_1.length c0_1) := (blk_cell BK151.out 1).trans rfl
      have hcz8_2 : w4.cell? ⟨gb151, 2, none⟩ = some (.slice A0_2 l0_2.length c0_2) := (blk_cell BK151.out 2).trans rfl
      have hfz8_0 := blk_frozen BK151.out 0
      have hfz8_1 := blk_frozen BK151.out 1
      have hfz8_2 := blk_frozen BK151.out 2
      go_wp2_with (first | ((with_reducible refine gate_callee (f := 20) rfl ?_); refine goesL_ (some 9) rfl rfl Try.func20 (by kernel_rfl) rfl #[.agg #[.slice A0_0 l0_0.length c0_0, .slice A0_1 l0_1.length c0_1, .slice A0_2 l0_2.length c0_2]] rfl (by (try simp only [List.map_toArray, List.map_cons, List.map_nil]); first | done | rfl | (simp only [List.length_drop, List.length_take]; rfl)) ?_; (with_reducible refine (pkey_Right.calls _ _ l0_0 _ _ l0_1 _ _ l0_2 t152 _ ?side1 ?side2 ?side3 ?side4 ?side5 ?side6 A5.out).mono ?_); (case side1 => repeat (first | exact (Kd.C_below HR0_0.out HB.out) | (with_reducible refine Kd.C_alloc ?_ _) | (with_reducible refine Kd.C_drewN ?_ _) | (with_reducible refine Kd.C_drew ?_))); (case side2 => exact HC0_0.out); (case side3 => repeat (first | exact (Kd.C_below HR0_1.out HB.out) | (with_reducible refine Kd.C_alloc ?_ _) | (with_reducible refine Kd.C_drewN ?_ _) | (with_reducible refine Kd.C_drew ?_))); (case side4 => exact HC0_1.out); (case side5 => repeat (first | exact (Kd.C_below HR0_2.out HB.out) | (with_reducible refine Kd.C_alloc ?_ _) | (with_reducible refine Kd.C_drewN ?_ _) | (with_reducible refine Kd.C_drew ?_))); (case side6 => exact HC0_2.out); rintro e w9 ⟨rfl, hb⟩; refine ⟨_, rfl, ?_⟩; have n0_ := Aside0.mk (blk_below (g := gb151) (o := .cells #[.slice A0_0 l0_0.length c0_0, .slice A0_1 l0_1.length c0_1, .slice A0_2 l0_2.length c0_2] 26 (0, 0)) (by (with_reducible repeat (first | refine blk_drewN ?_ _ | refine blk_drew ?_ | refine blk_alloc ?_ _)); exact BK151.out) hb); have n1_ := Aside0.mk (below_step (by repeat (first | (with_reducible first | exact HB.out | apply below_alloc | apply pw_below_drewN | apply below_drew1 | refine below_set ?_ GE151.out) | exact HB.out)) hb); clear BK151; clear HB; have BK151 := n0_; have HB := n1_; clear n0_ n1_; (try clear hb); (try clear hb2); (try clear hk); (try clear hi); have hcz10_0 : w9.cell? ⟨gb151, 0, none⟩ = some (.slice A0_0 l0_0.length c0_0) := (blk_cell BK151.out 0).trans rfl; have hcz10_1 : w9.cell? ⟨gb151, 1, none⟩ = some (.slice A0_1 l0_1.length c0_1) := (blk_cell BK151.out 1).trans rfl; have hcz10_2 : w9.cell? ⟨gb151, 2, none⟩ = some (.slice A0_2 l0_2.length c0_2) := (blk_cell BK151.out 2).trans rfl; have hfz10_0 := blk_frozen BK151.out 0; have hfz10_1 := blk_frozen BK151.out 1; have hfz10_2 := blk_frozen BK151.out 2) | (go_at_call 19; (with_reducible refine (nat_Bits.calls _ _ l0_2 t153 _ ?side1 ?side2 A7.out).mono ?_); (case side1 => repeat (first | exact (Kd.C_below HR0_2.out HB.out) | (with_reducible refine Kd.C_alloc ?_ _) | (with_reducible refine Kd.C_drewN ?_ _) | (with_reducible refine Kd.C_drew ?_))); (case side2 => exact HC0_2.out); rintro e w11 ⟨rfl, hb⟩; have n0_ := Aside0.mk (blk_below (g := gb151) (o := .cells #[.slice A0_0 l0_0.length c0_0, .slice A0_1 l0_1.length c0_1, .slice A0_2 l0_2.length c0_2] 26 (0, 0)) (by (with_reducible repeat (first | refine blk_drewN ?_ _ | refine blk_drew ?_ | refine blk_alloc ?_ _)); exact BK151.out) hb); have n1_ := Aside0.mk (below_step (by repeat (first | (with_reducible first | exact HB.out | apply below_alloc | apply pw_below_drewN | apply below_drew1 | refine below_set ?_ GE151.out) | exact HB.out)) hb); clear BK151; clear HB; have BK151 := n0_; have HB := n1_; clear n0_ n1_; (try clear hb); (try clear hb2); (try clear hk); (try clear hi)))
      go_meet
      case rel => exact ⟨_, ((t153 == 0)), (by first | rfl | (simp; done) | (simp [*]; done)), H', ⟨by first | omega | exact Nat.le_refl _⟩, ⟨by (with_reducible repeat (first | refine blk_drewN ?_ _ | refine blk_drew ?_ | refine blk_alloc ?_ _)); exact BK151.out⟩, ⟨by repeat (first | (with_reducible first | exact HB.out | apply below_alloc | apply pw_below_drewN | apply below_drew1 | refine below_set ?_ GE151.out) | exact HB.out)⟩⟩
    · rw [if_neg c6] at H
      have c6b0 : (t152 == 0) = false := beq_eq_false_iff_ne.mpr c6
      have c6b1 : (t152 != 0) = true := bne_iff_ne.mpr c6
      (first | rw [c6b0] | (simp only [i64_w, i32_w]; rw [c6b0]) | skip)
      have H' := Aside0.mk H
      clear H
      have hcz12_0 : w4.cell? ⟨gb151, 0, none⟩ = some (.slice A0_0 l0_0.length c0_0) := (blk_cell BK151.out 0).trans rfl
      have hcz12_1 : w4.cell? ⟨gb151, 1, none⟩ = some (.slice A0_1 l0_1.length c0_1) := (blk_cell BK151.out 1).trans rfl
      have hcz12_2 : w4.cell? ⟨gb151, 2, none⟩ = some (.slice A0_2 l0_2.length c0_2) := (blk_cell BK151.out 2).trans rfl
      have hfz12_0 := blk_frozen BK151.out 0
      have hfz12_1 := blk_frozen BK151.out 1
      have hfz12_2 := blk_frozen BK151.out 2
      go_wp2_with (first | ((with_reducible refine gate_callee (f := 20) rfl ?_); refine goesL_ (some 9) rfl rfl Try.func20 (by kernel_rfl) rfl #[.agg #[.slice A0_0 l0_0.length c0_0, .slice A0_1 l0_1.length c0_1, .slice A0_2 l0_2.length c0_2]] rfl (by (try simp only [List.map_toArray, List.map_cons, List.map_nil]); first | done | rfl | (simp only [List.length_drop, List.length_take]; rfl)) ?_; (with_reducible refine (pkey_Right.calls _ _ l0_0 _ _ l0_1 _ _ l0_2 t152 _ ?side1 ?side2 ?side3 ?side4 ?side5 ?side6 A5.out).mono ?_); (case side1 => repeat (first | exact (Kd.C_below HR0_0.out HB.out) | (with_reducible refine Kd.C_alloc ?_ _) | (with_reducible refine Kd.C_drewN ?_ _) | (with_reducible refine Kd.C_drew ?_))); (case side2 => exact HC0_0.out); (case side3 => repeat (first | exact (Kd.C_below HR0_1.out HB.out) | (with_reducible refine Kd.C_alloc ?_ _) | (with_reducible refine Kd.C_drewN ?_ _) | (with_reducible refine Kd.C_drew ?_))); (case side4 => exact HC0_1.out); (case side5 => repeat (first | exact (Kd.C_below HR0_2.out HB.out) | (with_reducible refine Kd.C_alloc ?_ _) | (with_reducible refine Kd.C_drewN ?_ _) | (with_reducible refine Kd.C_drew ?_))); (case side6 => exact HC0_2.out); rintro e w13 ⟨rfl, hb⟩; refine ⟨_, rfl, ?_⟩; have n0_ := Aside0.mk (blk_below (g := gb151) (o := .cells #[.slice A0_0 l0_0.length c0_0, .slice A0_1 l0_1.length c0_1, .slice A0_2 l0_2.length c0_2] 26 (0, 0)) (by (with_reducible repeat (first | refine blk_drewN ?_ _ | refine blk_drew ?_ | refine blk_alloc ?_ _)); exact BK151.out) hb); have n1_ := Aside0.mk (below_step (by repeat (first | (with_reducible first | exact HB.out | apply below_alloc | apply pw_below_drewN | apply below_drew1 | refine below_set ?_ GE151.out) | exact HB.out)) hb); clear BK151; clear HB; have BK151 := n0_; have HB := n1_; clear n0_ n1_; (try clear hb); (try clear hb2); (try clear hk); (try clear hi)))
      go_meet
      case rel => exact ⟨_, (true), (by first | rfl | (simp; done) | (simp [*]; done)), H', ⟨by first | omega | exact Nat.le_refl _⟩, ⟨by (with_reducible repeat (first | refine blk_drewN ?_ _ | refine blk_drew ?_ | refine blk_alloc ?_ _)); exact BK151.out⟩, ⟨by repeat (first | (with_reducible first | exact HB.out | apply below_alloc | apply pw_below_drewN | apply below_drew1 | refine below_set ?_ GE151.out) | exact HB.out)⟩⟩
  case rest =>
    clear HC3
    try clear c1
    try clear c2
    try clear p2
    try clear c6
    try clear c6b0
    try clear c6b1
    try clear hcz10_0
    try clear hcz10_1
    try clear hcz10_2
    try clear hcz12_0
    try clear hcz12_1
    try clear hcz12_2
    try clear hcz8_0
    try clear hcz8_1
    try clear hcz8_2
    try clear hfz10_0
    try clear hfz10_1
    try clear hfz10_2
    try clear hfz12_0
    try clear hfz12_1
    try clear hfz12_2
    try clear hfz8_0
    try clear hfz8_1
    try clear hfz8_2
    obtain ⟨kq, x16_2, rfl, HA, HJ2, BK151, HB⟩ := hcut
    cases kq with
    | zero => exact absurd HA.out (by simp [pkey_Decrypt.j0])
    | succ kj2 =>
      have H := HA.out
      clear HA
      simp only [pkey_Decrypt.j0] at H
      by_cases c14 : x16_2 = true
      · subst c14
        have H1 : (some (([] : List Int), 50)) = some (r1, r2) := by rw [if_pos rfl] at H; exact H
        clear H
        have H := H1
        clear H1
        simp only [Option.some.injEq, Prod.mk.injEq] at H
        obtain ⟨rfl, rfl⟩ := H
        go_wp2
        go_ret2
        exact ⟨_, by first | rfl | (simp [errW_none, errW_some] <;> rfl) | (simp [*, errW_none, errW_some] <;> rfl), by first | exact Kd.R_nil _ _ _ _ _ | exact Kd.N_nil _ _ _ _ _ | exact Kd.V_nil _ _ _ _ _ | exact Kd.Q_nil _ _ _ _ _ | exact Kd.S_nil _ _ _ _ _, by repeat (first | (with_reducible first | exact HB.out | apply below_alloc | apply pw_below_drewN | apply below_drew1 | refine below_set ?_ GE151.out) | exact HB.out)⟩
      · replace c14 := Bool.eq_false_iff.mpr c14
        subst c14
        have H1 : ((pkey_fits.f l0_0 l0_1 l0_2 l1).bind fun t154 => (if t154 = true then ((pkey_work.f l0_0 l0_1 l0_2 l1 l0_2).bind fun t155 => (if 0 < (t155.length : Int) then (if (rd t155 0) = 0 then (if 1 < (t155.length : Int) then (pkey_Decrypt.j1 kj2 t155 ((rd t155 1) != 2)) else (none)) else (pkey_Decrypt.j1 kj2 t155 true)) else (none))) else (some (([] : List Int), 51)))) = some (r1, r2) := by rw [if_neg (show ¬ (false = true) by decide)] at H; exact H
        clear H
        have H := H1
        clear H1
        replace H := Option.bind_eq_some_iff.mp H
        obtain ⟨t154, A150, H⟩ := H
        replace H : (if t154 = true then ((pkey_work.f l0_0 l0_1 l0_2 l1 l0_2).bind fun t155 => (if 0 < (t155.length : Int) then (if (rd t155 0) = 0 then (if 1 < (t155.length : Int) then (pkey_Decrypt.j1 kj2 t155 ((rd t155 1) != 2)) else (none)) else (pkey_Decrypt.j1 kj2 t155 true)) else (none))) else (some (([] : List Int), 51))) = some (r1, r2) := H
        have A15 := Aside0.mk A150
        clear A150
        by_cases c16 : t154 = true
        · subst c16
          have H1 : ((pkey_work.f l0_0 l0_1 l0_2 l1 l0_2).bind fun t155 => (if 0 < (t155.length : Int) then (if (rd t155 0) = 0 then (if 1 < (t155.length : Int) then (pkey_Decrypt.j1 kj2 t155 ((rd t155 1) != 2)) else (none)) else (pkey_Decrypt.j1 kj2 t155 true)) else (none))) = some (r1, r2) := by rw [if_pos rfl] at H; exact H
          clear H
          have H := H1
          clear H1
          replace H := Option.bind_eq_some_iff.mp H
          obtain ⟨t155, A170, H⟩ := H
          replace H : (if 0 < (t155.length : Int) then (if (rd t155 0) = 0 then (if 1 < (t155.length : Int) then (pkey_Decrypt.j1 kj2 t155 ((rd t155 1) != 2)) else (none)) else (pkey_Decrypt.j1 kj2 t155 true)) else (none)) = some (r1, r2) := H
          have A17 := Aside0.mk A170
          clear A170
          have HC18 := Aside0.mk H
          clear H
          have hcz19_0 : wc.cell? ⟨gb151, 0, none⟩ = some (.slice A0_0 l0_0.length c0_0) := (blk_cell BK151.out 0).trans rfl
          have hcz19_1 : wc.cell? ⟨gb151, 1, none⟩ = some (.slice A0_1 l0_1.length c0_1) := (blk_cell BK151.out 1).trans rfl
          have hcz19_2 : wc.cell? ⟨gb151, 2, none⟩ = some (.slice A0_2 l0_2.length c0_2) := (blk_cell BK151.out 2).trans rfl
          have hfz19_0 := blk_frozen BK151.out 0
          have hfz19_1 := blk_frozen BK151.out 1
          have hfz19_2 := blk_frozen BK151.out 2
          go_upto_region 6 with (first | ((with_reducible refine gate_callee (f := 51) rfl ?_); refine goesL_ (some 19) rfl rfl Try.func51 (by kernel_rfl) rfl #[.agg #[.slice A0_0 l0_0.length c0_0, .slice A0_1 l0_1.length c0_1, .slice A0_2 l0_2.length c0_2], .slice A1 l1.length c1] rfl (by (try simp only [List.map_toArray, List.map_cons, List.map_nil]); first | done | rfl | (simp only [List.length_drop, List.length_take]; rfl)) ?_; (with_reducible refine (pkey_fits.calls _ _ l0_0 _ _ l0_1 _ _ l0_2 _ _ l1 true _ ?side1 ?side2 ?side3 ?side4 ?side5 ?side6 ?side7 ?side8 A15.out).mono ?_); (case side1 => repeat (first | exact (Kd.C_below HR0_0.out HB.out) | (with_reducible refine Kd.C_alloc ?_ _) | (with_reducible refine Kd.C_drewN ?_ _) | (with_reducible refine Kd.C_drew ?_))); (case side2 => exact HC0_0.out); (case side3 => repeat (first | exact (Kd.C_below HR0_1.out HB.out) | (with_reducible refine Kd.C_alloc ?_ _) | (with_reducible refine Kd.C_drewN ?_ _) | (with_reducible refine Kd.C_drew ?_))); (case side4 => exact HC0_1.out); (case side5 => repeat (first | exact (Kd.C_below HR0_2.out HB.out) | (with_reducible refine Kd.C_alloc ?_ _) | (with_reducible refine Kd.C_drewN ?_ _) | (with_reducible refine Kd.C_drew ?_))); (case side6 => exact HC0_2.out); (case side7 => repeat (first | exact (Kd.C_below HR1.out HB.out) | (with_reducible refine Kd.C_alloc ?_ _) | (with_reducible refine Kd.C_drewN ?_ _) | (with_reducible refine Kd.C_drew ?_))); (case side8 => exact HC1.out); rintro e w20 ⟨rfl, hb⟩; refine ⟨_, rfl, ?_⟩; have n0_ := Aside0.mk (blk_below (g := gb151) (o := .cells #[.slice A0_0 l0_0.length c0_0, .slice A0_1 l0_1.length c0_1, .slice A0_2 l0_2.length c0_2] 26 (0, 0)) (by (with_reducible repeat (first | refine blk_drewN ?_ _ | refine blk_drew ?_ | refine blk_alloc ?_ _)); exact BK151.out) hb); have n1_ := Aside0.mk (below_step (by repeat (first | (with_reducible first | exact HB.out | apply below_alloc | apply pw_below_drewN | apply below_drew1 | refine below_set ?_ GE151.out) | exact HB.out)) hb); clear BK151; clear HB; have BK151 := n0_; have HB := n1_; clear n0_ n1_; (try clear hb); (try clear hb2); (try clear hk); (try clear hi); have hcz21_0 : w20.cell? ⟨gb151, 0, none⟩ = some (.slice A0_0 l0_0.length c0_0) := (blk_cell BK151.out 0).trans rfl; have hcz21_1 : w20.cell? ⟨gb151, 1, none⟩ = some (.slice A0_1 l0_1.length c0_1) := (blk_cell BK151.out 1).trans rfl; have hcz21_2 : w20.cell? ⟨gb151, 2, none⟩ = some (.slice A0_2 l0_2.length c0_2) := (blk_cell BK151.out 2).trans rfl; have hfz21_0 := blk_frozen BK151.out 0; have hfz21_1 := blk_frozen BK151.out 1; have hfz21_2 := blk_frozen BK151.out 2) | ((with_reducible refine gate_callee (f := 49) rfl ?_); refine goesL_ (some 25) rfl rfl Try.func49 (by kernel_rfl) rfl #[.agg #[.slice A0_0 l0_0.length c0_0, .slice A0_1 l0_1.length c0_1, .slice A0_2 l0_2.length c0_2], .slice A1 l1.length c1, .slice A0_2 l0_2.length c0_2] rfl (by (try simp only [List.map_toArray, List.map_cons, List.map_nil]); first | done | rfl | (simp only [List.length_drop, List.length_take]; rfl)) ?_; (with_reducible refine (pkey_work.calls _ _ l0_0 _ _ l0_1 _ _ l0_2 _ _ l1 _ _ l0_2 t155 _ ?side1 ?side2 ?side3 ?side4 ?side5 ?side6 ?side7 ?side8 ?side9 ?side10 A17.out).mono ?_); (case side1 => repeat (first | exact (Kd.C_below HR0_0.out HB.out) | (with_reducible refine Kd.C_alloc ?_ _) | (with_reducible refine Kd.C_drewN ?_ _) | (with_reducible refine Kd.C_drew ?_))); (case side2 => exact HC0_0.out); (case side3 => repeat (first | exact (Kd.C_below HR0_1.out HB.out) | (with_reducible refine Kd.C_alloc ?_ _) | (with_reducible refine Kd.C_drewN ?_ _) | (with_reducible refine Kd.C_drew ?_))); (case side4 => exact HC0_1.out); (case side5 => repeat (first | exact (Kd.C_below HR0_2.out HB.out) | (with_reducible refine Kd.C_alloc ?_ _) | (with_reducible refine Kd.C_drewN ?_ _) | (with_reducible refine Kd.C_drew ?_))); (case side6 => exact HC0_2.out); (case side7 => repeat (first | exact (Kd.C_below HR1.out HB.out) | (with_reducible refine Kd.C_alloc ?_ _) | (with_reducible refine Kd.C_drewN ?_ _) | (with_reducible refine Kd.C_drew ?_))); (case side8 => exact HC1.out); (case side9 => repeat (first | exact (Kd.C_below HR0_2.out HB.out) | (with_reducible refine Kd.C_alloc ?_ _) | (with_reducible refine Kd.C_drewN ?_ _) | (with_reducible refine Kd.C_drew ?_))); (case side10 => exact HC0_2.out); rintro e w22 ⟨v156, rfl, ho0, hb⟩; refine ⟨_, rfl, ?_⟩; have n0_ := Aside0.mk (Kd.R_lower ho0 (below_size (by repeat (first | (with_reducible first | exact HB.out | apply below_alloc | apply pw_below_drewN | apply below_drew1 | refine below_set ?_ GE151.out) | exact HB.out)))); have n1_ := Aside0.mk (blk_below (g := gb151) (o := .cells #[.slice A0_0 l0_0.length c0_0, .slice A0_1 l0_1.length c0_1, .slice A0_2 l0_2.length c0_2] 26 (0, 0)) (by (with_reducible repeat (first | refine blk_drewN ?_ _ | refine blk_drew ?_ | refine blk_alloc ?_ _)); exact BK151.out) hb); have n2_ := Aside0.mk (below_step (by repeat (first | (with_reducible first | exact HB.out | apply below_alloc | apply pw_below_drewN | apply below_drew1 | refine below_set ?_ GE151.out) | exact HB.out)) hb); clear BK151; clear HB; have HO157 := n0_; have BK151 := n1_; have HB := n2_; clear n0_ n1_ n2_; (try clear hb); (try clear hb2); (try clear hk); (try clear hi); (try clear ho0)))
          (try simp only [Act.put, List.setIfInBounds_toArray, List.set_cons_zero, List.set_cons_succ])
          go_cut [35] (fun v35 wc => ∃ (kq : Nat) (x35_17 : Bool), v35 = .bool x35_17 ∧ Aside0 (pkey_Decrypt.j1 kq t155 x35_17 = some (r1, r2)) ∧ Aside0 (kq ≤ kj2) ∧ Aside0 (Kd.R (Kd.int .u8) 5 wc w.heap.size (fun _ => True) v156 t155) ∧ Aside0 (wc.heap[gb151]? = some (.cells #[(.slice A0_0 l0_0.length c0_0), (.slice A0_1 l0_1.length c0_1), (.slice A0_2 l0_2.length c0_2)] 26 (0, 0))) ∧ Aside0 (Below w.heap.size w wc))
          case first =>
            have H := HC18.out
            clear HC18
            by_cases c23 : 0 < (t155.length : Int)
            · rw [if_pos c23] at H
              have c23b0 : decide (0 < (t155.length : Int)) = true := decide_eq_true c23
              have c23b1 : decide (0 < t155.length) = true := decide_eq_true (by omega)
              clear c23
              (first | rw [c23b0] | (simp only [i64_w, i32_w]; rw [c23b0]) | skip)
              by_cases c24 : (rd t155 0) = 0
              · rw [if_pos c24] at H
                have c24b0 : ((rd t155 0) == 0) = true := beq_iff_eq.mpr c24
                have c24b1 : ((rd t155 0) != 0) = false := bne_eq_false_iff_eq.mpr c24
                clear c24
                by_cases c25 : 1 < (t155.length : Int)
                · rw [if_pos c25] at H
                  have c25b0 : decide (1 < (t155.length : Int)) = true := decide_eq_true c25
                  have c25b1 : decide (1 < t155.length) = true := decide_eq_true (by omega)
                  clear c25
                  have H' := Aside0.mk H
                  clear H
                  obtain ⟨Ao26, co26, eo26⟩ := Kd.R_slice HO157.out
                  subst eo26
                  have p158 : 0 ≤ (0 : Int) := (by omega)
                  have q158 : 0 < (t155.length : Int) := of_decide_eq_true (by first | (with_reducible assumption) | assumption)
                  obtain ⟨ad158, e158, hx158_0⟩ := Kd.at_int (Kd.R_reads' HO157.out).2.2 0 p158 q158
                  cases e158
                  have qi158 : (0 < t155.length) = True := eq_true (by omega)
                  (try rw [show ((0 : Int)).toNat = 0 from rfl] at hx158_0)
                  (try rw [Addr.add_zero'] at hx158_0)
                  replace p158 := eq_true p158
                  replace q158 := eq_true q158
                  have p159 : 0 ≤ (1 : Int) := (by omega)
                  have q159 : 1 < (t155.length : Int) := of_decide_eq_true (by first | (with_reducible assumption) | assumption)
                  obtain ⟨ad159, e159, hx159_0⟩ := Kd.at_int (Kd.R_reads' HO157.out).2.2 1 p159 q159
                  obtain rfl : ad158 = ad159 := (by injection e159)
                  (try simp only [show (1 : Int).toNat = 1 from rfl, Nat.reduceMul, Nat.reduceEqDiff, Go.Addr.add, ↓reduceIte] at hx159_0)
                  have qi159 : (1 < t155.length) = True := eq_true (by omega)
                  (try rw [show ((1 : Int)).toNat = 1 from rfl] at hx159_0)
                  replace p159 := eq_true p159
                  replace q159 := eq_true q159
                  go_wp2
                  go_meet
                  case rel => exact ⟨_, (((rd t155 1) != 2)), (by first | rfl | (simp; done) | (simp [*]; done)), H', ⟨by have := HJ2.out; first | omega | exact Nat.le_refl _⟩, ⟨by (with_reducible repeat (first | apply Kd.R_alloc | apply Kd.R_drewN | apply Kd.R_drew)); exact HO157.out⟩, ⟨by (with_reducible repeat (first | refine blk_drewN ?_ _ | refine blk_drew ?_ | refine blk_alloc ?_ _)); exact BK151.out⟩, ⟨by repeat (first | (with_reducible first | exact HB.out | apply below_alloc | apply pw_below_drewN | apply below_drew1 | refine below_set ?_ GE151.out) | exact HB.out)⟩⟩
                · rw [if_neg c25] at H
                  exact absurd H (by simp)
              · rw [if_neg c24] at H
                have c24b0 : ((rd t155 0) == 0) = false := beq_eq_false_iff_ne.mpr c24
                have c24b1 : ((rd t155 0) != 0) = true := bne_iff_ne.mpr c24
                have H' := Aside0.mk H
                clear H
                obtain ⟨Ao27, co27, eo27⟩ := Kd.R_slice HO157.out
                subst eo27
                have p158 : 0 ≤ (0 : Int) := (by omega)
                have q158 : 0 < (t155.length : Int) := of_decide_eq_true (by first | (with_reducible assumption) | assumption)
                obtain ⟨ad158, e158, hx158_0⟩ := Kd.at_int (Kd.R_reads' HO157.out).2.2 0 p158 q158
                cases e158
                have qi158 : (0 < t155.length) = True := eq_true (by omega)
                (try rw [show ((0 : Int)).toNat = 0 from rfl] at hx158_0)
                (try rw [Addr.add_zero'] at hx158_0)
                replace p158 := eq_true p158
                replace q158 := eq_true q158
                go_wp2
                go_meet
                case rel => exact ⟨_, (true), (by first | rfl | (simp; done) | (simp [*]; done)), H', ⟨by have := HJ2.out; first | omega | exact Nat.le_refl _⟩, ⟨by (with_reducible repeat (first | apply Kd.R_alloc | apply Kd.R_drewN | apply Kd.R_drew)); exact HO157.out⟩, ⟨by (with_reducible repeat (first | refine blk_drewN ?_ _ | refine blk_drew ?_ | refine blk_alloc ?_ _)); exact BK151.out⟩, ⟨by repeat (first | (with_reducible first | exact HB.out | apply below_alloc | apply pw_below_drewN | apply below_drew1 | refine below_set ?_ GE151.out) | exact HB.out)⟩⟩
            · rw [if_neg c23] at H
              exact absurd H (by simp)
          case rest =>
            clear HC18
            try clear c1
            try clear p1
            try clear q1
            try clear hx1
            try clear qi1
            try clear c2
            try clear p2
            try clear c4
            try clear c5
            try clear c6
            try clear c6b0
            try clear c6b1
            try clear c14
            try clear p15
            try clear q15
            try clear hx15
            try clear qi15
            try clear c16
            try clear c20
            try clear c23
            try clear c23b0
            try clear c23b1
            try clear c24
            try clear c24b0
            try clear c24b1
            try clear c25
            try clear c25b0
            try clear c25b1
            try clear hcz10_0
            try clear hcz10_1
            try clear hcz10_2
            try clear hcz12_0
            try clear hcz12_1
            try clear hcz12_2
            try clear hcz19_0
            try clear hcz19_1
            try clear hcz19_2
            try clear hcz21_0
            try clear hcz21_1
            try clear hcz21_2
            try clear hcz8_0
            try clear hcz8_1
            try clear hcz8_2
            try clear hfz10_0
            try clear hfz10_1
            try clear hfz10_2
            try clear hfz12_0
            try clear hfz12_1
            try clear hfz12_2
            try clear hfz19_0
            try clear hfz19_1
            try clear hfz19_2
            try clear hfz21_0
            try clear hfz21_1
            try clear hfz21_2
            try clear hfz8_0
            try clear hfz8_1
            try clear hfz8_2
            try clear hx158_0
            try clear hx159_0
            try clear p158
            try clear p159
            try clear p2
            try clear q158
            try clear q159
            obtain ⟨kq, x35_17, rfl, HA, HJ17, HO_6, BK151, HB⟩ := hcut
            cases kq with
            | zero => exact absurd HA.out (by simp [pkey_Decrypt.j1])
            | succ kj17 =>
              have H := HA.out
              clear HA
              simp only [pkey_Decrypt.j1] at H
              by_cases c28 : x35_17 = true
              · subst c28
                have H1 : (some (([] : List Int), 51)) = some (r1, r2) := by rw [if_pos rfl] at H; exact H
                clear H
                have H := H1
                clear H1
                simp only [Option.some.injEq, Prod.mk.injEq] at H
                obtain ⟨rfl, rfl⟩ := H
                go_wp2
                go_ret2
                exact ⟨_, by first | rfl | (simp [errW_none, errW_some] <;> rfl) | (simp [*, errW_none, errW_some] <;> rfl), by first | exact Kd.R_nil _ _ _ _ _ | exact Kd.N_nil _ _ _ _ _ | exact Kd.V_nil _ _ _ _ _ | exact Kd.Q_nil _ _ _ _ _ | exact Kd.S_nil _ _ _ _ _, by repeat (first | (with_reducible first | exact HB.out | apply below_alloc | apply pw_below_drewN | apply below_drew1 | refine below_set ?_ GE151.out) | exact HB.out)⟩
              · replace c28 := Bool.eq_false_iff.mpr c28
                subst c28
                have H1 : (if 2 ≤ (t155.length : Int) then ((slices_Index_byte_byte.f kj17 (t155.drop 2) 0).bind fun t164 => (if t164 < 8 then (some (([] : List Int), 51)) else (if 0 ≤ (wrap64 (t164 + 3)) then (if (wrap64 (t164 + 3)) ≤ (t155.length : Int) then ((slices_Clone_byte_byte.f (t155.drop ((wrap64 (t164 + 3)) : Int).toNat)).bind fun t169 => (some (t169, 0))) else (none)) else (none)))) else (none)) = some (r1, r2) := by rw [if_neg (show ¬ (false = true) by decide)] at H; exact H
                clear H
                have H := H1
                clear H1
                by_cases c29 : 2 ≤ (t155.length : Int)
                · rw [if_pos c29] at H
                  have c29b0 := eq_true c29
                  have c29b1 : decide (2 ≤ (t155.length : Int)) = true := decide_eq_true c29
                  clear c29
                  obtain ⟨y160, hy160⟩ : ∃ y_ : List Int, y_ = (t155.drop 2) := ⟨_, rfl⟩
                  replace H : ((slices_Index_byte_byte.f kj17 y160 0).bind fun t164 => (if t164 < 8 then (some (([] : List Int), 51)) else (if 0 ≤ (wrap64 (t164 + 3)) then (if (wrap64 (t164 + 3)) ≤ (t155.length : Int) then ((slices_Clone_byte_byte.f (t155.drop ((wrap64 (t164 + 3)) : Int).toNat)).bind fun t169 => (some (t169, 0))) else (none)) else (none)))) = some (r1, r2) := by first | (rw [hy160]; with_reducible exact H) | (have H2_ := (Option.bind_some _ _).symm.trans H; rw [hy160]; with_reducible exact H2_) | (have H2_ := (Option.bind_some _ _).symm.trans H; with_reducible exact H2_) | with_reducible exact H | (rw [hy160]; exact H) | exact H
                  have Ny160 := Aside0.mk hy160
                  clear hy160
                  replace H := Option.bind_eq_some_iff.mp H
                  obtain ⟨t164, A300, H⟩ := H
                  replace H : (if t164 < 8 then (some (([] : List Int), 51)) else (if 0 ≤ (wrap64 (t164 + 3)) then (if (wrap64 (t164 + 3)) ≤ (t155.length : Int) then ((slices_Clone_byte_byte.f (t155.drop ((wrap64 (t164 + 3)) : Int).toNat)).bind fun t169 => (some (t169, 0))) else (none)) else (none))) = some (r1, r2) := H
                  have A30 := Aside0.mk A300
                  clear A300
                  by_cases c31 : t164 < 8
                  · rw [if_pos c31] at H
                    have c31b0 : decide (t164 < 8) = true := decide_eq_true c31
                    clear c31
                    simp only [Option.some.injEq, Prod.mk.injEq] at H
                    obtain ⟨rfl, rfl⟩ := H
                    obtain ⟨Ao33, co33, eo33⟩ := Kd.R_slice HO_6.out
                    subst eo33
                    have q32 : (2 : Int) ≤ ((t155.length : Int) : Int) := of_decide_eq_true (by first | (with_reducible assumption) | assumption)
                    obtain ⟨i032, hi032, _, hsz32, _⟩ := info_parts info5
                    have hroom32 : t155.length ≤ co33 := (Kd.R_reads' HO_6.out).2.1
                    have hC32 : Kd.C (Kd.int .u8) _ Ao33 t155.length t155 := (Kd.R_reads' HO_6.out).2.2
                    have hcut32 := cut_from (P := Try.prog) 22 5 .i64 Try.underlying22 hi032 1 hsz32 Ao33 t155.length co33 2 (by omega) q32
                    have hr32 := Kd.C_drop (m := (2 : Int).toNat) (c := co33) hC32 (by omega) hroom32
                    obtain ⟨A32, hA32⟩ : ∃ A1, A1 = (if co33 = (2 : Int).toNat then Ao33 else (Ao33 : Option Addr).map (·.add ((2 : Int).toNat * 1))) := ⟨_, rfl⟩
                    obtain ⟨c32, hc32⟩ : ∃ c1, c1 = co33 - (2 : Int).toNat := ⟨_, rfl⟩
                    have hy32 : y160.length = t155.length - (2 : Int).toNat := (by rw [Ny160.out, List.length_drop] <;> omega)
                    rw [show (t155).drop (2 : Int).toNat = y160 from Ny160.out.symm] at hr32
                    replace hr32 : Kd.C (Kd.int .u8) _ A32 y160.length y160 := (by rw [hA32]; exact hr32)
                    rw [← hy32, ← hA32, ← hc32] at hcut32
                    have HR163 := Aside0.mk hr32
                    have HC163 := Aside0.mk (show y160.length ≤ c32 from by rw [hy32, hc32]; exact Nat.sub_le_sub_right hroom32 _)
                    clear hr32 hC32 hroom32 hi032 hsz32 hc32
                    have KY32 := Aside0.mk hy32
                    have KA32 := Aside0.mk hA32
                    clear hy32 hA32
                    have KL32 := Aside0.mk (show 2 ≤ t155.length from by omega)
                    replace q32 := eq_true q32
                    go_wp2_with (first | ((with_reducible refine gate_callee (f := 67) rfl ?_); refine goesL_ (some 38) rfl rfl Try.func67 (by kernel_rfl) rfl #[.slice A32 y160.length c32, .int .u8 0] rfl (by (try simp only [List.map_toArray, List.map_cons, List.map_nil]); first | done | rfl | (simp only [List.length_drop, List.length_take]; rfl)) ?_; (with_reducible refine (slices_Index_byte_byte.calls kj17 _ _ y160 0 t164 _ ?side1 ?side2 A30.out).mono ?_); (case side1 => repeat (first | exact (by repeat (first | (with_reducible exact HR163.out) | (with_reducible refine Kd.C_alloc ?_ _) | (with_reducible refine Kd.C_drewN ?_ _) | (with_reducible refine Kd.C_drew ?_) | exact HR163.out)) | (with_reducible refine Kd.C_alloc ?_ _) | (with_reducible refine Kd.C_drewN ?_ _) | (with_reducible refine Kd.C_drew ?_))); (case side2 => exact HC163.out); rintro e w' ⟨rfl, ⟨nd, rfl⟩⟩; refine ⟨_, rfl, ?_⟩))
                    go_ret2
                    exact ⟨_, by first | rfl | (simp [errW_none, errW_some] <;> rfl) | (simp [*, errW_none, errW_some] <;> rfl), by first | exact Kd.R_nil _ _ _ _ _ | exact Kd.N_nil _ _ _ _ _ | exact Kd.V_nil _ _ _ _ _ | exact Kd.Q_nil _ _ _ _ _ | exact Kd.S_nil _ _ _ _ _, by repeat (first | (with_reducible first | exact HB.out | apply below_alloc | apply pw_below_drewN | apply below_drew1 | refine below_set ?_ GE151.out) | exact HB.out)⟩
                  · rw [if_neg c31] at H
                    have c31b0 : decide (t164 < 8) = false := decide_eq_false c31
                    clear c31
                    obtain ⟨ji34, hji34⟩ : ∃ j_ : Int, (wrap64 (t164 + 3)) = j_ := ⟨_, rfl⟩
                    replace H : (if 0 ≤ (ji34) then (if (ji34) ≤ (t155.length : Int) then ((slices_Clone_byte_byte.f (t155.drop ((ji34) : Int).toNat)).bind fun t169 => (some (t169, 0))) else (none)) else (none)) = some (r1, r2) := by first | (rw [hji34] at H; exact H) | (simp only [hji34] at H ⊢; exact H)
                    (try rw [hji34] at A30)
                    have hji34w : (IntKind.i64.wrap (t164 + 3)) = ji34 := (i64_w _).trans hji34
                    by_cases c35 : 0 ≤ (ji34)
                    · rw [if_pos c35] at H
                      have c35b0 := eq_true c35
                      have c35b1 : decide (0 ≤ (ji34)) = true := decide_eq_true c35
                      clear c35
                      by_cases c36 : (ji34) ≤ (t155.length : Int)
                      · rw [if_pos c36] at H
                        have c36b0 := eq_true c36
                        have c36b1 : decide ((ji34) ≤ (t155.length : Int)) = true := decide_eq_true c36
                        clear c36
                        obtain ⟨y165, hy165⟩ : ∃ y_ : List Int, y_ = (t155.drop ((ji34) : Int).toNat) := ⟨_, rfl⟩
                        replace H : ((slices_Clone_byte_byte.f y165).bind fun t169 => (some (t169, 0))) = some (r1, r2) := by first | (rw [hy165]; with_reducible exact H) | (have H2_ := (Option.bind_some _ _).symm.trans H; rw [hy165]; with_reducible exact H2_) | (have H2_ := (Option.bind_some _ _).symm.trans H; with_reducible exact H2_) | with_reducible exact H | (rw [hy165]; exact H) | exact H
                        have Ny165 := Aside0.mk hy165
                        clear hy165
                        replace H := Option.bind_eq_some_iff.mp H
                        obtain ⟨t169, A370, H⟩ := H
                        replace H : (some (t169, 0)) = some (r1, r2) := H
                        have A37 := Aside0.mk A370
                        clear A370
                        simp only [Option.some.injEq, Prod.mk.injEq] at H
                        obtain ⟨rfl, rfl⟩ := H
                        obtain ⟨Ao39, co39, eo39⟩ := Kd.R_slice HO_6.out
                        subst eo39
                        have q38 : (2 : Int) ≤ ((t155.length : Int) : Int) := of_decide_eq_true (by first | (with_reducible assumption) | assumption)
                        obtain ⟨i038, hi038, _, hsz38, _⟩ := info_parts info5
                        have hroom38 : t155.length ≤ co39 := (Kd.R_reads' HO_6.out).2.1
                        have hC38 : Kd.C (Kd.int .u8) _ Ao39 t155.length t155 := (Kd.R_reads' HO_6.out).2.2
                        have hcut38 := cut_from (P := Try.prog) 22 5 .i64 Try.underlying22 hi038 1 hsz38 Ao39 t155.length co39 2 (by omega) q38
                        have hr38 := Kd.C_drop (m := (2 : Int).toNat) (c := co39) hC38 (by omega) hroom38
                        obtain ⟨A38, hA38⟩ : ∃ A1, A1 = (if co39 = (2 : Int).toNat then Ao39 else (Ao39 : Option Addr).map (·.add ((2 : Int).toNat * 1))) := ⟨_, rfl⟩
                        obtain ⟨c38, hc38⟩ : ∃ c1, c1 = co39 - (2 : Int).toNat := ⟨_, rfl⟩
                        have hy38 : y160.length = t155.length - (2 : Int).toNat := (by rw [Ny160.out, List.length_drop] <;> omega)
                        rw [show (t155).drop (2 : Int).toNat = y160 from Ny160.out.symm] at hr38
                        replace hr38 : Kd.C (Kd.int .u8) _ A38 y160.length y160 := (by rw [hA38]; exact hr38)
                        rw [← hy38, ← hA38, ← hc38] at hcut38
                        have HR163 := Aside0.mk hr38
                        have HC163 := Aside0.mk (show y160.length ≤ c38 from by rw [hy38, hc38]; exact Nat.sub_le_sub_right hroom38 _)
                        clear hr38 hC38 hroom38 hi038 hsz38 hc38
                        have KY38 := Aside0.mk hy38
                        have KA38 := Aside0.mk hA38
                        clear hy38 hA38
                        have KL38 := Aside0.mk (show 2 ≤ t155.length from by omega)
                        replace q38 := eq_true q38
                        go_wp2_with (first | ((with_reducible refine gate_callee (f := 67) rfl ?_); refine goesL_ (some 38) rfl rfl Try.func67 (by kernel_rfl) rfl #[.slice A38 y160.length c38, .int .u8 0] rfl (by (try simp only [List.map_toArray, List.map_cons, List.map_nil]); first | done | rfl | (simp only [List.length_drop, List.length_take]; rfl)) ?_; (with_reducible refine (slices_Index_byte_byte.calls kj17 _ _ y160 0 t164 _ ?side1 ?side2 A30.out).mono ?_); (case side1 => repeat (first | exact (by repeat (first | (with_reducible exact HR163.out) | (with_reducible refine Kd.C_alloc ?_ _) | (with_reducible refine Kd.C_drewN ?_ _) | (with_reducible refine Kd.C_drew ?_) | exact HR163.out)) | (with_reducible refine Kd.C_alloc ?_ _) | (with_reducible refine Kd.C_drewN ?_ _) | (with_reducible refine Kd.C_drew ?_))); (case side2 => exact HC163.out); rintro e w' ⟨rfl, ⟨nd, rfl⟩⟩; refine ⟨_, rfl, ?_⟩; have q40 : ((ji34) : Int) ≤ ((t155.length : Int) : Int) := of_decide_eq_true (by first | (with_reducible assumption) | assumption); obtain ⟨i040, hi040, _, hsz40, _⟩ := info_parts info5; have hroom40 : t155.length ≤ co39 := (Kd.R_reads' HO_6.out).2.1; have hC40 : Kd.C (Kd.int .u8) _ Ao39 t155.length t155 := (Kd.R_reads' HO_6.out).2.2; have q040 : (0 : Int) ≤ ((ji34) : Int) := of_decide_eq_true (by first | (with_reducible assumption) | assumption); have hcut40 := cut_from (P := Try.prog) 22 5 .i64 Try.underlying22 hi040 1 hsz40 Ao39 t155.length co39 (ji34) q040 q40; have hr40 := Kd.C_drop (m := ((ji34) : Int).toNat) (c := co39) hC40 (by omega) hroom40; obtain ⟨A40, hA40⟩ : ∃ A1, A1 = (if co39 = ((ji34) : Int).toNat then Ao39 else (Ao39 : Option Addr).map (·.add (((ji34) : Int).toNat * 1))) := ⟨_, rfl⟩; obtain ⟨c40, hc40⟩ : ∃ c1, c1 = co39 - ((ji34) : Int).toNat := ⟨_, rfl⟩; have hy40 : y165.length = t155.length - ((ji34) : Int).toNat := (by rw [Ny165.out, List.length_drop] <;> omega); rw [show (t155).drop ((ji34) : Int).toNat = y165 from Ny165.out.symm] at hr40; replace hr40 : Kd.C (Kd.int .u8) _ A40 y165.length y165 := (by rw [hA40]; exact hr40); rw [← hy40, ← hA40, ← hc40] at hcut40; have HR168 := Aside0.mk hr40; have HC168 := Aside0.mk (show y165.length ≤ c40 from by rw [hy40, hc40]; exact Nat.sub_le_sub_right hroom40 _); clear hr40 hC40 hroom40 hi040 hsz40 hc40; have KY40 := Aside0.mk hy40; have KA40 := Aside0.mk hA40; clear hy40 hA40; have KL40 := Aside0.mk (show ((ji34) : Int).toNat ≤ t155.length from by omega); replace q40 := eq_true q40) | ((with_reducible refine gate_callee (f := 64) rfl ?_); refine goesL_ (some 45) rfl rfl Try.func64 (by kernel_rfl) rfl #[.slice A40 y165.length c40] rfl (by (try simp only [List.map_toArray, List.map_cons, List.map_nil]); first | done | rfl | (simp only [List.length_drop, List.length_take]; rfl)) ?_; (with_reducible refine (slices_Clone_byte_byte.calls _ _ y165 t169 _ ?side1 ?side2 A37.out).mono ?_); (case side1 => repeat (first | exact (by repeat (first | (with_reducible exact HR168.out) | (with_reducible refine Kd.C_alloc ?_ _) | (with_reducible refine Kd.C_drewN ?_ _) | (with_reducible refine Kd.C_drew ?_) | exact HR168.out)) | (with_reducible refine Kd.C_alloc ?_ _) | (with_reducible refine Kd.C_drewN ?_ _) | (with_reducible refine Kd.C_drew ?_))); (case side2 => exact HC168.out); rintro e w41 ⟨v170, rfl, ho0, hb⟩; refine ⟨_, rfl, ?_⟩; have n0_ := Aside0.mk (Kd.R_elder' (by (with_reducible repeat (first | apply Kd.R_alloc | apply Kd.R_drewN | apply Kd.R_drew)); exact HO_6.out) (Kd.R_base ho0) hb); have n1_ := Aside0.mk (Kd.R_lower (Kd.R_new' ho0 (Kd.R_lt (by (with_reducible repeat (first | apply Kd.R_alloc | apply Kd.R_drewN | apply Kd.R_drew)); exact HO_6.out))) (below_size (by repeat (first | (with_reducible first | exact HB.out | apply below_alloc | apply pw_below_drewN | apply below_drew1 | refine below_set ?_ GE151.out) | exact HB.out)))); have n2_ := Aside0.mk (blk_below (g := gb151) (o := .cells #[.slice A0_0 l0_0.length c0_0, .slice A0_1 l0_1.length c0_1, .slice A0_2 l0_2.length c0_2] 26 (0, 0)) (by (with_reducible repeat (first | refine blk_drewN ?_ _ | refine blk_drew ?_ | refine blk_alloc ?_ _)); exact BK151.out) hb); have n3_ := Aside0.mk (Kd.C_below (by repeat (first | (with_reducible exact HR163.out) | (with_reducible refine Kd.C_alloc ?_ _) | (with_reducible refine Kd.C_drewN ?_ _) | (with_reducible refine Kd.C_drew ?_) | exact HR163.out)) hb); have n4_ := Aside0.mk (Kd.C_below (by repeat (first | (with_reducible exact HR168.out) | (with_reducible refine Kd.C_alloc ?_ _) | (with_reducible refine Kd.C_drewN ?_ _) | (with_reducible refine Kd.C_drew ?_) | exact HR168.out)) hb); have n5_ := Aside0.mk (below_step (by repeat (first | (with_reducible first | exact HB.out | apply below_alloc | apply pw_below_drewN | apply below_drew1 | refine below_set ?_ GE151.out) | exact HB.out)) hb); clear HO_6; clear BK151; clear HR163; clear HR168; clear HB; have HO_6 := n0_; have HO171 := n1_; have BK151 := n2_; have HR163 := n3_; have HR168 := n4_; have HB := n5_; clear n0_ n1_ n2_ n3_ n4_ n5_; (try clear hb); (try clear hb2); (try clear hk); (try clear hi); (try clear ho0)))
                        go_ret2
                        exact ⟨_, by first | rfl | (simp [errW_none, errW_some] <;> rfl) | (simp only [← hji34]; first | rfl | (simp [errW_none, errW_some] <;> rfl)) | (simp [*, errW_none, errW_some] <;> rfl), by (with_reducible repeat (first | apply Kd.R_alloc | apply Kd.R_drewN | apply Kd.R_drew)); exact Kd.R_mono HO171.out (fun _ hk => trivial), by repeat (first | (with_reducible first | exact HB.out | apply below_alloc | apply pw_below_drewN | apply below_drew1 | refine below_set ?_ GE151.out) | exact HB.out)⟩
                      · rw [if_neg c36] at H
                        exact absurd H (by simp)
                    · rw [if_neg c35] at H
                      exact absurd H (by simp)
                · rw [if_neg c29] at H
                  exact absurd H (by simp)
        · replace c16 := Bool.eq_false_iff.mpr c16
          subst c16
          have H1 : (some (([] : List Int), 51)) = some (r1, r2) := by rw [if_neg (show ¬ (false = true) by decide)] at H; exact H
          clear H
          have H := H1
          clear H1
          simp only [Option.some.injEq, Prod.mk.injEq] at H
          obtain ⟨rfl, rfl⟩ := H
          have hcz42_0 : wc.cell? ⟨gb151, 0, none⟩ = some (.slice A0_0 l0_0.length c0_0) := (blk_cell BK151.out 0).trans rfl
          have hcz42_1 : wc.cell? ⟨gb151, 1, none⟩ = some (.slice A0_1 l0_1.length c0_1) := (blk_cell BK151.out 1).trans rfl
          have hcz42_2 : wc.cell? ⟨gb151, 2, none⟩ = some (.slice A0_2 l0_2.length c0_2) := (blk_cell BK151.out 2).trans rfl
          have hfz42_0 := blk_frozen BK151.out 0
          have hfz42_1 := blk_frozen BK151.out 1
          have hfz42_2 := blk_frozen BK151.out 2
          go_wp2_with (first | ((with_reducible refine gate_callee (f := 51) rfl ?_); refine goesL_ (some 19) rfl rfl Try.func51 (by kernel_rfl) rfl #[.agg #[.slice A0_0 l0_0.length c0_0, .slice A0_1 l0_1.length c0_1, .slice A0_2 l0_2.length c0_2], .slice A1 l1.length c1] rfl (by (try simp only [List.map_toArray, List.map_cons, List.map_nil]); first | done | rfl | (simp only [List.length_drop, List.length_take]; rfl)) ?_; (with_reducible refine (pkey_fits.calls _ _ l0_0 _ _ l0_1 _ _ l0_2 _ _ l1 false _ ?side1 ?side2 ?side3 ?side4 ?side5 ?side6 ?side7 ?side8 A15.out).mono ?_); (case side1 => repeat (first | exact (Kd.C_below HR0_0.out HB.out) | (with_reducible refine Kd.C_alloc ?_ _) | (with_reducible refine Kd.C_drewN ?_ _) | (with_reducible refine Kd.C_drew ?_))); (case side2 => exact HC0_0.out); (case side3 => repeat (first | exact (Kd.C_below HR0_1.out HB.out) | (with_reducible refine Kd.C_alloc ?_ _) | (with_reducible refine Kd.C_drewN ?_ _) | (with_reducible refine Kd.C_drew ?_))); (case side4 => exact HC0_1.out); (case side5 => repeat (first | exact (Kd.C_below HR0_2.out HB.out) | (with_reducible refine Kd.C_alloc ?_ _) | (with_reducible refine Kd.C_drewN ?_ _) | (with_reducible refine Kd.C_drew ?_))); (case side6 => exact HC0_2.out); (case side7 => repeat (first | exact (Kd.C_below HR1.out HB.out) | (with_reducible refine Kd.C_alloc ?_ _) | (with_reducible refine Kd.C_drewN ?_ _) | (with_reducible refine Kd.C_drew ?_))); (case side8 => exact HC1.out); rintro e w43 ⟨rfl, hb⟩; refine ⟨_, rfl, ?_⟩; have n0_ := Aside0.mk (blk_below (g := gb151) (o := .cells #[.slice A0_0 l0_0.length c0_0, .slice A0_1 l0_1.length c0_1, .slice A0_2 l0_2.length c0_2] 26 (0, 0)) (by (with_reducible repeat (first | refine blk_drewN ?_ _ | refine blk_drew ?_ | refine blk_alloc ?_ _)); exact BK151.out) hb); have n1_ := Aside0.mk (below_step (by repeat (first | (with_reducible first | exact HB.out | apply below_alloc | apply pw_below_drewN | apply below_drew1 | refine below_set ?_ GE151.out) | exact HB.out)) hb); clear BK151; clear HB; have BK151 := n0_; have HB := n1_; clear n0_ n1_; (try clear hb); (try clear hb2); (try clear hk); (try clear hi)))
          go_ret2
          exact ⟨_, by first | rfl | (simp [errW_none, errW_some] <;> rfl) | (simp [*, errW_none, errW_some] <;> rfl), by first | exact Kd.R_nil _ _ _ _ _ | exact Kd.N_nil _ _ _ _ _ | exact Kd.V_nil _ _ _ _ _ | exact Kd.Q_nil _ _ _ _ _ | exact Kd.S_nil _ _ _ _ _, by repeat (first | (with_reducible first | exact HB.out | apply below_alloc | apply pw_below_drewN | apply below_drew1 | refine below_set ?_ GE151.out) | exact HB.out)⟩
end Go.Proofs.Ytdmglajfmfjmlaa.Cp
namespace Go.Proofs.Ytdmglajfmfjmlaa.Cp
open Go.RowKit Go.Proofs.YtdmglajfmfjmlaaW.PrintWords Go.Proofs.YtdmglajfmfjmlaaW.PrintLast Go.Proofs.YtdmglajfmfjmlaaW.PrintMore
attribute [local go_sem] max2_int min2_int max_two min_two max_three min_three max_four min_four   -- for this text's walks alone
set_option linter.unusedVariables false
set_option linter.unusedSimpArgs false
end Go.Proofs.Ytdmglajfmfjmlaa.Cp
namespace Go.Proofs.Ytdmglajfmfjmlaa
set_option linter.unusedSimpArgs false
set_option linter.unusedVariables false
set_option maxRecDepth 100000
def IsPrime (p : Nat) : Prop := 2 ≤ p ∧ ∀ d, d ∣ p → d = 1 ∨ d = p
theorem IsPrime.coprime {p a : Nat} (h : IsPrime p) (ha : ¬ p ∣ a) : Nat.Coprime p a := by
  unfold Nat.Coprime
  rcases h.2 (Nat.gcd p a) (Nat.gcd_dvd_left p a) with e | e
  · exact e
  · exact absurd (e ▸ Nat.gcd_dvd_right p a) ha
theorem IsPrime.dvd_mul {p a b : Nat} (h : IsPrime p) (hd : p ∣ a * b) : p ∣ a ∨ p ∣ b := by
  by_cases ha : p ∣ a
  · exact .inl ha
  · exact .inr ((h.coprime ha).dvd_of_dvd_mul_left hd)
def choose : Nat → Nat → Nat
  | _, 0 => 1
  | 0, _ + 1 => 0
  | n + 1, k + 1 => choose n k + choose n (k + 1)
theorem choose_zero (n : Nat) : choose n 0 = 1 := by cases n <;> rfl
theorem choose_gt {n k : Nat} (h : n < k) : choose n k = 0 := by
  induction n generalizing k with
  | zero => obtain ⟨k, rfl⟩ : ∃ q, k = q + 1 := ⟨k - 1, by omega⟩; rfl
  | succ n ih =>
    obtain ⟨k, rfl⟩ : ∃ q, k = q + 1 := ⟨k - 1, by omega⟩
    simp only [choose]; rw [ih (by omega), ih (by omega)]
theorem choose_self (n : Nat) : choose n n = 1 := by
  induction n with
  | zero => rfl
  | succ n ih => simp only [choose]; rw [ih, choose_gt (by omega)]
theorem succ_mul_choose (n k : Nat) : (k + 1) * choose (n + 1) (k + 1) = (n + 1) * choose n k := by
  induction n generalizing k with
  | zero =>
    cases k with
    | zero => rfl
    | succ k => simp [choose]
  | succ n ih =>
    cases k with
    | zero =>
      have := ih 0
      simp only [choose, choose_zero] at this ⊢
      omega
    | succ k =>
      have h1 := ih k
      have h2 := ih (k + 1)
      have e1 : choose (n + 1 + 1) (k + 1 + 1) = choose (n + 1) (k + 1) + choose (n + 1) (k + 1 + 1) := rfl
      have e2 : choose (n + 1) (k + 1) = choose n k + choose n (k + 1) := rfl
      rw [e1, Nat.mul_add, h2]
      have e3 : (k + 1 + 1) * choose (n + 1) (k + 1) = (k + 1) * choose (n + 1) (k + 1) + choose (n + 1) (k + 1) := by rw [Nat.succ_mul]
      rw [e3, h1]
      have e4 : (n + 1 + 1) * choose (n + 1) (k + 1) = (n + 1) * choose (n + 1) (k + 1) + choose (n + 1) (k + 1) := by rw [Nat.succ_mul]
      rw [e4, e2, Nat.mul_add]
      omega
theorem IsPrime.dvd_choose {p k : Nat} (h : IsPrime p) (h0 : 0 < k) (hk : k < p) : p ∣ choose p k := by
  obtain ⟨k, rfl⟩ : ∃ q, k = q + 1 := ⟨k - 1, by omega⟩
  obtain ⟨n, rfl⟩ : ∃ q, p = q + 1 := ⟨p - 1, by omega⟩
  have e := succ_mul_choose n k
  have hd : (n + 1) ∣ (k + 1) * choose (n + 1) (k + 1) := ⟨choose n k, e⟩
  rcases h.dvd_mul hd with h1 | h1
  · exact absurd (Nat.le_of_dvd (by omega) h1) (by omega)
  · exact h1
def sumN (f : Nat → Nat) : Nat → Nat
  | 0 => 0
  | n + 1 => sumN f n + f n
theorem sumN_add (f g : Nat → Nat) (n : Nat) : sumN (fun i => f i + g i) n = sumN f n + sumN g n := by
  induction n with
  | zero => rfl
  | succ n ih => simp only [sumN]; rw [ih]; omega
theorem sumN_mul (c : Nat) (f : Nat → Nat) (n : Nat) : sumN (fun i => c * f i) n = c * sumN f n := by
  induction n with
  | zero => simp [sumN]
  | succ n ih => simp only [sumN]; rw [ih, Nat.mul_add]
theorem sumN_shift (f : Nat → Nat) (n : Nat) : sumN f (n + 1) = f 0 + sumN (fun i => f (i + 1)) n := by
  induction n with
  | zero => simp [sumN]
  | succ n ih => rw [sumN, ih]; simp only [sumN]; omega
theorem sumN_congr {f g : Nat → Nat} {n : Nat} (h : ∀ i, i < n → f i = g i) : sumN f n = sumN g n := by
  induction n with
  | zero => rfl
  | succ n ih => simp only [sumN]; rw [ih fun i hi => h i (by omega), h n (by omega)]
theorem binom (a n : Nat) : (a + 1) ^ n = sumN (fun k => choose n k * a ^ k) (n + 1) := by
  induction n with
  | zero => simp [sumN, choose]
  | succ n ih =>
    rw [Nat.pow_succ, ih, Nat.mul_add, Nat.mul_one, sumN_shift (fun k => choose (n + 1) k * a ^ k)]
    have e1 : sumN (fun i => choose (n + 1) (i + 1) * a ^ (i + 1)) (n + 1) = sumN (fun i => a * (choose n i * a ^ i) + choose n (i + 1) * a ^ (i + 1)) (n + 1) := by
      refine sumN_congr fun i _ => ?_
      simp only [choose, Nat.pow_succ, Nat.add_mul]
      rw [Nat.mul_comm (a ^ i) a, Nat.mul_left_comm]
    have e2 : sumN (fun i => choose n (i + 1) * a ^ (i + 1)) (n + 1) + 1 = sumN (fun k => choose n k * a ^ k) (n + 1) := by
      rw [sumN_shift (fun k => choose n k * a ^ k) n, sumN, choose_gt (show n < n + 1 by omega), choose_zero]; simp; omega
    rw [e1, sumN_add, sumN_mul, choose_zero, Nat.mul_comm]
    simp only [Nat.pow_zero, Nat.one_mul]
    omega
theorem dvd_sumN {p : Nat} {f : Nat → Nat} {n : Nat} (h : ∀ i, i < n → p ∣ f i) : p ∣ sumN f n := by
  induction n with
  | zero => exact Nat.dvd_zero p
  | succ n ih => exact Nat.dvd_add (ih fun i hi => h i (by omega)) (h n (by omega))
theorem IsPrime.frob {p : Nat} (h : IsPrime p) (a : Nat) : (a + 1) ^ p % p = (a ^ p + 1) % p := by
  obtain ⟨n, rfl⟩ : ∃ q, p = q + 1 := ⟨p - 1, by have := h.1; omega⟩
  rw [binom, sumN, sumN_shift, choose_self, choose_zero]
  simp only [Nat.pow_zero, Nat.mul_one, Nat.one_mul]
  have hd : (n + 1) ∣ sumN (fun i => choose (n + 1) (i + 1) * a ^ (i + 1)) n := dvd_sumN fun i hi => Nat.dvd_trans (h.dvd_choose (by omega) (by omega)) (Nat.dvd_mul_right _ _)
  obtain ⟨c, hc⟩ := hd
  rw [hc, show 1 + (n + 1) * c + a ^ (n + 1) = (a ^ (n + 1) + 1) + (n + 1) * c by omega, Nat.add_mul_mod_self_left]
theorem IsPrime.fermat {p : Nat} (h : IsPrime p) (a : Nat) : a ^ p % p = a % p := by
  induction a with
  | zero => rw [Nat.zero_pow (by have := h.1; omega)]
  | succ a ih => rw [h.frob, Nat.add_mod, ih, ← Nat.add_mod]
theorem dvd_of_mod_eq {p a b : Nat} (h : a % p = b % p) (hle : b ≤ a) : p ∣ a - b := Nat.dvd_of_mod_eq_zero (Nat.sub_mod_eq_zero_of_mod_eq h)
theorem IsPrime.fermat1 {p a : Nat} (h : IsPrime p) (ha : ¬ p ∣ a) : a ^ (p - 1) % p = 1 := by
  have hp := h.1
  have ha0 : 0 < a := Nat.pos_of_ne_zero fun e => ha (e ▸ Nat.dvd_zero p)
  have e := h.fermat a
  have e2 : a ^ p = a * a ^ (p - 1) := by
    obtain ⟨n, rfl⟩ : ∃ q, p = q + 1 := ⟨p - 1, by omega⟩
    rw [Nat.pow_succ, Nat.mul_comm]; rfl
  rw [e2] at e
  have h1 : 1 ≤ a ^ (p - 1) := Nat.pow_pos ha0
  have hd : p ∣ a * (a ^ (p - 1) - 1) := by
    rw [Nat.mul_sub, Nat.mul_one]
    exact dvd_of_mod_eq e (Nat.le_mul_of_pos_right a h1)
  rcases h.dvd_mul hd with h2 | h2
  · exact absurd h2 ha
  · obtain ⟨c, hc⟩ := h2
    rw [show a ^ (p - 1) = 1 + p * c by omega, Nat.add_mul_mod_self_left, Nat.mod_eq_of_lt (by omega)]
theorem IsPrime.root {p x : Nat} (h : IsPrime p) (hx : x < p) (h1 : x * x % p = 1) : x = 1 ∨ x = p - 1 := by
  have hp := h.1
  have hx0 : 1 ≤ x := Nat.pos_of_ne_zero fun e => by subst e; simp at h1
  have h1' : x * x % p = 1 % p := by rw [h1, Nat.mod_eq_of_lt (by omega)]
  have hd : p ∣ (x - 1) * (x + 1) := by
    have hd := dvd_of_mod_eq h1' (Nat.le_trans hx0 (Nat.le_mul_of_pos_left x hx0))
    have e : (x - 1) * (x + 1) = x * x - 1 := by
      obtain ⟨y, rfl⟩ : ∃ y, x = y + 1 := ⟨x - 1, by omega⟩
      simp only [Nat.add_sub_cancel, Nat.mul_add, Nat.add_mul]; omega
    rwa [e]
  rcases h.dvd_mul hd with h2 | h2
  · left
    rcases Nat.eq_zero_or_pos (x - 1) with h0 | h0
    · omega
    · have := Nat.le_of_dvd h0 h2; omega
  · right
    have := Nat.le_of_dvd (by omega) h2
    omega
end Go.Proofs.Ytdmglajfmfjmlaa
namespace Go.Proofs.Ytdmglajfmfjmlaa
set_option linter.unusedSimpArgs false
set_option linter.unusedVariables false
set_option maxRecDepth 100000
theorem sqs_of_root {p b : Nat} (h : IsPrime p) : ∀ s e, powM b (2 ^ s * e) p = 1 → powM b e p = 1 ∨ sqs b p s e = true := by
  intro s
  induction s with
  | zero => intro e h1; left; simpa using h1
  | succ s ih =>
    intro e h1
    have h2 := ih (2 * e) (by rw [← Nat.mul_assoc, ← Nat.pow_succ]; exact h1)
    unfold sqs
    rcases h2 with h2 | h2
    · rw [← powM_sq] at h2
      rcases h.root (powM_lt (by have := h.1; omega)) h2 with h3 | h3
      · exact .inl h3
      · right; rw [h3]; simp
    · right; rw [h2]; simp
theorem tells_prime {p : Nat} (h : IsPrime p) (b : Nat) : tellsN p b = false := by
  have hp := h.1
  unfold tellsN
  rw [if_neg (by omega)]
  by_cases h2 : p = 2
  · rw [if_pos h2]
  rw [if_neg h2]
  have ho : ¬ p % 2 = 0 := fun h0 => by
    rcases h.2 2 (Nat.dvd_of_mod_eq_zero h0) with e | e <;> omega
  rw [if_neg ho]
  by_cases hb : b % p = 0
  · rw [if_pos hb]
  rw [if_neg hb]
  by_cases h1 : powM b ((p - 1) / 2 ^ twos (p - 1)) p = 1
  · rw [if_pos h1]
  rw [if_neg h1]
  have hf : powM b (2 ^ twos (p - 1) * ((p - 1) / 2 ^ twos (p - 1))) p = 1 := by
    rw [← (twos_spec (show p - 1 ≠ 0 by omega)).1]
    exact h.fermat1 fun hd => hb (Nat.mod_eq_zero_of_dvd hd)
  rcases sqs_of_root h _ _ hf with h3 | h3
  · exact absurd h3 h1
  · rw [h3]; rfl
end Go.Proofs.Ytdmglajfmfjmlaa
namespace Go.Proofs.Ytdmglajfmfjmlaa
set_option linter.unusedSimpArgs false
set_option linter.unusedVariables false
set_option maxRecDepth 100000
def pwm (m : Nat) : Nat → Nat → Nat → Nat
  | 0, _, _ => 1 % m
  | f + 1, a, e => cond (Nat.beq (e % 2) 1) (a * pwm m f (a * a % m) (e / 2) % m) (pwm m f (a * a % m) (e / 2))
theorem pwm_eq (m : Nat) : ∀ (f a e : Nat), e < 2 ^ f → pwm m f a e = a ^ e % m
  | 0, a, e, h => by
    obtain rfl : e = 0 := by simpa using h
    simp [pwm]
  | f + 1, a, e, h => by
    have h2 : e / 2 < 2 ^ f := by rw [Nat.pow_succ] at h; omega
    have ih := pwm_eq m f (a * a % m) (e / 2) h2
    have hp : (a * a % m) ^ (e / 2) % m = a ^ (2 * (e / 2)) % m := by rw [← Nat.pow_mod, Nat.pow_mul, Nat.pow_two]
    rw [hp] at ih
    unfold pwm
    rcases Nat.mod_two_eq_zero_or_one e with h0 | h0
    · rw [h0, show Nat.beq 0 1 = false from rfl, cond_false, ih, show 2 * (e / 2) = e by omega]
    · rw [h0, show Nat.beq 1 1 = true from rfl, cond_true, ih]
      rw [Nat.mul_mod, Nat.mod_mod, ← Nat.mul_mod, ← Nat.pow_succ', Nat.succ_eq_add_one, show 2 * (e / 2) + 1 = e by omega]
theorem pow_gcd {b p : Nat} (hp : 1 < p) : ∀ x y, b ^ x % p = 1 → b ^ y % p = 1 → b ^ Nat.gcd x y % p = 1 := by
  intro x
  induction x using Nat.strongRecOn with
  | ind x ih =>
    intro y hx hy
    rcases Nat.eq_zero_or_pos x with h0 | h0
    · subst h0; rw [Nat.gcd_zero_left]; exact hy
    · rw [Nat.gcd_rec]
      refine ih (y % x) (Nat.mod_lt _ h0) x ?_ hx
      have h1 : b ^ y = (b ^ x) ^ (y / x) * b ^ (y % x) := by rw [← Nat.pow_mul, ← Nat.pow_add, Nat.div_add_mod]
      have h2 : (b ^ x) ^ (y / x) % p = 1 := by rw [Nat.pow_mod, hx, Nat.one_pow]; exact Nat.mod_eq_of_lt hp
      rw [h1, Nat.mul_mod, h2, Nat.one_mul, Nat.mod_mod] at hy
      exact hy
theorem prime_dvd : ∀ n, 2 ≤ n → ∃ p, IsPrime p ∧ p ∣ n := by
  intro n
  induction n using Nat.strongRecOn with
  | ind n ih =>
    intro h
    by_cases hp : ∀ d, d ∣ n → d = 1 ∨ d = n
    · exact ⟨n, ⟨h, hp⟩, Nat.dvd_refl n⟩
    · have : ∃ d, d ∣ n ∧ d ≠ 1 ∧ d ≠ n := by
        apply Classical.byContradiction
        intro hc
        apply hp
        intro d hd
        apply Classical.byContradiction
        intro h'
        exact hc ⟨d, hd, fun e => h' (.inl e), fun e => h' (.inr e)⟩
      obtain ⟨d, hd, h1, h2⟩ := this
      have hle := Nat.le_of_dvd (by omega) hd
      have hd0 : d ≠ 0 := by rintro rfl; rw [Nat.zero_dvd] at hd; omega
      obtain ⟨p, hp', hpd⟩ := ih d (by omega) (by omega)
      exact ⟨p, hp', Nat.dvd_trans hpd hd⟩
theorem prime_of_big {n B : Nat} (h2 : 2 ≤ n) (hB : n < B * B) (h : ∀ p, IsPrime p → p ∣ n → B ≤ p) : IsPrime n := by
  refine ⟨h2, fun d hd => ?_⟩
  apply Classical.byContradiction
  intro hc
  have h1 : d ≠ 1 := fun e => hc (.inl e)
  have hn : d ≠ n := fun e => hc (.inr e)
  obtain ⟨e, he⟩ := hd
  have hd0 : d ≠ 0 := by rintro rfl; rw [Nat.zero_mul] at he; omega
  have he0 : e ≠ 0 := by rintro rfl; rw [Nat.mul_zero] at he; omega
  have he1 : e ≠ 1 := by rintro rfl; rw [Nat.mul_one] at he; exact hn he.symm
  obtain ⟨p, hp, hpd⟩ := prime_dvd d (by omega)
  obtain ⟨q, hq, hqe⟩ := prime_dvd e (by omega)
  have b1 := h p hp (Nat.dvd_trans hpd ⟨e, he⟩)
  have b2 := h q hq (Nat.dvd_trans hqe ⟨d, by rw [he, Nat.mul_comm]⟩)
  have l1 := Nat.le_of_dvd (by omega) hpd
  have l2 := Nat.le_of_dvd (by omega) hqe
  have := Nat.mul_le_mul (Nat.le_trans b1 l1) (Nat.le_trans b2 l2)
  omega
theorem pock_step {n q a k : Nat} (hq : IsPrime q) (hk : q * k = n - 1) (h1 : a ^ (n - 1) % n = 1) (h2 : Nat.gcd (a ^ k % n + n - 1) n = 1) {p : Nat} (hp : IsPrime p) (hpn : p ∣ n) (hn : 1 < n) : q ∣ p - 1 := by
  have hp1 : 1 < p := hp.1
  have m1 : a ^ (n - 1) % p = 1 := by
    have := congrArg (· % p) h1
    simp only [Nat.mod_mod_of_dvd _ hpn] at this
    rw [this, Nat.mod_eq_of_lt hp1]
  have m2 : a ^ k % p ≠ 1 := by
    intro hc
    have e1 : (a ^ k % n) % p = 1 := by rw [Nat.mod_mod_of_dvd _ hpn]; exact hc
    have e2 : p ∣ a ^ k % n + n - 1 := by
      obtain ⟨t, ht⟩ := hpn
      have hge : 1 ≤ a ^ k % n := by
        rcases Nat.eq_zero_or_pos (a ^ k % n) with h0 | h0
        · rw [h0, Nat.zero_mod] at e1; omega
        · exact h0
      have := Nat.div_add_mod (a ^ k % n) p
      rw [e1] at this
      exact ⟨(a ^ k % n) / p + t, by rw [Nat.mul_add, ← ht]; omega⟩
    have := Nat.dvd_gcd e2 hpn
    rw [h2] at this
    have := Nat.le_of_dvd (by omega) this
    omega
  have hap : ¬ p ∣ a := by
    intro hd
    have hpos : 0 < n - 1 := by omega
    have : p ∣ a ^ (n - 1) := by
      obtain ⟨m, hm⟩ : ∃ m, n - 1 = m + 1 := ⟨n - 2, by omega⟩
      rw [hm, Nat.pow_succ]; exact Nat.dvd_mul_left_of_dvd hd _
    have h0 := Nat.mod_eq_zero_of_dvd this
    omega
  have f := hp.fermat1 hap
  have b1 : (a ^ k) ^ q % p = 1 := by rw [← Nat.pow_mul, Nat.mul_comm k q, hk]; exact m1
  have b2 : (a ^ k) ^ (p - 1) % p = 1 := by
    rw [← Nat.pow_mul, Nat.mul_comm k, Nat.pow_mul, Nat.pow_mod, f, Nat.one_pow]; exact Nat.mod_eq_of_lt hp1
  have g := pow_gcd hp1 q (p - 1) b1 b2
  rcases hq.2 (Nat.gcd q (p - 1)) (Nat.gcd_dvd_left _ _) with e | e
  · rw [e, Nat.pow_one] at g; exact absurd g m2
  · rw [← e]; exact Nat.gcd_dvd_right _ _
def noDiv (n : Nat) : Nat → Nat → Bool
  | 0, d => cond (Nat.ble (d * d) n) (!Nat.beq (n % d) 0) true
  | k + 1, d => cond (noDiv n k d) (noDiv n k (d + 2 ^ k)) false
theorem noDiv_all (n : Nat) : ∀ k d, noDiv n k d = true → ∀ i, d ≤ i → i < d + 2 ^ k → i * i ≤ n → n % i ≠ 0
  | 0, d, h, i, h1, h2, h3 => by
    obtain rfl : i = d := by simp at h2; omega
    unfold noDiv at h
    rw [Nat.ble_eq_true_of_le h3, cond_true] at h
    intro h0
    rw [h0] at h
    simp at h
  | k + 1, d, h, i, h1, h2, h3 => by
    unfold noDiv at h
    cases hn : noDiv n k d with
    | false => rw [hn] at h; simp at h
    | true =>
      rw [hn, cond_true] at h
      rcases Nat.lt_or_ge i (d + 2 ^ k) with h4 | h4
      · exact noDiv_all n k d hn i h1 h4 h3
      · exact noDiv_all n k _ h i h4 (by rw [Nat.pow_succ] at h2; omega) h3
theorem prime_trial {n k : Nat} (h2 : 2 ≤ n) (hk : n < 2 ^ k * 2 ^ k) (h : noDiv n k 2 = true) : IsPrime n := by
  have key : ∀ m, 2 ≤ m → m * m ≤ n → ¬ m ∣ n := fun m hm1 hm2 hd => by
    have hlt : m < 2 ^ k := by
      rcases Nat.lt_or_ge m (2 ^ k) with h1 | h1
      · exact h1
      · have := Nat.mul_le_mul h1 h1; omega
    exact noDiv_all n k 2 h m hm1 (by omega) hm2 (Nat.mod_eq_zero_of_dvd hd)
  refine ⟨h2, fun d hd => ?_⟩
  apply Classical.byContradiction
  intro hc
  have h1 : d ≠ 1 := fun e => hc (.inl e)
  have hn : d ≠ n := fun e => hc (.inr e)
  obtain ⟨e, he⟩ := hd
  have hd0 : d ≠ 0 := by rintro rfl; rw [Nat.zero_mul] at he; omega
  have he0 : e ≠ 0 := by rintro rfl; rw [Nat.mul_zero] at he; omega
  have he1 : e ≠ 1 := by rintro rfl; rw [Nat.mul_one] at he; exact hn he.symm
  rcases Nat.le_total d e with hle | hle
  · exact key d (by omega) (by rw [he]; exact Nat.mul_le_mul_left _ hle) ⟨e, he⟩
  · exact key e (by omega) (by rw [he]; exact Nat.mul_le_mul_right _ hle) ⟨d, by rw [he, Nat.mul_comm]⟩
theorem pr_699053 : IsPrime 699053 := prime_trial (k := 10) (by decide) (by decide) (by decide +kernel)
theorem pr_649657 : IsPrime 649657 := prime_trial (k := 10) (by decide) (by decide) (by decide +kernel)
theorem pr_5419 : IsPrime 5419 := prime_trial (k := 7) (by decide) (by decide) (by decide +kernel)
theorem pr_2113 : IsPrime 2113 := prime_trial (k := 6) (by decide) (by decide) (by decide +kernel)
theorem pr_683 : IsPrime 683 := prime_trial (k := 5) (by decide) (by decide) (by decide +kernel)
theorem pr_20394401 : IsPrime 20394401 := prime_trial (k := 13) (by decide) (by decide) (by decide +kernel)
theorem pr_67254877 : IsPrime 67254877 := prime_trial (k := 14) (by decide) (by decide) (by decide +kernel)
theorem pr_2931542417 : IsPrime 2931542417 := prime_trial (k := 16) (by decide) (by decide) (by decide +kernel)
theorem pock1 {n q k f a : Nat} (hn : 1 < n) (hq : IsPrime q) (hk : q * k = n - 1) (hf : n ≤ 2 ^ f) (h1 : pwm n f a (n - 1) = 1) (h2 : Nat.gcd (pwm n f a k + n - 1) n = 1) {p : Nat} (hp : IsPrime p) (hpn : p ∣ n) : q ∣ p - 1 := by
  have hkl : k < 2 ^ f := by
    have := hq.1
    have : k ≤ q * k := Nat.le_mul_of_pos_left _ (by omega)
    omega
  rw [pwm_eq n f a _ (by omega)] at h1
  rw [pwm_eq n f a _ hkl] at h2
  exact pock_step hq hk h1 h2 hp hpn hn
theorem lt_of_dvd_pred {q p : Nat} (hp : 2 ≤ p) (h : q ∣ p - 1) : q + 1 ≤ p := by
  have := Nat.le_of_dvd (by omega) h; omega
theorem IsPrime.mul_dvd {q r n : Nat} (hq : IsPrime q) (hr : ¬ q ∣ r) (h1 : q ∣ n) (h2 : r ∣ n) : q * r ∣ n := by
  obtain ⟨t, rfl⟩ := h2
  rcases hq.dvd_mul h1 with h | h
  · exact absurd h hr
  · obtain ⟨s, rfl⟩ := h
    exact ⟨s, by rw [← Nat.mul_assoc, Nat.mul_comm r q]⟩
theorem pr_77158673929 : IsPrime 77158673929 := prime_of_big (B := 699054) (by decide) (by decide) fun p hp hpn =>
  lt_of_dvd_pred hp.1 (pock1 (n := 77158673929) (q := 699053) (k := 110376) (f := 37) (a := 3) (by decide) pr_699053 (by decide) (by decide) (by decide +kernel) (by decide +kernel) hp hpn)
theorem pr_28059810762433 : IsPrime 28059810762433 := prime_of_big (B := 67254878) (by decide) (by decide) fun p hp hpn =>
  lt_of_dvd_pred hp.1 (pock1 (n := 28059810762433) (q := 67254877) (k := 417216) (f := 45) (a := 3) (by decide) pr_67254877 (by decide) (by decide) (by decide +kernel) (by decide +kernel) hp hpn)
def M127 : Nat := 170141183460469231731687303715884105727
def M107 : Nat := 162259276829213363391578010288127
def M89 : Nat := 618970019642690137449562111
theorem pr_M127 : IsPrime M127 := prime_of_big (B := 77158673929 * 649657 * 5419 + 1) (by decide) (by decide) fun p hp hpn => by
  have d1 := pock1 (n := M127) (q := 77158673929) (k := 2205081746441495815869431694) (f := 127) (a := 3) (by decide) pr_77158673929 (by decide) (by decide) (by decide +kernel) (by decide +kernel) hp hpn
  have d2 := pock1 (n := M127) (q := 649657) (k := 261893866240907481535159790036718) (f := 127) (a := 3) (by decide) pr_649657 (by decide) (by decide) (by decide +kernel) (by decide +kernel) hp hpn
  have d3 := pock1 (n := M127) (q := 5419) (k := 31397155095122574595255084649544954) (f := 127) (a := 3) (by decide) pr_5419 (by decide) (by decide) (by decide +kernel) (by decide +kernel) hp hpn
  have e1 := pr_77158673929.mul_dvd (r := 649657) (by decide) d1 d2
  have e2 := pr_5419.mul_dvd (r := 77158673929 * 649657) (by decide) d3 e1
  exact lt_of_dvd_pred hp.1 (by rw [Nat.mul_comm]; exact e2)
theorem pr_M107 : IsPrime M107 := prime_of_big (B := 28059810762433 * 20394401 + 1) (by decide) (by decide) fun p hp hpn => by
  have d1 := pock1 (n := M107) (q := 28059810762433) (k := 5782621921543716222) (f := 107) (a := 3) (by decide) pr_28059810762433 (by decide) (by decide) (by decide +kernel) (by decide +kernel) hp hpn
  have d2 := pock1 (n := M107) (q := 20394401) (k := 7956069748222238220753726) (f := 107) (a := 3) (by decide) pr_20394401 (by decide) (by decide) (by decide +kernel) (by decide +kernel) hp hpn
  exact lt_of_dvd_pred hp.1 (pr_28059810762433.mul_dvd (r := 20394401) (by decide) d1 d2)
theorem pr_M89 : IsPrime M89 := prime_of_big (B := 2931542417 * 2113 * 683 + 1) (by decide) (by decide) fun p hp hpn => by
  have d1 := pock1 (n := M89) (q := 2931542417) (k := 211141416905068830) (f := 89) (a := 3) (by decide) pr_2931542417 (by decide) (by decide) (by decide +kernel) (by decide +kernel) hp hpn
  have d2 := pock1 (n := M89) (q := 2113) (k := 292934226049545734713470) (f := 89) (a := 3) (by decide) pr_2113 (by decide) (by decide) (by decide +kernel) (by decide +kernel) hp hpn
  have d3 := pock1 (n := M89) (q := 683) (k := 906251858920483363762170) (f := 89) (a := 3) (by decide) pr_683 (by decide) (by decide) (by decide +kernel) (by decide +kernel) hp hpn
  have e1 := pr_2931542417.mul_dvd (r := 2113) (by decide) d1 d2
  have e2 := pr_683.mul_dvd (r := 2931542417 * 2113) (by decide) d3 e1
  exact lt_of_dvd_pred hp.1 (by rw [Nat.mul_comm]; exact e2)
theorem rsa {p q e d : Nat} (hp : IsPrime p) (hq : IsPrime q) (hne : p ≠ q) (hed : e * d % ((p - 1) * (q - 1)) = 1) (x : Nat) : x ^ (e * d) % (p * q) = x % (p * q) := by
  have hp2 := hp.1
  have hq2 := hq.1
  have key : ∀ r s, IsPrime r → e * d = (r - 1) * s + 1 → x ^ (e * d) % r = x % r := fun r s hr hs => by
    have hr2 := hr.1
    rw [hs]
    by_cases hx : r ∣ x
    · rw [Nat.pow_succ, Nat.mod_eq_zero_of_dvd (Nat.dvd_mul_left_of_dvd hx _), Nat.mod_eq_zero_of_dvd hx]
    · have h1 : x ^ ((r - 1) * s) % r = 1 := by
        rw [Nat.pow_mul, Nat.pow_mod, hr.fermat1 hx, Nat.one_pow]; exact Nat.mod_eq_of_lt (by omega)
      rw [Nat.pow_succ, Nat.mul_mod, h1, Nat.one_mul, Nat.mod_mod]
  have hde := Nat.div_add_mod (e * d) ((p - 1) * (q - 1))
  rw [hed] at hde
  have k1 := key p ((q - 1) * (e * d / ((p - 1) * (q - 1)))) hp (by rw [← Nat.mul_assoc]; exact hde.symm)
  have k2 := key q ((p - 1) * (e * d / ((p - 1) * (q - 1)))) hq (by rw [← Nat.mul_assoc, Nat.mul_comm (q - 1)]; exact hde.symm)
  -- both parts, then the product
  have hle : x ≤ x ^ (e * d) ∨ x ^ (e * d) ≤ x := Nat.le_total _ _
  have comb : ∀ a b, b ≤ a → a % p = b % p → a % q = b % q → a % (p * q) = b % (p * q) := fun a b hba h1 h2 => by
    have d1 := dvd_of_mod_eq h1 hba
    have d2 := dvd_of_mod_eq h2 hba
    have hpq : ¬ p ∣ q := fun hd => by rcases hq.2 p hd with h | h <;> omega
    have d3 : p * q ∣ a - b := hp.mul_dvd hpq d1 d2
    obtain ⟨t, ht⟩ := d3
    have : a = b + p * q * t := by omega
    rw [this, Nat.add_mul_mod_self_left]
  rcases hle with h | h
  · exact comb _ _ h k1 k2
  · exact (comb _ _ h k1.symm k2.symm).symm
end Go.Proofs.Ytdmglajfmfjmlaa
namespace Go.Proofs.Ytdmglajfmfjmlaa
set_option linter.unusedSimpArgs false
set_option linter.unusedVariables false
set_option maxRecDepth 100000
open Go.RowKit Go.Proofs.YtdmglajfmfjmlaaW.PrintWords Go.Proofs.YtdmglajfmfjmlaaW.PrintLast Go.Proofs.YtdmglajfmfjmlaaW.PrintMore
section
variable {a b c : Nat}
theorem ck_bits (h : ln a ≤ 262144) : Ck.nat_Bits.f (ofN a) = some ((blen a : Nat) : Int) := by unfold Ck.nat_Bits.f; rw [if_pos (okN_ofN h), nI_ofN]
theorem ck_cmp (h : ln a ≤ 262144) (h' : ln b ≤ 262144) : Ck.nat_Cmp.f (ofN a) (ofN b) = some (cmpN a b) := by unfold Ck.nat_Cmp.f; rw [if_pos ⟨okN_ofN h, okN_ofN h'⟩, nI_ofN, nI_ofN]
theorem ck_bit0 (h : ln a ≤ 262144) : Ck.nat_Bit.f (ofN a) 0 = some ((a % 2 : Nat) : Int) := by
  unfold Ck.nat_Bit.f; rw [if_pos ⟨okN_ofN h, by omega⟩, if_neg (by omega), nI_ofN, Int.toNat_zero, Nat.pow_zero, Nat.div_one]
theorem ck_of (h : a < 18446744073709551616) : Ck.nat_Of.f (a : Int) = some (ofN a) := by unfold Ck.nat_Of.f; rw [if_pos ⟨by omega, by omega⟩, Int.toNat_natCast]
theorem ck_sub1 (h : ln a ≤ 262144) (h1 : 1 ≤ a) : Ck.pkey_less.f (ofN a) = some (ofN (a - 1)) := by
  unfold Ck.pkey_less.f
  rw [show Ck.nat_Of.f 1 = some (ofN 1) from ck_of (a := 1) (by omega), Option.bind_some]
  unfold Ck.nat_Sub.f
  rw [if_pos ⟨okN_ofN h, okN_ofN (Nat.le_trans (ln_small (by omega)) (by omega))⟩, Option.bind_some, nI_ofN, nI_ofN]
theorem ck_mul (h : ln a ≤ 262144) (h' : ln b ≤ 262144) : Ck.nat_Mul.f (ofN a) (ofN b) = some (ofN (a * b)) := by unfold Ck.nat_Mul.f; rw [if_pos ⟨okN_ofN h, okN_ofN h'⟩, nI_ofN, nI_ofN]
theorem ck_inverse (h : ln a ≤ 65536) (h' : ln b ≤ 65536) : Ck.modn_Inverse.f (ofN a) (ofN b) = some (invR a b) := by unfold Ck.modn_Inverse.f; rw [if_pos ⟨okN_ofN h, okN_ofN h'⟩, nI_ofN, nI_ofN]
theorem ck_shift (h : ln a ≤ 262144) (i : Int) : Ck.nat_Shift.f (ofN a) i = some (ofN (shiftN a i)) := by unfold Ck.nat_Shift.f; rw [if_pos (okN_ofN h), nI_ofN]
end
theorem cmpN_ne {a b : Nat} (h : a ≠ b) : cmpN a b ≠ 0 := by unfold cmpN; split <;> (try split) <;> omega
theorem ln_512 {a : Nat} (h : a < 2 ^ 512) : ln a ≤ 8 := ln_le.2 (by have : (18446744073709551616 : Nat) ^ 8 = 2 ^ 512 := by decide +kernel
                                                                     omega)
theorem ck_may {p : Nat} (hp : IsPrime p) (hl : p < 2 ^ 512) : Ck.pkey_may.f (ofN p) = some true := by
  have h1 := ln_512 hl
  unfold Ck.pkey_may.f Ck.pkey_bases.f
  rw [ck_bits (by omega), Option.bind_some, if_pos (by have := (blen_le (n := p) (k := 512)).2 hl; omega), Option.bind_some]
  unfold Ck.modn_Prime.f
  rw [if_pos ⟨okN_ofN (by omega), by decide⟩, Option.bind_some, nI_ofN]
  have h2 := hp.1
  unfold primeN
  rw [if_neg (by omega)]
  congr 1
  rw [List.all_eq_true]
  intro b _
  rw [tells_prime hp b]
  rfl
theorem ln_of_blen {n k : Nat} (h : blen n ≤ 64 * k) : ln n ≤ k := ln_le.2 (by
  rw [show (18446744073709551616 : Nat) = 2 ^ 64 by decide, ← Nat.pow_mul]; exact blen_le.1 h)
theorem ck_right {n e d : Nat} (h1 : 2 ^ 15 ≤ n) (h2 : blen n ≤ 1024) (h3 : n % 2 = 1) (h4 : e % 2 = 1) (h5 : 3 ≤ e) (h6 : e < n) (h7 : d < n) : Ck.pkey_Right.f (ofN n) (ofN e) (ofN d) = some 0 := by
  have hl : ln n ≤ 16 := ln_of_blen (k := 16) (by omega)
  have hle : ln e ≤ 16 := Nat.le_trans (ln_mono (Nat.le_of_lt h6)) hl
  have hld : ln d ≤ 16 := Nat.le_trans (ln_mono (Nat.le_of_lt h7)) hl
  have b1 : 16 ≤ blen n := by
    rcases Nat.lt_or_ge (blen n) 16 with h | h
    · have := (blen_le (n := n) (k := 15)).1 (by omega); omega
    · exact h
  have b2 : blen n ≤ 1024 := h2
  have b3 : 2 ≤ blen e := by
    rcases Nat.lt_or_ge (blen e) 2 with h | h
    · have := (blen_le (n := e) (k := 1)).1 (by omega); omega
    · exact h
  unfold Ck.pkey_Right.f
  rw [ck_bits (by omega), Option.bind_some, if_neg (by omega), if_neg (by omega), ck_bit0 (by omega), Option.bind_some, h3, if_neg (by decide), ck_bit0 (by omega), Option.bind_some, h4, if_neg (by decide), ck_bits (by omega), Option.bind_some, if_neg (by omega),
    ck_cmp (by omega) (by omega), Option.bind_some, cmpN_lt h6, if_neg (by decide), ck_cmp (by omega) (by omega), Option.bind_some, cmpN_lt h7, if_neg (by decide)]
theorem make_two {p q e D : Nat} (hp : IsPrime p) (hq : IsPrime q) (hne : p ≠ q) (hpl : p < 2 ^ 512) (hql : q < 2 ^ 512) (he : e % 2 = 1) (he3 : 3 ≤ e) (he64 : e < 18446744073709551616) (hD : D < (p - 1) * (q - 1)) (hed : e * D % ((p - 1) * (q - 1)) = 1)
    (h16 : 2 ^ 15 ≤ p * q) (hodd : p * q % 2 = 1) (heN : e < p * q) (hphi : 1 < (p - 1) * (q - 1)) (hpq : (p - 1) * (q - 1) < p * q) (k : Nat) (hk : 1 ≤ k) : Ck.pkey_Make.f k (ofN p) (ofN q) (e : Int) = some (ofN (p * q), ofN e, ofN D, 0) := by
  obtain ⟨k, rfl⟩ : ∃ m, k = m + 1 := ⟨k - 1, by omega⟩
  have lp := ln_512 hpl
  have lq := ln_512 hql
  have le1 := ln_small he64
  have p2 := hp.1
  have q2 := hq.1
  have lp1 : ln (p - 1) ≤ 8 := Nat.le_trans (ln_mono (by omega)) lp
  have lq1 : ln (q - 1) ≤ 8 := Nat.le_trans (ln_mono (by omega)) lq
  have lphi : ln ((p - 1) * (q - 1)) ≤ 16 := lnm lp1 lq1 (by omega)
  have hg : Nat.gcd e ((p - 1) * (q - 1)) = 1 := by
    have d1 := Nat.gcd_dvd_left e ((p - 1) * (q - 1))
    have d2 := Nat.gcd_dvd_right e ((p - 1) * (q - 1))
    have d3 : Nat.gcd e ((p - 1) * (q - 1)) ∣ 1 := by
      have h1 := Nat.dvd_mul_right_of_dvd d1 D
      have := (Nat.dvd_mod_iff (k := Nat.gcd e ((p - 1) * (q - 1))) d2).2 h1
      rwa [hed] at this
    exact Nat.dvd_one.1 d3
  have hinv : invN e ((p - 1) * (q - 1)) = D := invN_eq hD (by rw [hed, Nat.mod_eq_of_lt hphi])
  have hlN : blen (p * q) ≤ 1024 := by
    have h2 : ∀ a : Nat, p < 2 ^ a → q < 2 ^ a → blen (p * q) ≤ a + a := fun a h1 h2 => blen_le.2 (by rw [Nat.pow_add]; exact Nat.mul_lt_mul'' h1 h2)
    have := h2 512 hpl hql
    omega
  unfold Ck.pkey_Make.f
  rw [ck_may hp hpl, Option.bind_some, if_pos rfl, ck_may hq hql, Option.bind_some, if_pos rfl, ck_cmp (by omega) (by omega), Option.bind_some, if_neg (cmpN_ne hne)]
  have hb : Go.bits .and .u64 (e : Int) 1 = 1 := by
    rw [show (1 : Int) = ((1 : Nat) : Int) from rfl, and_u64 he64 (by omega), Nat.and_one_is_mod, he]
  rw [hb, if_neg (by decide), decide_eq_false (show ¬ ((e : Int) < 3) by omega)]
  simp only [Ck.pkey_Make.j0, Bool.false_eq_true, if_false]
  rw [ck_sub1 (by omega) (by omega), Option.bind_some, ck_sub1 (by omega) (by omega), Option.bind_some, ck_mul (by omega) (by omega), Option.bind_some, ck_of he64, Option.bind_some, ck_inverse (by omega) (by omega), Option.bind_some,
    invR_pos (by omega) hg, hinv]
  simp only [if_true]
  rw [ck_mul (by omega) (by omega), Option.bind_some, Option.bind_some, ck_right h16 hlN hodd he he3 heN (by omega), Option.bind_some, if_pos rfl]
end Go.Proofs.Ytdmglajfmfjmlaa
namespace Go.Proofs.Ytdmglajfmfjmlaa
set_option linter.unusedSimpArgs false
set_option linter.unusedVariables false
set_option maxRecDepth 100000
open Go.RowKit Go.Proofs.YtdmglajfmfjmlaaW.PrintWords Go.Proofs.YtdmglajfmfjmlaaW.PrintLast Go.Proofs.YtdmglajfmfjmlaaW.PrintMore
def N1 : Nat := 27606985387162255149739023449107931668458716142620601169954803000803329
def D1 : Nat := 15148310137902892372854494747293348982658810495089518801664574316425701
def N2 : Nat := 105312291668557186697918027513529248857806893649219117400977309697
def D2 : Nat := 52724439659078533542050878056119532687363428290303798353933435053
def knownR (a : Int) : List Int × List Int × List Int × Int := if Go.bits .and .i64 a 1 = 0 then (ofN N1, ofN 65537, ofN D1, 0) else (ofN N2, ofN 65537, ofN D2, 0)
theorem mk_a (k : Nat) (hk : 1 ≤ k) : Ck.pkey_Make.f k (ofN M127) (ofN M107) 65537 = some (ofN N1, ofN 65537, ofN D1, 0) :=
  make_two (e := 65537) (D := D1) pr_M127 pr_M107 (by decide) (by decide +kernel) (by decide +kernel) (by decide) (by decide) (by decide) (by decide +kernel) (by decide +kernel) (by decide +kernel) (by decide +kernel) (by decide +kernel) (by decide +kernel) (by decide +kernel) k hk
theorem mk_b (k : Nat) (hk : 1 ≤ k) : Ck.pkey_Make.f k (ofN M127) (ofN M89) 65537 = some (ofN N2, ofN 65537, ofN D2, 0) :=
  make_two (e := 65537) (D := D2) pr_M127 pr_M89 (by decide) (by decide +kernel) (by decide +kernel) (by decide) (by decide) (by decide) (by decide +kernel) (by decide +kernel) (by decide +kernel) (by decide +kernel) (by decide +kernel) (by decide +kernel) (by decide +kernel) k hk
theorem mk_c (k : Nat) (hk : 1 ≤ k) : Ck.pkey_Make.f k (ofN M89) (ofN M127) 65537 = some (ofN N2, ofN 65537, ofN D2, 0) :=
  make_two (e := 65537) (D := D2) pr_M89 pr_M127 (by decide) (by decide +kernel) (by decide +kernel) (by decide) (by decide) (by decide) (by decide +kernel) (by decide +kernel) (by decide +kernel) (by decide +kernel) (by decide +kernel) (by decide +kernel) (by decide +kernel) k hk
theorem ck_sub {a b : Nat} (h : ln a ≤ 262144) (h' : ln b ≤ 262144) : Ck.nat_Sub.f (ofN a) (ofN b) = some (ofN (a - b), (if a < b then 10 else 0 : Int)) := by unfold Ck.nat_Sub.f; rw [if_pos ⟨okN_ofN h, okN_ofN h'⟩, nI_ofN, nI_ofN]
theorem ln_4 {a : Nat} (h : a < 18446744073709551616 * 18446744073709551616) : ln a ≤ 2 := ln_le.2 (by rw [Nat.pow_two]; exact h)
theorem mers (e n : Nat) (h : shiftN 1 (e : Int) = n + 1) (hn : n + 1 < 18446744073709551616 * 18446744073709551616) : (Ck.nat_Of.f 1).bind (fun t => (Ck.nat_Shift.f t (e : Int)).bind fun u => (Ck.nat_Of.f 1).bind fun v => Ck.nat_Sub.f u v) = some (ofN n, 0) := by
  have l1 : ln 1 ≤ 1 := ln_small (by omega)
  have l2 := ln_4 hn
  have o1 : Ck.nat_Of.f 1 = some (ofN 1) := ck_of (a := 1) (by omega)
  rw [o1, Option.bind_some, ck_shift (by omega), Option.bind_some, Option.bind_some, h, ck_sub (by omega) (by omega), Nat.add_sub_cancel, if_neg (by omega)]
theorem top_mers (e n : Nat) (h : shiftN 1 (e : Int) = n + 1) (hn : n + 1 < 18446744073709551616 * 18446744073709551616) : Ck.clepsydratop_mersenne.f (e : Int) = some (ofN n) := by
  have l1 : ln 1 ≤ 1 := ln_small (by omega)
  have l2 := ln_4 hn
  have o1 : Ck.nat_Of.f 1 = some (ofN 1) := ck_of (a := 1) (by omega)
  unfold Ck.clepsydratop_mersenne.f
  rw [o1, Option.bind_some, ck_shift (by omega), Option.bind_some, Option.bind_some, h, ck_sub (by omega) (by omega), Nat.add_sub_cancel, if_neg (by omega), Option.bind_some]
theorem law_mers (e n : Nat) (h : shiftN 1 (e : Int) = n + 1) (hn : n + 1 < 18446744073709551616 * 18446744073709551616) : Ck.clepsydralaw05_mersenne.f (e : Int) = some (ofN n) := by
  have l1 : ln 1 ≤ 1 := ln_small (by omega)
  have l2 := ln_4 hn
  have o1 : Ck.nat_Of.f 1 = some (ofN 1) := ck_of (a := 1) (by omega)
  unfold Ck.clepsydralaw05_mersenne.f
  rw [o1, Option.bind_some, ck_shift (by omega), Option.bind_some, Option.bind_some, h, ck_sub (by omega) (by omega), Nat.add_sub_cancel, if_neg (by omega), Option.bind_some]
theorem sh127 : shiftN 1 127 = M127 + 1 := by decide +kernel
theorem sh107 : shiftN 1 107 = M107 + 1 := by decide +kernel
theorem sh89 : shiftN 1 89 = M89 + 1 := by decide +kernel
theorem known_top (a : Int) : Ck.clepsydratop_known.f 1 a = some (knownR a) := by
  unfold Ck.clepsydratop_known.f knownR
  have e1 : Ck.clepsydratop_mersenne.f 127 = some (ofN M127) := top_mers 127 M127 sh127 (by decide +kernel)
  have e2 : Ck.clepsydratop_mersenne.f 107 = some (ofN M107) := top_mers 107 M107 sh107 (by decide +kernel)
  have e3 : Ck.clepsydratop_mersenne.f 89 = some (ofN M89) := top_mers 89 M89 sh89 (by decide +kernel)
  split
  · rw [e1, Option.bind_some, e2, Option.bind_some, mk_a 1 (Nat.le_refl _), Option.bind_some]
  · rw [e1, Option.bind_some, e3, Option.bind_some, mk_b 1 (Nat.le_refl _), Option.bind_some]
theorem known_law (a : Int) : Ck.clepsydralaw05_known.f 1 a = some (knownR a) := by
  unfold Ck.clepsydralaw05_known.f knownR
  have e1 : Ck.clepsydralaw05_mersenne.f 127 = some (ofN M127) := law_mers 127 M127 sh127 (by decide +kernel)
  have e2 : Ck.clepsydralaw05_mersenne.f 107 = some (ofN M107) := law_mers 107 M107 sh107 (by decide +kernel)
  have e3 : Ck.clepsydralaw05_mersenne.f 89 = some (ofN M89) := law_mers 89 M89 sh89 (by decide +kernel)
  split
  · rw [e1, Option.bind_some, e2, Option.bind_some, mk_a 1 (Nat.le_refl _), Option.bind_some]
  · rw [e3, Option.bind_some, e1, Option.bind_some, mk_c 1 (Nat.le_refl _), Option.bind_some]
end Go.Proofs.Ytdmglajfmfjmlaa
namespace Go.Proofs.Ytdmglajfmfjmlaa
set_option linter.unusedSimpArgs false
set_option linter.unusedVariables false
set_option maxRecDepth 100000
open Go.RowKit Go.Proofs.YtdmglajfmfjmlaaW.PrintWords Go.Proofs.YtdmglajfmfjmlaaW.PrintLast Go.Proofs.YtdmglajfmfjmlaaW.PrintMore
def szN (n : Nat) : Nat := (blen n + 7) / 8
def keyR (n e d : Nat) : Int := if 16 ≤ blen n ∧ blen n ≤ 1024 ∧ n % 2 = 1 ∧ e % 2 = 1 ∧ 2 ≤ blen e ∧ e < n ∧ d < n then 0 else 50
theorem keyR_or (n e d : Nat) : keyR n e d = 0 ∨ keyR n e d = 50 := by unfold keyR; split <;> simp
theorem keyR_zero {n e d : Nat} (h : keyR n e d = 0) : 16 ≤ blen n ∧ blen n ≤ 1024 ∧ n % 2 = 1 ∧ e % 2 = 1 ∧ 2 ≤ blen e ∧ e < n ∧ d < n := by
  unfold keyR at h
  split at h
  · assumption
  · cases h
theorem blen_lt (n : Nat) : n < 2 ^ blen n := blen_le.1 (Nat.le_refl _)
theorem szN_fit (n : Nat) : n < 256 ^ szN n := by
  have h1 := blen_lt n
  rw [show (256 : Nat) = 2 ^ 8 by decide, ← Nat.pow_mul]
  exact Nat.lt_of_lt_of_le h1 (Nat.pow_le_pow_right (by decide) (by unfold szN; omega))
theorem blen_mono {a b : Nat} (h : a ≤ b) : blen a ≤ blen b := blen_le.2 (Nat.lt_of_le_of_lt h (blen_lt b))
def workR (n x : Nat) (b : List Int) : List Int := beB (powM (beV b) x n) (szN n)
def sgnR (s : Nat) (t : List Int) : List Int := NI (sgnN s (toN t))
def signR (n e d : Nat) (t : List Int) : List Int × Int := if keyR n e d = 0 ∧ d ≠ 0 then (if szN n < 27 then ([], 51) else (workR n d (sgnR (szN n) t), 0)) else ([], 50)
def fitsR (n : Nat) (s : List Int) : Bool := decide (s.length = szN n) && decide (beV s < n)
theorem ln_beV {l : List Int} (h : okB l) {m : Nat} (hl : l.length ≤ 8 * m) : ln (beV l) ≤ m := ln_le.2 (by
  rw [show (18446744073709551616 : Nat) = 256 ^ 8 by decide, ← Nat.pow_mul]
  exact Nat.lt_of_lt_of_le (beV_lt h) (Nat.pow_le_pow_right (by decide) hl))
section
variable {a b c n e d t s : List Int}
theorem ckl_bits (h : okN 262144 a) : Ck.nat_Bits.f a = some ((blen (nI a) : Nat) : Int) := if_pos h
theorem ckl_cmp (h : okN 262144 a) (h' : okN 262144 b) : Ck.nat_Cmp.f a b = some (cmpN (nI a) (nI b)) := if_pos ⟨h, h'⟩
theorem ckl_bit0 (h : okN 262144 a) : Ck.nat_Bit.f a 0 = some ((nI a % 2 : Nat) : Int) := by
  unfold Ck.nat_Bit.f; rw [if_pos ⟨h, by omega⟩, if_neg (by omega), Int.toNat_zero, Nat.pow_zero, Nat.div_one]
theorem cp_bits (h : okN 262144 a) : Cp.nat_Bits.f a = some ((blen (nI a) : Nat) : Int) := if_pos h
theorem cp_cmp (h : okN 262144 a) (h' : okN 262144 b) : Cp.nat_Cmp.f a b = some (cmpN (nI a) (nI b)) := if_pos ⟨h, h'⟩
theorem cp_pow (h : okN 4096 a) (h' : okN 4096 b) (h'' : okN 1024 c) : Cp.modn_Pow.f a b c = some (powR (nI a) (nI b) (nI c)) := if_pos ⟨h, h', h''⟩
theorem wr_sz {x : Nat} (h : x ≤ 1000000) : wrap64 (Int.tdiv (wrap64 ((x : Int) + 7)) 8) = (((x + 7) / 8 : Nat) : Int) := by
  rw [show ((x : Int) + 7) = ((x + 7 : Nat) : Int) by omega, wn (by omega), wnd8 (by omega)]
theorem blen_okN {m : Nat} (h : okN m a) : blen (nI a) ≤ 64 * m := by
  have h1 := ln_le.1 (ln_nI h)
  refine blen_le.2 ?_
  rw [show (18446744073709551616 : Nat) = 2 ^ 64 by decide, ← Nat.pow_mul] at h1
  exact h1
theorem cp_size (h : okN 64 n) : Cp.pkey_Size.f n e d = some ((szN (nI n) : Nat) : Int) := by
  have := blen_okN h
  unfold Cp.pkey_Size.f Ck.pkey_Size.f
  rw [ckl_bits (h.le (by omega)), Option.bind_some, wr_sz (by omega)]
  rfl
theorem cp_right (hn : okN 64 n) (he : okN 64 e) (hd : okN 64 d) : Cp.pkey_Right.f n e d = some (keyR (nI n) (nI e) (nI d)) := by
  have N1 := hn.le (m' := 262144) (by omega)
  have E1 := he.le (m' := 262144) (by omega)
  have D1 := hd.le (m' := 262144) (by omega)
  unfold Cp.pkey_Right.f Ck.pkey_Right.f keyR
  rw [ckl_bits N1, Option.bind_some, ckl_bit0 N1, Option.bind_some, ckl_bit0 E1, Option.bind_some, ckl_bits E1, Option.bind_some, ckl_cmp E1 N1, Option.bind_some, ckl_cmp D1 N1, Option.bind_some]
  by_cases h1 : blen (nI n) < 16
  · rw [if_pos (by omega), if_neg (by omega)]
  rw [if_neg (by omega)]
  by_cases h2 : blen (nI n) > 1024
  · rw [if_pos (by omega), if_neg (by omega)]
  rw [if_neg (by omega)]
  by_cases h3 : nI n % 2 = 0
  · rw [if_pos (by omega), if_neg (by omega)]
  rw [if_neg (by omega)]
  by_cases h4 : nI e % 2 = 0
  · rw [if_pos (by omega), if_neg (by omega)]
  rw [if_neg (by omega)]
  by_cases h5 : blen (nI e) < 2
  · rw [if_pos (by omega), if_neg (by omega)]
  rw [if_neg (by omega)]
  by_cases h6 : nI n ≤ nI e
  · rw [if_pos ((by unfold cmpN; split <;> (try split) <;> omega : cmpN (nI e) (nI n) ≥ 0)), if_neg (by omega)]
  rw [if_neg ((by unfold cmpN; rw [if_pos (by omega)]; decide : ¬ cmpN (nI e) (nI n) ≥ 0))]
  by_cases h7 : nI n ≤ nI d
  · rw [if_pos ((by unfold cmpN; split <;> (try split) <;> omega : cmpN (nI d) (nI n) ≥ 0)), if_neg (by omega)]
  rw [if_neg ((by unfold cmpN; rw [if_pos (by omega)]; decide : ¬ cmpN (nI d) (nI n) ≥ 0)), if_pos (by omega)]
theorem cp_work (hn : okN 64 n) (hx : okN 64 d) (hb : okB b) (hl : b.length ≤ 32768) (h0 : nI n ≠ 0) : Cp.pkey_work.f n e c b d = some (workR (nI n) (nI d) b) := by
  have l1 := blen_okN hn
  have lv : ln (beV b) ≤ 4096 := ln_beV hb (by omega)
  have hlt : powM (beV b) (nI d) (nI n) < nI n := powM_lt (by omega)
  have hbl := blen_mono (Nat.le_of_lt hlt)
  unfold Cp.pkey_work.f
  rw [show Cp.nat_Read.f b = some (ofN (beV b)) from if_pos ⟨hb, by omega⟩, Option.bind_some, cp_pow (okN_ofN lv) (hx.le (by omega)) (hn.le (by omega)), Option.bind_some, nI_ofN, powR_pos h0, cp_size hn, Option.bind_some]
  have hw : Cp.nat_Write.f (ofN (powM (beV b) (nI d) (nI n))) ((szN (nI n) : Nat) : Int) = some (workR (nI n) (nI d) b, 0) := by
    unfold Cp.nat_Write.f
    rw [if_pos (okN_ofN (Nat.le_trans (ln_mono (Nat.le_of_lt hlt)) (Nat.le_trans (ln_nI hn) (by omega)))), nI_ofN]
    unfold writeR
    have hz : szN (nI n) ≤ 512 := by unfold szN; omega
    have hz2 : blen (nI n) ≤ 8 * szN (nI n) := by unfold szN; omega
    rw [if_neg (by omega), if_neg (by omega), Int.toNat_natCast]
    rfl
  simp only [hw, Option.bind_some]
theorem szN_bounds {n : Nat} (h : blen n ≤ 1024) : szN n ≤ 128 := by unfold szN; omega
theorem okB_NI {l : List Nat} (h : B8 l) : okB (NI l) := by
  intro x hx
  simp only [NI, List.mem_map] at hx
  obtain ⟨y, hy, rfl⟩ := hx
  have := h y hy
  omega
theorem NI_length (l : List Nat) : (NI l).length = l.length := by simp [NI]
theorem sgn_form (s : Nat) (hs : 19 ≤ s) (t : List Int) : sgnR s t = 0 :: 1 :: (List.replicate (s - 19) 255 ++ 0 :: truncL t 16) := by
  obtain ⟨u, rfl⟩ : ∃ u, s = u + 19 := ⟨s - 19, by omega⟩
  have hl : ((shaN (toN t)).take 16).length = 16 := by rw [List.length_take, shaN_length]; rfl
  have e : sgnN (u + 19) (toN t) = 0 :: 1 :: (List.replicate u 255 ++ 0 :: (shaN (toN t)).take 16) := by
    unfold sgnN padP padF padZ splice
    generalize (shaN (toN t)).take 16 = D at hl ⊢
    rw [hl, Nat.add_sub_cancel, show u + 19 - 16 = u + 3 by omega, show u + 19 - 2 = u + 17 by omega]
    rw [List.take_of_length_le (l := List.replicate u 255) (by rw [List.length_replicate]; omega), List.length_replicate]
    rw [show List.replicate (u + 19) 0 = 0 :: 0 :: List.replicate (u + 17) 0 from rfl, List.set_cons_succ, List.set_cons_zero]
    rw [show 2 + u = u + 2 by omega]
    simp only [List.take_succ_cons, List.take_zero, List.drop_succ_cons, List.drop_replicate, List.cons_append, List.nil_append]
    rw [show u + 17 - u = 17 by omega, List.take_append, List.length_replicate, List.take_of_length_le (by rw [List.length_replicate]; omega), show u + 1 - u = 1 by omega]
    rw [List.drop_eq_nil_of_le (by simp), show List.take 1 (List.replicate 17 0) = [0] from rfl]
    simp
  unfold sgnR truncL
  rw [e, Nat.add_sub_cancel]
  simp [NI]
theorem truncL_okB (t : List Int) (k : Nat) : okB (truncL t k) := by
  intro x hx
  simp only [truncL, List.mem_map] at hx
  obtain ⟨y, hy, rfl⟩ := hx
  have := shaN_b8 (toN t) y (List.mem_of_mem_take hy)
  omega
theorem truncL_length (t : List Int) {k : Nat} (h : k ≤ 32) : (truncL t k).length = k := by unfold truncL; rw [List.length_map, List.length_take, shaN_length]; omega
theorem sgnR_length (s : Nat) (hs : 19 ≤ s) (t : List Int) : (sgnR s t).length = s := by
  rw [sgn_form s hs]; simp [truncL_length t (show 16 ≤ 32 by omega)]; omega
theorem sgnR_okB (s : Nat) (hs : 19 ≤ s) (t : List Int) : okB (sgnR s t) := by
  rw [sgn_form s hs]
  intro x hx
  simp only [List.mem_cons, List.mem_append, List.mem_replicate] at hx
  rcases hx with rfl | rfl | ⟨-, rfl⟩ | rfl | hx
  · omega
  · omega
  · omega
  · omega
  · exact truncL_okB t 16 x hx
theorem workR_length (n x : Nat) (b : List Int) : (workR n x b).length = szN n := beB_length _ _
theorem workR_okB (n x : Nat) (b : List Int) : okB (workR n x b) := okB_beB _ _
theorem workR_val {n : Nat} (h : 0 < n) (x : Nat) (b : List Int) : beV (workR n x b) = powM (beV b) x n := by
  unfold workR
  rw [beV_beB]
  exact Nat.mod_eq_of_lt (Nat.lt_trans (powM_lt h) (szN_fit n))
theorem sign_pure (hn : okN 64 n) (he : okN 64 e) (hd : okN 64 d) (ht : okB t) (hl : t.length ≤ 2097152) : Cp.pkey_Sign.f 1 n e d t = some (signR (nI n) (nI e) (nI d) t) := by
  have jt : Cp.pkey_Sign.j0 1 t true n e d = some ([], 50) := rfl
  unfold Cp.pkey_Sign.f signR
  rw [cp_right hn he hd, Option.bind_some]
  rcases keyR_or (nI n) (nI e) (nI d) with h0 | h0
  · have hz := keyR_zero h0
    have hz2 := szN_bounds hz.2.1
    have hn0 : nI n ≠ 0 := by omega
    rw [h0, if_pos rfl, cp_bits (hd.le (by omega)), Option.bind_some]
    by_cases hd0 : nI d = 0
    · rw [hd0, blen_zero, if_neg (by simp)]; exact jt
    · have hb : (((blen (nI d) : Nat) : Int) == 0) = false := by
        rw [blen_pos hd0]; simp; omega
      rw [hb, if_pos ⟨rfl, hd0⟩]
      simp only [Cp.pkey_Sign.j0, Bool.false_eq_true, if_false]
      rw [cp_size hn, Option.bind_some]
      by_cases h27 : szN (nI n) < 27
      · rw [if_pos (by omega), if_pos h27]
      · rw [if_neg (by omega), if_neg h27, Option.bind_some]
        unfold Cp.pkey_signed.f
        rw [if_pos ⟨ht, by omega, by omega, hl⟩, Option.bind_some, Int.toNat_natCast]
        rw [show NI (sgnN (szN (nI n)) (toN t)) = sgnR (szN (nI n)) t from rfl, cp_work hn hd (sgnR_okB _ (by omega) _) (by rw [sgnR_length _ (by omega)]; omega) hn0, Option.bind_some]
  · rw [h0, if_neg (by decide), if_neg (by omega)]; exact jt
theorem fits_pure (hn : okN 64 n) (hs : okB s) (hl : s.length ≤ 2097152) (h8 : blen (nI n) ≤ 1024) : Cp.pkey_fits.f n e d s = some (fitsR (nI n) s) := by
  have hz2 := szN_bounds h8
  unfold Cp.pkey_fits.f fitsR
  rw [cp_size hn, Option.bind_some]
  by_cases h : s.length = szN (nI n)
  · rw [if_pos (by omega), show Cp.nat_Read.f s = some (ofN (beV s)) from if_pos ⟨hs, by omega⟩, Option.bind_some, cp_cmp (okN_ofN (ln_beV hs (by omega))) (hn.le (by omega)), Option.bind_some, nI_ofN, decide_eq_true h, Bool.true_and]
    congr 1
    unfold cmpN
    by_cases hlt : beV s < nI n
    · rw [if_pos hlt, decide_eq_true hlt]; rfl
    · rw [if_neg hlt, decide_eq_false hlt]; split <;> rfl
  · rw [if_neg (by omega), decide_eq_false h, Bool.false_and]
end
end Go.Proofs.Ytdmglajfmfjmlaa
namespace Go.Proofs.Ytdmglajfmfjmlaa
set_option linter.unusedSimpArgs false
set_option linter.unusedVariables false
set_option maxRecDepth 100000
open Go.RowKit Go.Proofs.YtdmglajfmfjmlaaW.PrintWords Go.Proofs.YtdmglajfmfjmlaaW.PrintLast Go.Proofs.YtdmglajfmfjmlaaW.PrintMore
structure KF (N E D : Nat) : Prop where
  undo1 : ∀ r, r < N → powM (powM r D N) E N = r
  undo2 : ∀ r, r < N → powM (powM r E N) D N = r
  key : keyR N E D = 0
  pub : keyR N E 0 = 0
  sz : 27 ≤ szN N
  d0 : D ≠ 0
  lN : ln N ≤ 64
  lE : ln E ≤ 64
  lD : ln D ≤ 64
theorem undo5 {p q N e d : Nat} (hp : IsPrime p) (hq : IsPrime q) (hne : p ≠ q) (hN : N = p * q) (hed : e * d % ((p - 1) * (q - 1)) = 1) {r : Nat} (hr : r < N) : powM (powM r e N) d N = r := by
  subst hN
  unfold powM
  rw [← Nat.pow_mod, ← Nat.pow_mul, rsa hp hq hne hed r, Nat.mod_eq_of_lt hr]
theorem kf1 : KF N1 65537 D1 where
  undo1 := fun r hr => undo5 (e := D1) (d := 65537) pr_M127 pr_M107 (by decide) (by decide +kernel) (by decide +kernel) hr
  undo2 := fun r hr => undo5 (e := 65537) (d := D1) pr_M127 pr_M107 (by decide) (by decide +kernel) (by decide +kernel) hr
  key := by decide +kernel
  pub := by decide +kernel
  sz := by decide +kernel
  d0 := by decide
  lN := ln_le.2 (by decide +kernel)
  lE := ln_le.2 (by decide +kernel)
  lD := ln_le.2 (by decide +kernel)
theorem kf2 : KF N2 65537 D2 where
  undo1 := fun r hr => undo5 (e := D2) (d := 65537) pr_M127 pr_M89 (by decide) (by decide +kernel) (by decide +kernel) hr
  undo2 := fun r hr => undo5 (e := 65537) (d := D2) pr_M127 pr_M89 (by decide) (by decide +kernel) (by decide +kernel) hr
  key := by decide +kernel
  pub := by decide +kernel
  sz := by decide +kernel
  d0 := by decide
  lN := ln_le.2 (by decide +kernel)
  lE := ln_le.2 (by decide +kernel)
  lD := ln_le.2 (by decide +kernel)
theorem known_or (a : Int) : ∃ N D, KF N 65537 D ∧ knownR a = (ofN N, ofN 65537, ofN D, 0) := by
  unfold knownR
  split
  · exact ⟨_, _, kf1, rfl⟩
  · exact ⟨_, _, kf2, rfl⟩
section
variable {N E D : Nat} (K : KF N E D)
include K
theorem KF.pos : 0 < N := by have := keyR_zero K.key; omega
theorem KF.back2 {m : List Int} (hm : okB m) (hl : m.length = szN N) (h : beV m < N) : workR N D (workR N E m) = m := by
  unfold workR
  rw [show beV (beB (powM (beV m) E N) (szN N)) = powM (beV m) E N from workR_val K.pos E m, K.undo2 _ h, ← hl]
  exact beB_beV hm _ (Nat.mod_eq_of_lt (beV_lt hm))
end
end Go.Proofs.Ytdmglajfmfjmlaa
namespace Go.Proofs.Ytdmglajfmfjmlaa
set_option linter.unusedSimpArgs false
set_option linter.unusedVariables false
set_option maxRecDepth 100000
open Go.RowKit
abbrev GFact := Value → World → Prop
def GTrue : GFact := fun _ _ => True
def updV (y : Nat → Value) (k : Nat) (v : Value) : Nat → Value := fun i => if i = k then v else y i
def updG (Gs : Nat → GFact) (k : Nat) (G : GFact) : Nat → GFact := fun i => if i = k then G else Gs i
def putAll : List Oper → Nat → (Nat → Value) → Act → Act
  | [], _, _, a => a
  | o :: os, k, y, a => putAll os (k + 1) y (a.put o.dst (y k))
def depsOf (Gs : Nat → GFact) (y : Nat → Value) (w : World) : List Edge → Prop
  | [] => True
  | e :: es => (Region.binds .any e = true → Gs e.on (y e.on) w) ∧ depsOf Gs y w es
def toldUpon (P : Program) (w : World) (G : GFact) : Result Next → Prop
  | .ok (.value v) w' => Below w.heap.size w w' ∧ G v w'
  | .ok .skip w' => Below w.heap.size w w' ∧ G undef w'
  | .ok (.enter f args) w' => Below w.heap.size w w' ∧ Calls P f args w' fun e w'' => ∃ v, e = .returned v ∧ Below w'.heap.size w' w'' ∧ G v w''
  | _ => False
theorem toldUpon_value (P : Program) (w w' : World) (G : GFact) (v : Value) : toldUpon P w G (.ok (.value v) w') = (Below w.heap.size w w' ∧ G v w') := rfl
theorem toldUpon_skip (P : Program) (w w' : World) (G : GFact) : toldUpon P w G (.ok .skip w') = (Below w.heap.size w w' ∧ G undef w') := rfl
theorem toldUpon_enter (P : Program) (w w' : World) (G : GFact) (f : FuncId) (args : Array Value) : toldUpon P w G (.ok (.enter f args) w') = (Below w.heap.size w w' ∧ Calls P f args w' fun e w'' => ∃ v, e = .returned v ∧ Below w'.heap.size w' w'' ∧ G v w'') := rfl
def toldAt (P : Program) (ops : Array Oper) (o : Oper) (a : Act) (w : World) (G : GFact) : Prop :=
  if Region.wanted o (yielded ops a.tmps) = true then toldUpon P w G ((execOp a.eval o).run P w) else G undef w
def Stays (G : GFact) : Prop := ∀ v w w', Below w.heap.size w w' → G v w → G v w'
theorem Stays.eq (c : Value) : Stays (fun v _ => v = c) := fun _ _ _ _ h => h
def Told (P : Program) (ops : Array Oper) (w0 : World) (F : (Nat → Value) → Act) (Q : Exit → Act → World → Prop) : Nat → (Nat → GFact) → List Oper → Prop
  | k, Gs, [] => ∀ y w, Below w0.heap.size w0 w → (∀ i, i < k → Gs i (y i) w) → Q .normal (F y) w
  | k, Gs, o :: rest => ∃ G, Stays G ∧ (∀ y w, Below w0.heap.size w0 w → depsOf Gs y w o.after.toList → toldAt P ops o (F y) w G) ∧ Told P ops w0 F Q (k + 1) (updG Gs k G) rest
theorem depsOf_mono {Gs Gs' : Nat → GFact} {y : Nat → Value} {w : World} : ∀ {es : List Edge}, (∀ i, Gs i (y i) w → Gs' i (y i) w) → depsOf Gs y w es → depsOf Gs' y w es
  | [], _, _ => trivial
  | _ :: _, h, hd => ⟨fun hb => h _ (hd.1 hb), depsOf_mono h hd.2⟩
theorem depsOf_all {Gs : Nat → GFact} {y : Nat → Value} {w : World} : ∀ {es : List Edge}, (∀ e ∈ es, Region.binds .any e = true → Gs e.on (y e.on) w) → depsOf Gs y w es
  | [], _ => trivial
  | e :: es, h => ⟨h e (by simp), depsOf_all fun e' he' => h e' (by simp [he'])⟩
section
variable {P : Program} {ops : Array Oper} {w0 : World} {F : (Nat → Value) → Act} {Q : Exit → Act → World → Prop}
theorem told_family : ∀ (rest : List Oper) (k : Nat) (Gs : Nat → GFact), (∀ i, k ≤ i → Gs i = GTrue) → Told P ops w0 F Q k Gs rest →
    ∃ GG : Nat → GFact, (∀ i, i < k → GG i = Gs i) ∧ (∀ j o, rest[j]? = some o → Stays (GG (k + j)) ∧ ∀ y w, Below w0.heap.size w0 w → depsOf GG y w o.after.toList → toldAt P ops o (F y) w (GG (k + j))) ∧
      ∀ y w, Below w0.heap.size w0 w → (∀ i, i < k + rest.length → GG i (y i) w) → Q .normal (F y) w
  | [], k, Gs, _, h => ⟨Gs, fun _ _ => rfl, fun j o hj => by simp at hj, fun y w hb hg => h y w hb hg⟩
  | o :: rest, k, Gs, hT, h => by
    obtain ⟨G, hst, hstep, hrest⟩ := h
    obtain ⟨GG, g1, g2, g3⟩ := told_family rest (k + 1) (updG Gs k G) (fun i hi => by
      unfold updG
      rw [if_neg (by omega)]
      exact hT i (by omega)) hrest
    have gk : GG k = G := by rw [g1 k (by omega)]; unfold updG; rw [if_pos rfl]
    refine ⟨GG, fun i hi => ?_, fun j o' hj => ?_, fun y w hb hg => g3 y w hb fun i hi => hg i (by simp only [List.length_cons]; omega)⟩
    · rw [g1 i (by omega)]; unfold updG; rw [if_neg (by omega)]
    · cases j with
      | zero =>
        obtain rfl : o = o' := by simpa using hj
        rw [Nat.add_zero, gk]
        refine ⟨hst, fun y w hb hd => hstep y w hb (depsOf_mono (fun i hi => ?_) hd)⟩
        rcases Nat.lt_or_ge i k with hik | hik
        · have e : GG i = Gs i := by rw [g1 i (by omega)]; unfold updG; rw [if_neg (by omega)]
          rwa [e] at hi
        · rw [hT i hik]; trivial
      | succ j =>
        have := g2 j o' (by simpa using hj)
        rwa [show k + 1 + j = k + (j + 1) by omega] at this
end
theorem put_put (a : Act) (d : Option Tmp) (v u : Value) : (a.put d v).put d u = a.put d u := by
  cases d with
  | none => rfl
  | some d => simp [Act.put]
def dsts (os : List Oper) : List Tmp := os.filterMap (·.dst)
theorem putAll_put : ∀ (os : List Oper) (k : Nat) (y : Nat → Value) (a : Act) (d : Tmp) (v : Value), d ∉ dsts os → (putAll os k y a).put (some d) v = putAll os k y (a.put (some d) v)
  | [], _, _, _, _, _, _ => rfl
  | o :: os, k, y, a, d, v, h => by
    have h1 : d ∉ dsts os := fun hd => h (by unfold dsts at *; rw [List.filterMap_cons]; cases o.dst <;> simp_all)
    have h2 : o.dst ≠ some d := fun e => h (by unfold dsts; rw [List.filterMap_cons, e]; simp)
    show (putAll os (k + 1) y (a.put o.dst (y k))).put (some d) v = putAll os (k + 1) y ((a.put (some d) v).put o.dst (y k))
    rw [putAll_put os (k + 1) y _ d v h1, Act.put_comm a (y k) v (x := o.dst) (y := some d) (fun e he hc => h2 (by rw [he, Option.some.inj hc]))]
theorem putAll_far : ∀ (os : List Oper) (k i : Nat) (y : Nat → Value) (a : Act) (v : Value), i < k → putAll os k (updV y i v) a = putAll os k y a
  | [], _, _, _, _, _, _ => rfl
  | o :: os, k, i, y, a, v, h => by
    show putAll os (k + 1) (updV y i v) (a.put o.dst (updV y i v k)) = putAll os (k + 1) y (a.put o.dst (y k))
    rw [putAll_far os (k + 1) i y _ v (by omega)]
    have : updV y i v k = y k := by unfold updV; rw [if_neg (by omega)]
    rw [this]
theorem putAll_upd : ∀ (os : List Oper) (k j : Nat) (y : Nat → Value) (a : Act) (o : Oper) (v : Value), (dsts os).Nodup → os[j]? = some o → o.dst ≠ none → (putAll os k y a).put o.dst v = putAll os k (updV y (k + j) v) a
  | [], _, _, _, _, _, _, _, h, _ => by simp at h
  | o' :: os, k, 0, y, a, o, v, hn, h, hd => by
    obtain rfl : o' = o := by simpa using h
    obtain ⟨d, hd⟩ := Option.ne_none_iff_exists'.1 hd
    have hn' : d ∉ dsts os := by
      unfold dsts at hn ⊢
      rw [List.filterMap_cons, hd] at hn
      exact (List.nodup_cons.1 hn).1
    show (putAll os (k + 1) y (a.put o'.dst (y k))).put o'.dst v = putAll os (k + 1) (updV y k v) (a.put o'.dst (updV y k v k))
    rw [putAll_far os (k + 1) k y _ v (by omega), hd, putAll_put os (k + 1) y _ d v hn', put_put]
    have : updV y k v k = v := by unfold updV; rw [if_pos rfl]
    rw [this]
  | o' :: os, k, j + 1, y, a, o, v, hn, h, hd => by
    have hn' : (dsts os).Nodup := by
      unfold dsts at hn ⊢
      rw [List.filterMap_cons] at hn
      cases e : o'.dst with
      | none => rw [e] at hn; exact hn
      | some d => rw [e] at hn; exact (List.nodup_cons.1 hn).2
    show (putAll os (k + 1) y (a.put o'.dst (y k))).put o.dst v = putAll os (k + 1) (updV y (k + (j + 1)) v) (a.put o'.dst (updV y (k + (j + 1)) v k))
    have : updV y (k + (j + 1)) v k = y k := by unfold updV; rw [if_neg (by omega)]
    rw [putAll_upd os (k + 1) j y _ o v hn' (by simpa using h) hd, this, show k + 1 + j = k + (j + 1) by omega]
theorem putAll_none : ∀ (os : List Oper) (k j : Nat) (y : Nat → Value) (a : Act) (o : Oper) (v : Value), os[j]? = some o → o.dst = none → putAll os k y a = putAll os k (updV y (k + j) v) a
  | [], _, _, _, _, _, _, h, _ => by simp at h
  | o' :: os, k, 0, y, a, o, v, h, hd => by
    obtain rfl : o' = o := by simpa using h
    show putAll os (k + 1) y (a.put o'.dst (y k)) = putAll os (k + 1) (updV y k v) (a.put o'.dst (updV y k v k))
    rw [putAll_far os (k + 1) k y _ v (by omega), hd]
    rfl
  | o' :: os, k, j + 1, y, a, o, v, h, hd => by
    show putAll os (k + 1) y (a.put o'.dst (y k)) = putAll os (k + 1) (updV y (k + (j + 1)) v) (a.put o'.dst (updV y (k + (j + 1)) v k))
    have : updV y (k + (j + 1)) v k = y k := by unfold updV; rw [if_neg (by omega)]
    rw [this, ← show k + 1 + j = k + (j + 1) by omega]
    exact putAll_none os (k + 1) j y _ o v (by simpa using h) hd
def nowAt (os : List Oper) (a : Act) : Nat → Value := fun i => ((os[i]?.bind (·.dst)).bind (a.tmps[·]?)).getD undef
theorem put_same (a : Act) (d : Tmp) : a.put (some d) ((a.tmps[d]?).getD undef) = a := by
  unfold Act.put
  have : a.tmps.setIfInBounds d ((a.tmps[d]?).getD undef) = a.tmps := by
    apply Array.ext
    · simp
    · intro i h1 h2
      rw [Array.getElem_setIfInBounds h2]
      split
      · rename_i e
        subst e
        rw [Array.getElem?_eq_getElem h2]
        rfl
      · rfl
  show { a with tmps := a.tmps.setIfInBounds d ((a.tmps[d]?).getD undef) } = a
  rw [this]
theorem putAll_now (all : List Oper) (a : Act) : ∀ (os : List Oper) (k : Nat), (∀ j, os[j]? = all[k + j]?) → putAll os k (nowAt all a) a = a
  | [], _, _ => rfl
  | o :: os, k, h => by
    have h0 : all[k]? = some o := by simpa using (h 0).symm
    have e : a.put o.dst (nowAt all a k) = a := by
      unfold nowAt
      rw [h0]
      cases hd : o.dst with
      | none => rfl
      | some d => simpa [hd] using put_same a d
    show putAll os (k + 1) (nowAt all a) (a.put o.dst (nowAt all a k)) = a
    rw [e]
    exact putAll_now all a os (k + 1) fun j => by
      have := h (j + 1)
      rw [show k + 1 + j = k + (j + 1) by omega, ← this]
      simp
def backB (ops : List Oper) : Bool := (List.range ops.length).all fun i => (ops[i]?.map fun o => o.after.toList.all fun e => !Region.binds .any e || decide (e.on < i)).getD true
def nodupB : List Tmp → Bool
  | [] => true
  | d :: ds => !ds.contains d && nodupB ds
theorem nodup_of : ∀ {ds : List Tmp}, nodupB ds = true → ds.Nodup
  | [], _ => List.nodup_nil
  | d :: ds, h => by
    simp only [nodupB, Bool.and_eq_true, Bool.not_eq_true'] at h
    exact List.nodup_cons.2 ⟨fun hm => by simp [hm] at h, nodup_of h.2⟩
section
variable {P : Program} {ops : List Oper} {w0 : World} {a0 : Act} {Q : Exit → Act → World → Prop}
theorem told_wp {o : Oper} {a : Act} {w : World} {G : GFact} {K : Act → World → Prop} (hw : Region.wanted o (yielded ops.toArray a.tmps) = true) (h : toldAt P ops.toArray o a w G)
    (hK : ∀ v w', Below w.heap.size w w' → G v w' → K (a.put o.dst v) w') : Oper.wp P o a w K Q := by
  unfold toldAt at h
  rw [if_pos hw] at h
  unfold Oper.wp
  generalize (execOp a.eval o).run P w = r at *
  cases r with
  | ok n w' =>
    cases n <;> simp only [toldUpon] at h <;> simp only [Oper.upon]
    case value v => exact hK v w' h.1 h.2
    case skip => exact hK undef w' h.1 h.2
    case enter f args => exact h.2.mono fun e w'' ⟨v, he, hb, hg⟩ => by subst he; exact hK v w'' (h.1.trans (hb.mono h.1.size)) hg
  | halt x w' => simp only [toldUpon] at h
theorem told_any (GG : Nat → GFact) (hback : backB ops = true) (hnd : (dsts ops).Nodup)
    (hG : ∀ j o, ops[j]? = some o → Stays (GG j) ∧ ∀ y w, Below w0.heap.size w0 w → depsOf GG y w o.after.toList → toldAt P ops.toArray o (putAll ops 0 y a0) w (GG j))
    (hQ : ∀ y w, Below w0.heap.size w0 w → (∀ i, i < ops.length → GG i (y i) w) → Q .normal (putAll ops 0 y a0) w) :
    ∀ (fuel : Nat) (listed : Array Bool) (y : Nat → Value) (w : World), listed.size = ops.length → listed.toList.countP (! ·) ≤ fuel → Below w0.heap.size w0 w → (∀ i, listed.getD i false = true → GG i (y i) w) →
      wpAny P .any ops.toArray Q fuel listed (putAll ops 0 y a0) w := by
  have hend : ∀ (listed : Array Bool) (y : Nat → Value) (w : World), listed.size = ops.length → Below w0.heap.size w0 w → (∀ i, listed.getD i false = true → GG i (y i) w) → Region.ready .any ops.toArray listed = [] → Q .normal (putAll ops 0 y a0) w := by
    intro listed y w hs hb hg hr
    refine hQ y w hb fun i hi => hg i ?_
    have key : ∀ n, n ≤ ops.length → ∀ j, j < n → listed.getD j false = true := by
      intro n
      induction n with
      | zero => intro _ j hj; omega
      | succ n ih =>
        intro hn j hj
        rcases Nat.lt_or_ge j n with h1 | h1
        · exact ih (by omega) j h1
        · obtain rfl : j = n := by omega
          apply Decidable.byContradiction
          intro hne
          have hj' : j < listed.size := by omega
          have hlj : listed.getD j true = false := by
            simp only [Array.getD, hj', dif_pos] at hne ⊢
            simpa using hne
          have ho : ops[j]? = some ops[j] := List.getElem?_eq_getElem (by omega)
          have hbk := hback
          unfold backB at hbk
          rw [List.all_eq_true] at hbk
          have hbj := hbk j (by simp; omega)
          rw [ho] at hbj
          simp only [Option.map_some, Option.getD_some, List.all_eq_true] at hbj
          have : j ∈ Region.ready .any ops.toArray listed := mem_ready.2 ⟨hlj, ops[j], by simp [ho], fun e he hbe => by
            have h2 := hbj e (by simpa using he)
            rw [hbe] at h2
            simp only [Bool.not_true, Bool.false_or, decide_eq_true_eq] at h2
            exact ih (by omega) _ h2⟩
          rw [hr] at this
          cases this
    exact key ops.length (Nat.le_refl _) i hi
  intro fuel
  induction fuel with
  | zero =>
    intro listed y w hs hc hb hg
    have h0 : Region.ready .any ops.toArray listed = [] := by
      cases hr : Region.ready .any ops.toArray listed with
      | nil => rfl
      | cons i is =>
        obtain ⟨hl, o, ho, _⟩ := mem_ready.1 (show i ∈ Region.ready .any ops.toArray listed by rw [hr]; simp)
        have hi : i < listed.size := by
          rw [hs]
          have := (Array.getElem?_eq_some_iff.1 ho).1
          simpa using this
        have : 0 < listed.toList.countP (! ·) := List.countP_pos_iff.2 ⟨listed[i], by simp, by simpa [Array.getD, hi] using hl⟩
        omega
    exact ⟨h0, hend listed y w hs hb hg h0⟩
  | succ fuel ih =>
    intro listed y w hs hc hb hg
    refine ⟨hend listed y w hs hb hg, fun i hi => ?_⟩
    obtain ⟨hl, o, ho, hed⟩ := mem_ready.1 hi
    have ho' : ops[i]? = some o := by simpa using ho
    have hi' : i < listed.size := by
      rw [hs]
      have := (Array.getElem?_eq_some_iff.1 ho).1
      simpa using this
    have hli : listed.toList[i]'(by simpa using hi') = false := by simpa [Array.getD, hi'] using hl
    have hcnt : (listed.setIfInBounds i true).toList.countP (! ·) ≤ fuel := by
      rw [Array.toList_setIfInBounds, List.countP_set (by simpa using hi')]
      simp only [hli, Bool.not_false, if_true, Bool.not_true, Bool.false_eq_true, if_false, Nat.add_zero]
      omega
    have hstep := hG i o ho'
    have ht := hstep.2 y w hb (depsOf_all fun e he hbe => hg _ (hed e (by simpa using he) hbe))
    have hnext : ∀ v w', Below w.heap.size w w' → GG i v w' → wpAny P .any ops.toArray Q fuel (listed.setIfInBounds i true) ((putAll ops 0 y a0).put o.dst v) w' := by
      intro v w' hbw hgv
      have e : (putAll ops 0 y a0).put o.dst v = putAll ops 0 (updV y i v) a0 := by
        cases hd : o.dst with
        | none => show putAll ops 0 y a0 = _; have := putAll_none ops 0 i y a0 o v ho' hd; simpa using this
        | some d => have := putAll_upd ops 0 i y a0 o v hnd ho' (by rw [hd]; simp); rw [hd] at this; simpa using this
      rw [e]
      refine ih _ _ _ (by simp [hs]) hcnt (hb.trans (hbw.mono hb.size)) fun j hj => ?_
      by_cases hji : j = i
      · subst hji
        have : updV y j v j = v := by unfold updV; rw [if_pos rfl]
        rw [this]; exact hgv
      · have e2 : updV y i v j = y j := by unfold updV; rw [if_neg hji]
        rw [e2]
        have hj2 : listed.getD j false = true := by
          rw [getD_set_ne false (fun h => hji h.symm)] at hj
          exact hj
        have hjl : j < ops.length := by
          rw [← hs]
          rcases Nat.lt_or_ge j listed.size with h' | h'
          · exact h'
          · simp [Array.getD, Nat.not_lt.2 h'] at hj2
        exact (hG j ops[j] (List.getElem?_eq_getElem hjl)).1 _ _ _ hbw (hg j hj2)
    unfold wpOp
    rw [ho]
    show if Region.wanted o (yielded ops.toArray (putAll ops 0 y a0).tmps) = true then _ else _
    split
    · rename_i hw
      exact .inl (told_wp hw ht hnext)
    · rename_i hw
      refine hnext undef w (Below.refl _ _) ?_
      unfold toldAt at ht
      rwa [if_neg hw] at ht
theorem region_told {id : Nat} (F : (Nat → Value) → Act) (hm : P.follows .mixedOrders = true) (hB : (backB ops && nodupB (dsts ops)) = true) (hF : (fun y => putAll ops 0 y a0) = F)
    (h : Told P ops.toArray w0 F Q 0 (fun _ => GTrue) ops) : (Code.region id ops.toArray true).wp P Q a0 w0 := by
  subst hF
  rw [Bool.and_eq_true] at hB
  obtain ⟨GG, _, g2, g3⟩ := told_family ops 0 _ (fun _ _ => rfl) h
  refine wp_region_any hm ?_
  have := told_any (P := P) (w0 := w0) (a0 := a0) (Q := Q) GG hB.1 (nodup_of hB.2) (fun j o hj => by simpa using g2 j o hj) (fun y w hb hg => g3 y w hb (by simpa using hg)) ops.toArray.size (Array.replicate ops.toArray.size false) (nowAt ops a0) { w0 with drawn := w0.drawn + 1 }
    (by simp) (Nat.le_trans List.countP_le_length (by simp)) (Below.drew (Below.refl _ _)) (fun i hi => by
      rcases Nat.lt_or_ge i ops.length with h' | h'
      · simp [Array.getD, h'] at hi
      · simp [Array.getD, Nat.not_lt.2 h'] at hi)
  rwa [putAll_now ops a0 ops 0 (by simp)] at this
theorem told_nil {F : (Nat → Value) → Act} {k : Nat} {Gs : Nat → GFact} {os : Array Oper} (h : ∀ y w, Below w0.heap.size w0 w → (∀ i, i < k → Gs i (y i) w) → Q .normal (F y) w) : Told P os w0 F Q k Gs [] := h
theorem told_step {F : (Nat → Value) → Act} {k : Nat} {Gs : Nat → GFact} {os : Array Oper} {o : Oper} {rest : List Oper} (G : GFact) (hst : Stays G)
    (h : ∀ y w, Below w0.heap.size w0 w → depsOf Gs y w o.after.toList → toldAt P os o (F y) w G)
    (hr : Told P os w0 F Q (k + 1) (updG Gs k G) rest) : Told P os w0 F Q k Gs (o :: rest) := ⟨G, hst, h, hr⟩
end
end Go.Proofs.Ytdmglajfmfjmlaa
namespace Go.Proofs.Ytdmglajfmfjmlaa
set_option linter.unusedSimpArgs false
set_option linter.unusedVariables false
set_option maxRecDepth 100000
open Go.RowKit Go.Proofs.YtdmglajfmfjmlaaW.PrintWords Go.Proofs.YtdmglajfmfjmlaaW.PrintLast
theorem nul_any (w : World) {b : Nat} {r : Bool} (hr : ((b : Int) == 0) = r) : Calls Try.prog 65 #[.int .u8 (b : Int)] w fun e w' => e = .returned (.bool r) ∧ w' = w := by
  go_enter Try.func65, Try.ntmps65
  go_wp2_with fail
  go_ret
  exact ⟨by subst hr; rfl, rfl⟩
def firstZ : List Nat → Nat → Int
  | [], _ => -1
  | b :: bs, i => if b = 0 then (i : Int) else firstZ bs (i + 1)
theorem firstZ_drop {bs : List Nat} {k : Nat} (h : k < bs.length) : firstZ (bs.drop k) k = if gd bs k = 0 then (k : Int) else firstZ (bs.drop (k + 1)) (k + 1) := by
  rw [List.drop_eq_getElem_cons h, gd_lt h]; rfl
def nz (xs : List Nat) : List Nat := xs.filter (· ≠ 0)
theorem firstZ_spec : ∀ (xs : List Nat) (i : Nat), (firstZ xs i = -1 ∧ nz xs = xs) ∨ ∃ k, k < xs.length ∧ firstZ xs i = ((i + k : Nat) : Int) ∧ gd xs k = 0 ∧ nz (xs.take k) = xs.take k := by
  intro xs
  induction xs with
  | nil => intro i; exact .inl ⟨rfl, rfl⟩
  | cons x xs ih =>
    intro i
    unfold firstZ
    by_cases h : x = 0
    · right
      exact ⟨0, by simp, by rw [if_pos h]; rfl, by rw [h]; rfl, rfl⟩
    · rw [if_neg h]
      have hc : ∀ l, nz (x :: l) = x :: nz l := fun l => by unfold nz; rw [List.filter_cons_of_pos (by simpa using h)]
      rcases ih (i + 1) with ⟨h1, h2⟩ | ⟨k, h1, h2, h3, h4⟩
      · exact .inl ⟨h1, by rw [hc, h2]⟩
      · right
        refine ⟨k + 1, by simp; omega, by rw [h2]; congr 1; omega, h3, ?_⟩
        rw [List.take_succ_cons, hc, h4]
theorem nz_step {xs : List Nat} {k : Nat} (h : k < xs.length) : nz (xs.take (k + 1)) = if gd xs k = 0 then nz (xs.take k) else nz (xs.take k) ++ [gd xs k] := by
  have e : xs.take (k + 1) = xs.take k ++ [gd xs k] := by
    rw [List.take_add_one, List.getElem?_eq_getElem h, gd_lt h]; rfl
  rw [e]
  unfold nz
  rw [List.filter_append]
  split
  · rename_i h0; rw [h0]; simp
  · rename_i h0; rw [List.filter_cons_of_pos (by simpa using h0)]; rfl
theorem nz_le (xs : List Nat) : (nz xs).length ≤ xs.length := List.length_filter_le _ _
set_option maxHeartbeats 400000 in
theorem indexZ_any (w : World) {B : Option Addr} {n d : Nat} {bs : List Nat} (hb : Rd .u8 w B n d bs) (hn : n ≤ 1099511627776) :
    Calls Try.prog 103 #[.slice B n d, .func (.func 65) #[] #[]] w fun e w' => e = .returned (.int .i64 (firstZ bs 0)) ∧ w' = w := by
  have HB := Lib.hid hb
  have hmax := hb.max
  have hcap := hb.cap
  clear hb
  go_enter Try.func103, Try.ntmps103
  go_wp2_with fail
  go_loop [8] (fun i => ∃ k : Nat, k ≤ n ∧ i = .int .i64 (k : Int) ∧ firstZ (bs.drop k) k = firstZ bs 0) (fun i => n - (intOf i).toNat)
  case atStart => exact ⟨0, Nat.zero_le _, rfl, rfl⟩
  case round =>
    obtain ⟨k, hk, rfl, hf⟩ := hrel
    have HF := Lib.hid hf
    clear hf
    by_cases hlt : k < n
    · obtain ⟨ad, rfl, hab, hac⟩ := HB.out.form (by omega)
      have hx := hac k hlt
      obtain ⟨b, hb⟩ : ∃ b, gd bs k = b := ⟨_, rfl⟩
      rw [hb] at hx
      have HST := Lib.hid (firstZ_drop (bs := bs) (k := k) (by rw [HB.out.len]; exact hlt))
      have HGB := Lib.hid hb
      clear hac hb
      by_cases htl : b = 0
      · have HL := Lib.hid (nul_any w (b := b) (r := true) (by rw [htl]; rfl))
        have HTL := Lib.hid htl
        clear htl
        go_wp2_with fail
        refine HL.out.mono ?_
        rintro e w1 ⟨rfl, rfl⟩
        go_wp2_with fail
        go_ret
        refine ⟨?_, rfl⟩
        rw [← HF.out, HST.out, HGB.out, if_pos HTL.out]; rfl
      · have HL := Lib.hid (nul_any w (b := b) (r := false) (by rw [beq_eq_false_iff_ne]; omega))
        have HTL := Lib.hid htl
        clear htl
        go_wp2_with fail
        refine HL.out.mono ?_
        rintro e w1 ⟨rfl, rfl⟩
        go_wp2_with fail
        refine ⟨⟨k + 1, by omega, by go_num, ?_⟩, by simp [intOf]; omega⟩
        rw [← HF.out, HST.out, HGB.out, if_neg HTL.out]
    · obtain rfl : n = k := by omega
      have HZ := Lib.hid (show firstZ bs 0 = -1 by rw [← HF.out, List.drop_eq_nil_of_le (by rw [HB.out.len]; exact Nat.le_refl _)]; rfl)
      go_wp2_with fail
      go_ret
      exact ⟨by rw [HZ.out]; rfl, rfl⟩
theorem Own.clear {k : IntKind} {e : TypeId} {base g n c : Nat} : ∀ (m o : Nat) (w : World) (xs : List Nat), Own k e w base (some ⟨g, 0, none⟩) n c xs → base ≤ g → ∃ ys, Own k e (w.setCells g o (List.replicate m (.int k 0))) base (some ⟨g, 0, none⟩) n c ys ∧ ys.take o = xs.take o ∧ Below base w (w.setCells g o (List.replicate m (.int k 0)))
  | 0, o, w, xs, h, _ => ⟨xs, h, rfl, Below.refl _ _⟩
  | m + 1, o, w, xs, h, hb => by
    obtain ⟨ys, h1, h2, h3⟩ := Own.clear m (o + 1) _ _ (h.store o 0) hb
    refine ⟨ys, h1, ?_, ?_⟩
    · have h4 := congrArg (List.take o) h2
      rw [List.take_take, List.take_take, Nat.min_eq_left (by omega)] at h4
      rw [h4, List.take_set, List.set_eq_of_length_le (by rw [List.length_take]; omega)]
    · exact ((Below.refl base w).setCell (p := ⟨g, o, none⟩) hb _).trans h3
theorem run_clear0 (w : World) (a : Option Addr) (c : Nat) (ty : TypeId) : (Builtin.clear_ #[22] ty #[.slice a 0 c]).run Try.prog w = .ok (.tuple #[]) w := by
  cases a <;> simp [Builtin.clear_, run_underlying Try.underlying22]
theorem run_clear8 (w : World) {base g n c : Nat} {xs : List Nat} (h : Own .u8 5 w base (some ⟨g, 0, none⟩) n c xs) {a d : Nat} (ha : a ≤ n) (ty : TypeId) (hd : n - a ≤ d) :
    (Builtin.clear_ #[22] ty #[.slice (some ⟨g, a, none⟩) (n - a) d]).run Try.prog w = .ok (.tuple #[]) (w.setCells g a (List.replicate (n - a) (.int .u8 0))) := by
  rcases Nat.eq_zero_or_pos (n - a) with h0 | h0
  · rw [h0]; exact run_clear0 w _ _ ty
  · exact Lib.run_clear_slice w 22 5 ty (.int .u8 0) Try.underlying22 Try.zeroValue5 rfl rfl g a (n - a) d h0 (fun j hj => by rw [h.cellAt (by omega)]; rfl) (fun j _ => h.frozenAt _)
theorem gd_of_drop {xs ys : List Nat} {b : Nat} (h : ys.drop b = xs.drop b) : gd ys b = gd xs b := by
  have := congrArg (fun l : List Nat => l[0]?) h
  simp only [List.getElem?_drop, Nat.add_zero] at this
  unfold gd
  rw [this]
theorem take_set_self {ys : List Nat} {a x : Nat} (h : a < ys.length) : (ys.set a x).take (a + 1) = ys.take a ++ [x] := by
  rw [List.take_add_one, List.getElem?_set_self h, List.take_set, List.set_eq_of_length_le (by rw [List.length_take]; omega)]; rfl
set_option maxHeartbeats 1000000 in
theorem del_any (w : World) {base n c : Nat} {A : Option Addr} {xs : List Nat} (h : Own .u8 5 w base A n c xs) (hn : n ≤ 2097152) :
    Calls Try.prog 63 #[.slice A n c, .func (.func 65) #[] #[]] w fun e w' => e = .returned (.slice A (nz xs).length c) ∧ Own .u8 5 w' base A (nz xs).length c (nz xs) ∧ Below base w w' := by
  have hl := h.len
  have hI := indexZ_any w h.rd (by omega)
  rcases firstZ_spec xs 0 with ⟨h1, h2⟩ | ⟨k0, hk0, h1, h2, h3⟩
  · rw [h1] at hI
    have HO := Lib.hid h
    rw [h2, hl]
    clear h h2 h1 hl
    go_enter Try.func63, Try.ntmps63
    go_wp2_with (go_at_call 103; refine hI.mono ?_; rintro e w1 ⟨rfl, rfl⟩)
    go_ret
    exact ⟨rfl, HO.out, Below.refl _ _⟩
  · rw [h1, Nat.zero_add] at hI
    obtain ⟨g, rfl, hbg, hgl, hnc, hcm⟩ : ∃ g, A = some ⟨g, 0, none⟩ ∧ base ≤ g ∧ g < w.heap.size ∧ n ≤ c ∧ c ≤ 9223372036854775807 := by
      rcases h.ways with ⟨_, h0, _⟩ | h0
      · omega
      · exact h0
    have i1 : IntKind.i64.wrap ((k0 : Int) + 1) = ((k0 + 1 : Nat) : Int) := by rw [IntWalk.i64_in _ (by omega)]; omega
    have HS := Lib.hid (show xs.take k0 = nz (xs.take (k0 + 1)) by rw [nz_step hk0, if_pos h2, h3])
    have HO := Lib.hid h
    have HL := Lib.hid hl
    have hkn : k0 + 1 ≤ n := by omega
    have neg : ((k0 : Int) == -1) = false := by rw [beq_eq_false_iff_ne]; omega
    clear h h1 h2 h3 hk0 hl
    go_enter Try.func63, Try.ntmps63
    go_wp2_with (go_at_call 103; refine hI.mono ?_; rintro e w1 ⟨rfl, hw1⟩; obtain rfl : w = w1 := hw1.symm)
    clear hI
    go_loopw [5, 6] (fun i j wr => ∃ (a b : Nat) (ys : List Nat), a < b ∧ b ≤ n ∧ i = .int .i64 (a : Int) ∧ j = .int .i64 (b : Int) ∧ Own .u8 5 wr base (some ⟨g, 0, none⟩) n c ys ∧ ys.take a = nz (xs.take b) ∧ ys.drop b = xs.drop b ∧ Below base w wr) (fun _ j _ => n - (intOf j).toNat)
    case atStart => exact ⟨k0, k0 + 1, xs, by omega, hkn, rfl, rfl, HO.out, HS.out, rfl, Below.refl _ _⟩
    case round =>
      obtain ⟨a, b, ys, hab, hbn, rfl, rfl, ho, ht, hd, hbl⟩ := hrel
      rcases Nat.lt_or_ge b n with h0 | h0
      · obtain ⟨x, hx⟩ : ∃ x, gd xs b = x := ⟨_, rfl⟩
        have hb : (b : Int) < (n : Int) := by omega
        have hb0 : (0 : Int) ≤ (b : Int) := by omega
        have ha : (a : Int) < (n : Int) := by omega
        have ha0 : (0 : Int) ≤ (a : Int) := by omega
        have i2 : IntKind.i64.wrap ((b : Int) + 1) = ((b + 1 : Nat) : Int) := by rw [IntWalk.i64_in _ (by omega)]; omega
        have i3 : IntKind.i64.wrap ((a : Int) + 1) = ((a + 1 : Nat) : Int) := by rw [IntWalk.i64_in _ (by omega)]; omega
        have cb : wr.cell? ⟨g, b, none⟩ = some (.int .u8 ((x : Nat) : Int)) := by rw [ho.cellAt h0, gd_of_drop hd, hx]
        have ca : wr.cell? ⟨g, a, none⟩ = some (.int .u8 ((gd ys a : Nat) : Int)) := ho.cellAt (by omega)
        have fa := ho.frozenAt a
        have hyl := ho.len
        have hst := nz_step (xs := xs) (k := b) (by rw [HL.out]; exact h0)
        rw [hx] at hst
        have hd' : ys.drop (b + 1) = xs.drop (b + 1) := by
          have := congrArg (List.drop 1) hd
          rwa [List.drop_drop, List.drop_drop] at this
        by_cases hz : x = 0
        · have HC := Lib.hid (nul_any wr (b := x) (r := true) (by rw [hz]; rfl))
          rw [if_pos hz, ← ht] at hst
          have HH := Lib.hid (And.intro ho (And.intro hst (And.intro hd' hbl)))
          clear hz hst ho ht hd hd' hbl hx ca fa hyl
          go_wp2_with fail
          refine HC.out.mono ?_
          rintro e w1 ⟨rfl, rfl⟩
          go_wp2_with fail
          go_roundw
          case rel => exact ⟨a, b + 1, ys, by omega, by omega, rfl, by go_num, HH.out.1, HH.out.2.1.symm, HH.out.2.2.1, HH.out.2.2.2⟩
          case measure => simp [intOf]; omega
        · have HC := Lib.hid (nul_any wr (b := x) (r := false) (by rw [beq_eq_false_iff_ne]; omega))
          rw [if_neg hz, ← ht] at hst
          have h5 : (ys.set a x).take (a + 1) = ys.take a ++ [x] := take_set_self (by omega)
          have h6 : (ys.set a x).drop (b + 1) = xs.drop (b + 1) := by rw [List.drop_set_of_lt (by omega), hd']
          have HH := Lib.hid (And.intro (ho.store a x) (And.intro (h5.trans hst.symm) (And.intro h6 (hbl.setCell (p := ⟨g, a, none⟩) hbg (.int .u8 (x : Int))))))
          clear hz hst ho ht hd hd' hbl hx hyl h5 h6
          go_wp2_with fail
          refine HC.out.mono ?_
          rintro e w1 ⟨rfl, rfl⟩
          go_wp2_with fail
          go_roundw
          case rel => exact ⟨a + 1, b + 1, ys.set a x, by omega, by omega, by go_num, by go_num, HH.out.1, HH.out.2.1, HH.out.2.2.1, HH.out.2.2.2⟩
          case measure => simp [intOf]; omega
      · obtain rfl : b = n := by omega
        have hf : ys.take a = nz xs := by rw [ht, List.take_of_length_le (by rw [HL.out]; exact Nat.le_refl _)]
        have hla : (nz xs).length = a := by rw [← hf, List.length_take, ho.len]; omega
        obtain ⟨zs, k1, k2, k3⟩ := Own.clear (b - a) a wr ys ho hbg
        have k4 := k1.take (m := a) (by omega)
        rw [k2, hf] at k4
        have HF := Lib.hid (And.intro k4 (hbl.trans k3))
        have HLA := Lib.hid hla
        have ha1 : (a : Int) ≤ (b : Int) := by omega
        have ha2 : (0 : Int) ≤ (a : Int) := by omega
        have hac : (a : Int) ≤ (c : Int) := by omega
        have hne : ¬ c - a = 0 := by omega
        have hne2 : ¬ c = a := by omega
        have hcl := fun ty => run_clear8 wr ho (a := a) (d := c - a) (by omega) ty (by omega)
        clear ho ht hd hbl hf hla k1 k2 k3 k4
        go_wp2_with (simp only [hcl])
        go_ret
        rw [HLA.out]
        exact ⟨rfl, HF.out.1, HF.out.2⟩
end Go.Proofs.Ytdmglajfmfjmlaa
namespace Go.Proofs.Ytdmglajfmfjmlaa
set_option linter.unusedSimpArgs false
set_option linter.unusedVariables false
set_option maxRecDepth 100000
open Go.RowKit Go.Proofs.YtdmglajfmfjmlaaW.PrintWords Go.Proofs.YtdmglajfmfjmlaaW.PrintLast Go.Proofs.YtdmglajfmfjmlaaW.PrintMore
def LI (k : IntKind) (w : World) (v : Value) (l : List Int) : Prop := ∃ A c, v = .slice A l.length c ∧ Kd.C (Kd.int k) w A l.length l ∧ l.length ≤ c
theorem LI.below {k : IntKind} {w w' : World} {v : Value} {l : List Int} (h : LI k w v l) (hb : Below w.heap.size w w') : LI k w' v l := by
  obtain ⟨A, c, e, h1, h2⟩ := h
  exact ⟨A, c, e, Kd.C_below h1 hb, h2⟩
theorem LI.of_R {k : IntKind} {e : Nat} {w : World} {base : Nat} {ok : Nat → Prop} {v : Value} {l : List Int} (h : Kd.R (Kd.int k) e w base ok v l) : LI k w v l := by
  obtain ⟨A, c, he, hl, hc⟩ := Kd.R_reads h
  exact ⟨A, c, he, hc, hl⟩
theorem LI.nil (k : IntKind) (w : World) : LI k w (.slice none 0 0) [] := ⟨none, 0, rfl, Kd.C_nil _ _, Nat.le_refl _⟩
theorem LI.of_Rd {k : IntKind} {w : World} {A : Option Addr} {n c : Nat} {xs : List Nat} (h : Rd k w A n c xs) : LI k w (.slice A n c) (cI xs) := by
  refine ⟨A, c, by rw [cI_length, h.len], C_of_Rd h, by rw [cI_length, h.len]; exact h.cap⟩
theorem LI.rd {k : IntKind} {w : World} {A : Option Addr} {n c : Nat} {l : List Int} (h : LI k w (.slice A n c) l) (h0 : ∀ x ∈ l, 0 ≤ x) : Rd k w A l.length c (toN l) ∧ n = l.length := by
  obtain ⟨A', c', e, h1, h2⟩ := h
  simp only [Value.slice.injEq] at e
  obtain ⟨rfl, rfl, rfl⟩ := e
  exact ⟨rd_any h1 h2 h0, rfl⟩
theorem LI.conv {w : World} {v : Value} {l : List Int} (h : LI .u8 w v l) : (convert 22 9 v).run Try.prog w = .ok (.string (strOfNums l)) w := by
  obtain ⟨A, c, rfl, h1, h2⟩ := h
  exact Kd.C_string (P := Try.prog) (A := A) (c := c) Try.underlying22 Try.underlying5 Try.underlying9 h1
theorem okB_pos {l : List Int} (h : okB l) : ∀ x ∈ l, 0 ≤ x := fun x hx => (h x hx).1
section
variable {w : World} {v0 v1 v2 vt vs : Value} {n e d t s : List Int}
theorem sign_li (h0 : LI .u64 w v0 n) (h1 : LI .u64 w v1 e) (h2 : LI .u64 w v2 d) (ht : LI .u8 w vt t) (on : okN 64 n) (oe : okN 64 e) (od : okN 64 d) (ot : okB t) (lt : t.length ≤ 2097152) {S : List Int} {r : Int} (hr : signR (nI n) (nI e) (nI d) t = (S, r)) (hS : okB S) :
    Calls Try.prog 13 #[.agg #[v0, v1, v2], vt] w fun e_ w' => ∃ A c, e_ = .returned (.tuple #[.slice A S.length c, .int .i64 r]) ∧ Own .u8 5 w' w.heap.size A S.length c (toN S) ∧ Below w.heap.size w w' := by
  obtain ⟨A0, c0, rfl, h0, k0⟩ := h0
  obtain ⟨A1, c1, rfl, h1, k1⟩ := h1
  obtain ⟨A2, c2, rfl, h2, k2⟩ := h2
  obtain ⟨A3, c3, rfl, h3, k3⟩ := ht
  refine (Cp.pkey_Sign.calls 1 _ _ _ _ _ _ _ _ _ _ _ _ S r w h0 k0 h1 k1 h2 k2 h3 k3 ((sign_pure on oe od ot lt).trans (congrArg some hr))).mono ?_
  rintro e_ w' ⟨v, rfl, hR, hb⟩
  obtain ⟨A, c, rfl, ho⟩ := Own.of_R hR (okB_pos hS)
  exact ⟨A, c, rfl, ho, hb⟩
theorem size_li (h0 : LI .u64 w v0 n) (h1 : LI .u64 w v1 e) (h2 : LI .u64 w v2 d) (on : okN 64 n) :
    Calls Try.prog 17 #[.agg #[v0, v1, v2]] w fun e_ w' => e_ = .returned (.int .i64 ((szN (nI n) : Nat) : Int)) ∧ Below w.heap.size w w' := by
  obtain ⟨A0, c0, rfl, h0, k0⟩ := h0
  obtain ⟨A1, c1, rfl, h1, k1⟩ := h1
  obtain ⟨A2, c2, rfl, h2, k2⟩ := h2
  exact Cp.pkey_Size.calls _ _ _ _ _ _ _ _ _ _ w h0 k0 h1 k1 h2 k2 (cp_size on)
theorem right_li (h0 : LI .u64 w v0 n) (h1 : LI .u64 w v1 e) (h2 : LI .u64 w v2 d) (on : okN 64 n) (oe : okN 64 e) (od : okN 64 d) :
    Calls Try.prog 20 #[.agg #[v0, v1, v2]] w fun e_ w' => e_ = .returned (.int .i64 (keyR (nI n) (nI e) (nI d))) ∧ Below w.heap.size w w' := by
  obtain ⟨A0, c0, rfl, h0, k0⟩ := h0
  obtain ⟨A1, c1, rfl, h1, k1⟩ := h1
  obtain ⟨A2, c2, rfl, h2, k2⟩ := h2
  exact Cp.pkey_Right.calls _ _ _ _ _ _ _ _ _ _ w h0 k0 h1 k1 h2 k2 (cp_right on oe od)
def GPub (n e : List Int) : GFact := fun v w => ∃ v0 v1 v2, v = .agg #[v0, v1, v2] ∧ LI .u64 w v0 n ∧ LI .u64 w v1 e ∧ LI .u64 w v2 []
theorem public_li (h0 : LI .u64 w v0 n) (h1 : LI .u64 w v1 e) (h2 : LI .u64 w v2 d) (on : okN 64 n) (oe : okN 64 e) :
    Calls Try.prog 15 #[.agg #[v0, v1, v2]] w fun e_ w' => ∃ v, e_ = .returned v ∧ Below w.heap.size w w' ∧ GPub n e v w' := by
  obtain ⟨A0, c0, rfl, h0, k0⟩ := h0
  obtain ⟨A1, c1, rfl, h1, k1⟩ := h1
  obtain ⟨A2, c2, rfl, h2, k2⟩ := h2
  refine (Cp.pkey_Public.calls _ _ _ _ _ _ _ _ _ n e [] w h0 k0 h1 k1 h2 k2 (by
    unfold Cp.pkey_Public.f Cp.slices_Clone_uint64_uint64.f
    rw [if_pos (on.le (by omega)), Option.bind_some, if_pos (oe.le (by omega)), Option.bind_some])).mono ?_
  rintro e_ w' ⟨u0, u1, u2, rfl, r0, r1, r2, hb⟩
  exact ⟨_, rfl, hb, u0, u1, u2, rfl, .of_R r0, .of_R r1, .of_R r2⟩
theorem known5_li (x : Int) {N D : Nat} (hk : knownR x = (ofN N, ofN 65537, ofN D, 0)) :
    Calls Try.prog 12 #[.int .i64 x] w fun e_ w' => ∃ A1 c1 A2 c2 A3 c3, e_ = .returned (.tuple #[.agg #[.slice A1 (ofN N).length c1, .slice A2 (ofN 65537).length c2, .slice A3 (ofN D).length c3], .int .i64 0]) ∧
      LI .u64 w' (.slice A1 (ofN N).length c1) (ofN N) ∧ LI .u64 w' (.slice A2 (ofN 65537).length c2) (ofN 65537) ∧ LI .u64 w' (.slice A3 (ofN D).length c3) (ofN D) ∧ Below w.heap.size w w' := by
  refine (Ck.clepsydralaw05_known.calls 1 x _ _ _ _ w ((known_law x).trans (congrArg some hk))).mono ?_
  rintro e_ w' ⟨u0, u1, u2, rfl, r0, r1, r2, hb⟩
  obtain ⟨A1, c1, rfl⟩ := Kd.R_slice r0
  obtain ⟨A2, c2, rfl⟩ := Kd.R_slice r1
  obtain ⟨A3, c3, rfl⟩ := Kd.R_slice r2
  exact ⟨_, _, _, _, _, _, rfl, .of_R r0, .of_R r1, .of_R r2, hb⟩
end
end Go.Proofs.Ytdmglajfmfjmlaa
namespace Go.Proofs.Ytdmglajfmfjmlaa
set_option linter.unusedSimpArgs false
set_option linter.unusedVariables false
set_option maxRecDepth 100000
open Go.RowKit Go.Proofs.YtdmglajfmfjmlaaW.PrintWords Go.Proofs.YtdmglajfmfjmlaaW.PrintLast Go.Proofs.YtdmglajfmfjmlaaW.PrintMore
attribute [local go_sem] toldUpon_value toldUpon_skip toldUpon_enter
def GLI (k : IntKind) (l : List Int) : GFact := fun v w => LI k w v l
theorem GLI.stays (k : IntKind) (l : List Int) : Stays (GLI k l) := fun _ _ _ hb h => LI.below h hb
theorem of_li (a : Nat) (ha : a < 18446744073709551616) (w : World) : Calls Try.prog 22 #[.int .u64 (a : Int)] w fun e w' => ∃ v, e = .returned v ∧ Below w.heap.size w w' ∧ GLI .u64 (ofN a) v w' := by
  refine (of_any w a ha).mono ?_
  rintro e w' ⟨A, c, rfl, ho, hb⟩
  exact ⟨_, rfl, hb, LI.of_Rd ho.rd⟩
theorem cmp_li {w : World} {v0 v1 : Value} {a b : List Int} (h0 : LI .u64 w v0 a) (h1 : LI .u64 w v1 b) (oa : okN 262144 a) (ob : okN 262144 b) : Calls Try.prog 33 #[v0, v1] w fun e w' => e = .returned (.int .i64 (cmpN (nI a) (nI b))) ∧ Below w.heap.size w w' := by
  obtain ⟨A0, c0, rfl, h0, k0⟩ := h0
  obtain ⟨A1, c1, rfl, h1, k1⟩ := h1
  refine (cmp_giv (r := cmpN (nI a) (nI b)) h0 k0 h1 k1 (by rw [if_pos ⟨oa, ob⟩])).mono ?_
  rintro e w' ⟨rfl, hd⟩
  obtain ⟨n, rfl⟩ := hd.out
  exact ⟨rfl, below_drewN (Below.refl _ _) n⟩
theorem pr_251 : IsPrime 251 := prime_trial (k := 5) (by decide) (by decide) (by decide +kernel)
theorem pr_257 : IsPrime 257 := prime_trial (k := 5) (by decide) (by decide) (by decide +kernel)
theorem mk_small : Ck.pkey_Make.f 1 (ofN 251) (ofN 257) 17 = some (ofN 64507, ofN 17, ofN 26353, 0) :=
  make_two (e := 17) (D := 26353) pr_251 pr_257 (by decide) (by decide +kernel) (by decide +kernel) (by decide) (by decide) (by decide) (by decide +kernel) (by decide +kernel) (by decide +kernel) (by decide +kernel) (by decide +kernel) (by decide +kernel) (by decide +kernel) 1 (Nat.le_refl _)
theorem mk_same : Ck.pkey_Make.f 1 (ofN 251) (ofN 251) 17 = some ([], [], [], 50) := by
  have l1 : ln 251 ≤ 1 := ln_small (by omega)
  unfold Ck.pkey_Make.f
  rw [ck_may pr_251 (by decide +kernel), Option.bind_some, if_pos rfl, Option.bind_some, if_pos rfl, ck_cmp (by omega) (by omega), Option.bind_some, show cmpN 251 251 = 0 by decide, if_pos rfl]
  rfl
theorem make_li {w : World} {v0 v1 : Value} {a b N E D : List Int} {e r : Int} (h0 : LI .u64 w v0 a) (h1 : LI .u64 w v1 b) (hf : Ck.pkey_Make.f 1 a b e = some (N, E, D, r)) :
    Calls Try.prog 47 #[v0, v1, .int .u64 e] w fun e_ w' => ∃ A1 c1 A2 c2 A3 c3, e_ = .returned (.tuple #[.agg #[.slice A1 N.length c1, .slice A2 E.length c2, .slice A3 D.length c3], .int .i64 r]) ∧
      LI .u64 w' (.slice A1 N.length c1) N ∧ LI .u64 w' (.slice A2 E.length c2) E ∧ LI .u64 w' (.slice A3 D.length c3) D ∧ Below w.heap.size w w' := by
  obtain ⟨A0, c0, rfl, h0, k0⟩ := h0
  obtain ⟨A1, c1, rfl, h1, k1⟩ := h1
  refine (Ck.pkey_Make.calls 1 _ _ _ _ _ _ e N E D r w h0 k0 h1 k1 hf).mono ?_
  rintro e_ w' ⟨u0, u1, u2, rfl, r0, r1, r2, hb⟩
  obtain ⟨A1, c1, rfl⟩ := Kd.R_slice r0
  obtain ⟨A2, c2, rfl⟩ := Kd.R_slice r1
  obtain ⟨A3, c3, rfl⟩ := Kd.R_slice r2
  exact ⟨_, _, _, _, _, _, rfl, .of_R r0, .of_R r1, .of_R r2, hb⟩
theorem sgn_small : signR 64507 17 26353 [] = ([], 51) := by decide +kernel
set_option maxHeartbeats 4000000 in
theorem alive5_any (w : World) : Calls Try.prog 11 #[] w fun e w' => e = .returned (.bool true) ∧ Below w.heap.size w w' := by
  have o251 := of_li 251 (by omega)
  have o257 := of_li 257 (by omega)
  have oA := of_li 64507 (by omega)
  have oB := of_li 26353 (by omega)
  simp only [show ((251 : Nat) : Int) = 251 from rfl, show ((257 : Nat) : Int) = 257 from rfl, show ((64507 : Nat) : Int) = 64507 from rfl, show ((26353 : Nat) : Int) = 26353 from rfl] at o251 o257 oA oB
  have lf : ∀ a : Nat, a < 18446744073709551616 → okN 64 (ofN a) := fun a h => okN_ofN (Nat.le_trans (ln_small h) (by omega))
  have k1 := lf 64507 (by omega)
  have k2 := lf 17 (by omega)
  have k3 := lf 26353 (by omega)
  have hm := fun (w : World) v0 v1 (h0 : LI .u64 w v0 (ofN 251)) (h1 : LI .u64 w v1 (ofN 257)) => make_li h0 h1 mk_small
  have hm2 := fun (w : World) v0 v1 (h0 : LI .u64 w v0 (ofN 251)) (h1 : LI .u64 w v1 (ofN 251)) => make_li h0 h1 mk_same
  have hs := fun (w : World) v0 v1 v2 (h0 : LI .u64 w v0 (ofN 64507)) (h1 : LI .u64 w v1 (ofN 17)) (h2 : LI .u64 w v2 (ofN 26353)) => sign_li h0 h1 h2 (LI.nil .u8 w) k1 k2 k3 (by decide) (by decide) (S := []) (r := 51) (by rw [nI_ofN, nI_ofN, nI_ofN]; exact sgn_small) (by decide)
  have hz := fun (w : World) v0 v1 v2 (h0 : LI .u64 w v0 (ofN 64507)) (h1 : LI .u64 w v1 (ofN 17)) (h2 : LI .u64 w v2 (ofN 26353)) => size_li h0 h1 h2 k1
  rw [nI_ofN, show szN 64507 = 2 by decide +kernel, show ((2 : Nat) : Int) = 2 from rfl] at hz
  have hc1 := fun (w : World) v0 v1 (h0 : LI .u64 w v0 (ofN 64507)) (h1 : LI .u64 w v1 (ofN 64507)) => cmp_li h0 h1 (k1.le (by omega)) (k1.le (by omega))
  have hc2 := fun (w : World) v0 v1 (h0 : LI .u64 w v0 (ofN 26353)) (h1 : LI .u64 w v1 (ofN 26353)) => cmp_li h0 h1 (k3.le (by omega)) (k3.le (by omega))
  rw [nI_ofN, show cmpN 64507 64507 = 0 by decide] at hc1
  rw [nI_ofN, show cmpN 26353 26353 = 0 by decide] at hc2
  clear lf k1 k2 k3
  simp only [List.length_nil] at hm2
  generalize ofN 251 = L1 at *
  generalize ofN 257 = L2 at *
  generalize ofN 64507 = L3 at *
  generalize ofN 17 = L4 at *
  generalize ofN 26353 = L5 at *
  obtain ⟨n3, hn3⟩ : ∃ n, L3.length = n := ⟨_, rfl⟩
  obtain ⟨n4, hn4⟩ : ∃ n, L4.length = n := ⟨_, rfl⟩
  obtain ⟨n5, hn5⟩ : ∃ n, L5.length = n := ⟨_, rfl⟩
  simp only [hn3, hn4, hn5] at hm
  clear hn3 hn4 hn5
  go_enter Try.func11, Try.ntmps11
  go_upto_region 2 with (first
    | (go_at_call 22; refine (o251 _).mono ?_; rintro e w1 ⟨u1, rfl, hb1, r1⟩)
    | (go_at_call 22; refine (o257 _).mono ?_; rintro e w2 ⟨u2, rfl, hb2, r2⟩)
    | (go_at_call 47; refine (hm _ _ _ (LI.below r1 hb2) r2).mono ?_; rintro e w3 ⟨B1, d1, B2, d2, B3, d3, rfl, q1, q2, q3, hb3⟩))
  have h13 := hb1.trans ((hb2.mono hb1.size).trans (hb3.mono (Nat.le_trans hb1.size hb2.size)))
  obtain ⟨g, hg⟩ : ∃ g, w3.heap.size = g := ⟨_, rfl⟩
  obtain ⟨wa, hwa⟩ : ∃ z, w3.alloc (.cells #[.slice B1 n3 d1, .slice B2 n4 d2, .slice B3 n5 d3] 26) = z := ⟨_, rfl⟩
  have hbk : Bk wa g 26 #[.slice B1 n3 d1, .slice B2 n4 d2, .slice B3 n5 d3] := by rw [← hwa, ← hg]; exact Bk.new w3 _ _
  have hba : Below w3.heap.size w3 wa := by rw [← hwa]; exact (Below.refl _ _).alloc (Nat.le_refl _) _
  rw [hwa, hg]
  have HB := Lib.hid (h13.trans (hba.mono h13.size))
  have HK := Lib.hid (And.intro (q1.below hba) (And.intro (q2.below hba) (q3.below hba)))
  have HBK := Lib.hid hbk
  have HG := Lib.hid hbk.lt
  have c0 := hbk.cell 0
  have c1 := hbk.cell 1
  have c2 := hbk.cell 2
  clear hwa hg hb1 hb2 hb3 r1 r2 q1 q2 q3 h13 hba hbk hm o257
  go_upto_region 3 with (go_at_call 13; refine (hs _ _ _ _ HK.out.1 HK.out.2.1 HK.out.2.2).mono ?_; rintro e w4 ⟨A, c, rfl, ho, hb4⟩)
  clear ho c0 c1 c2 hs
  have o251b := o251
  go_upto_region 4 with (first
    | (go_at_call 22; refine (o251b _).mono ?_; rintro e w5 ⟨u1, rfl, hb5, r1⟩; have HR1 := Lib.hid r1; clear r1 o251b)
    | (go_at_call 22; refine (o251 _).mono ?_; rintro e w6 ⟨u2, rfl, hb6, r2⟩)
    | (go_at_call 47; refine (hm2 _ _ _ (LI.below HR1.out hb6) r2).mono ?_; rintro e w7 ⟨C1, e1, C2, e2, C3, e3, rfl, q1, q2, q3, hb7⟩))
  clear q1 q2 q3 r2 HR1
  obtain ⟨w8, hw8⟩ : ∃ z, w7.alloc (.cells #[.slice C1 0 e1, .slice C2 0 e2, .slice C3 0 e3] 26) = z := ⟨_, rfl⟩
  have hb8 : Below w7.heap.size w7 w8 := by rw [← hw8]; exact (Below.refl _ _).alloc (Nat.le_refl _) _
  obtain ⟨g2, hg2⟩ : ∃ g, w7.heap.size = g := ⟨_, rfl⟩
  rw [hw8, hg2]
  have b5 := hb4.trans (hb5.mono hb4.size)
  have b6 := b5.trans (hb6.mono b5.size)
  have b7 := b6.trans (hb7.mono b6.size)
  have b8 := b7.trans (hb8.mono b7.size)
  have HB8 := Lib.hid (HB.out.trans (b8.mono HB.out.size))
  have hK0 := HK.out.1.below b8
  have hK1 := HK.out.2.1.below b8
  have hK2 := HK.out.2.2.below b8
  have hBK := HBK.out.below b8 HG.out
  have hG := Nat.lt_of_lt_of_le HG.out b8.size
  clear hw8 hg2 hb4 hb5 hb6 hb7 hb8 b5 b6 b7 b8 HB HK HBK HG hm2 o251
  have z0 := fun w' (h : Below w8.heap.size w8 w') => (hBK.below h hG).cell 0
  have z1 := fun w' (h : Below w8.heap.size w8 w') => (hBK.below h hG).cell 1
  have z2 := fun w' (h : Below w8.heap.size w8 w') => (hBK.below h hG).cell 2
  have OA := Lib.hid oA
  have OB := Lib.hid oB
  have HC1 := Lib.hid hc1
  have HC2 := Lib.hid hc2
  have HZ := Lib.hid hz
  clear oA oB hc1 hc2 hz
  (refine region_told _ (by kernel_rfl) (by kernel_rfl) (by simp only [putAll, Act.put, List.setIfInBounds_toArray, List.set_cons_zero, List.set_cons_succ, Nat.reduceAdd]; rfl) ?_)
  repeat (refine told_step (fun v _ => v = _) (Stays.eq _) (by intro y w' hw' hd; simp only [depsOf, updG, Region.binds, Nat.reduceAdd, Nat.reduceEqDiff, if_false, if_true, and_true, true_and, forall_const, Array.toList, GTrue] at hd; (try go_split_ands); unfold toldAt; go_simp; exact ⟨Below.refl _ _, rfl⟩) ?_)
  (refine told_step (GLI .u64 L3) ( GLI.stays _ _) (by intro y w' hw' hd; simp only [depsOf, updG, Region.binds, Nat.reduceAdd, Nat.reduceEqDiff, if_false, if_true, and_true, true_and, forall_const, Array.toList, GTrue] at hd; (try go_split_ands); unfold toldAt; go_simp; refine ⟨Below.refl _ _, ?_⟩;  exact OA.out _) ?_)
  (refine told_step (fun v _ => v = .int .i64 0) ( Stays.eq _) (by intro y w' hw' hd; simp only [depsOf, updG, Region.binds, Nat.reduceAdd, Nat.reduceEqDiff, if_false, if_true, and_true, true_and, forall_const, Array.toList, GTrue] at hd;  obtain ⟨h4, h5, h6⟩ := hd; (try go_split_ands); unfold toldAt; go_simp; refine ⟨Below.refl _ _, ?_⟩; exact HC1.out _ _ _ (hK0.below hw') h5) ?_)
  repeat (refine told_step (fun v _ => v = _) (Stays.eq _) (by intro y w' hw' hd; simp only [depsOf, updG, Region.binds, Nat.reduceAdd, Nat.reduceEqDiff, if_false, if_true, and_true, true_and, forall_const, Array.toList, GTrue] at hd; (try go_split_ands); unfold toldAt; go_simp; exact ⟨Below.refl _ _, rfl⟩) ?_)
  (refine told_step (GLI .u64 L5) ( GLI.stays _ _) (by intro y w' hw' hd; simp only [depsOf, updG, Region.binds, Nat.reduceAdd, Nat.reduceEqDiff, if_false, if_true, and_true, true_and, forall_const, Array.toList, GTrue] at hd; (try go_split_ands); unfold toldAt; go_simp; refine ⟨Below.refl _ _, ?_⟩;  exact OB.out _) ?_)
  (refine told_step (fun v _ => v = .int .i64 0) ( Stays.eq _) (by intro y w' hw' hd; simp only [depsOf, updG, Region.binds, Nat.reduceAdd, Nat.reduceEqDiff, if_false, if_true, and_true, true_and, forall_const, Array.toList, GTrue] at hd;  obtain ⟨h4, h5, h6⟩ := hd; (try go_split_ands); unfold toldAt; go_simp; refine ⟨Below.refl _ _, ?_⟩; exact HC2.out _ _ _ (hK2.below hw') h5) ?_)
  repeat (refine told_step (fun v _ => v = _) (Stays.eq _) (by intro y w' hw' hd; simp only [depsOf, updG, Region.binds, Nat.reduceAdd, Nat.reduceEqDiff, if_false, if_true, and_true, true_and, forall_const, Array.toList, GTrue] at hd; (try go_split_ands); unfold toldAt; go_simp; exact ⟨Below.refl _ _, rfl⟩) ?_)
  (refine told_step (fun v _ => v = _) (Stays.eq _) (by intro y w' hw' hd; simp only [depsOf, updG, Region.binds, Nat.reduceAdd, Nat.reduceEqDiff, if_false, if_true, and_true, true_and, forall_const, Array.toList, GTrue] at hd; (try go_split_ands); unfold toldAt; go_simp; refine ⟨Below.refl _ _, ?_⟩; exact HZ.out _ _ _ _ (hK0.below hw') (hK1.below hw') (hK2.below hw')) ?_)
  repeat (refine told_step (fun v _ => v = _) (Stays.eq _) (by intro y w' hw' hd; simp only [depsOf, updG, Region.binds, Nat.reduceAdd, Nat.reduceEqDiff, if_false, if_true, and_true, true_and, forall_const, Array.toList, GTrue] at hd; (try go_split_ands); unfold toldAt; go_simp; exact ⟨Below.refl _ _, rfl⟩) ?_)

  (refine told_nil ?_; intro y w' hw' hd; replace hd := hd 29 (by decide); simp only [updG, Nat.reduceAdd, Nat.reduceEqDiff, if_false, if_true] at hd)
  have H29 : y 29 = .bool true := hd
  go_wp2_with fail
  go_ret
  exact ⟨congrArg Ending.returned H29, HB8.out.trans (hw'.mono HB8.out.size)⟩
end Go.Proofs.Ytdmglajfmfjmlaa
namespace Go.Proofs.Ytdmglajfmfjmlaa
set_option linter.unusedSimpArgs false
set_option linter.unusedVariables false
set_option maxRecDepth 100000
open Go.RowKit Go.Proofs.YtdmglajfmfjmlaaW.PrintWords Go.Proofs.YtdmglajfmfjmlaaW.PrintLast Go.Proofs.YtdmglajfmfjmlaaW.PrintMore
attribute [local go_sem] toldUpon_value toldUpon_skip toldUpon_enter
def encP (s : Nat) (t dr : List Int) : List Int := NI (padP s 2 ((nz (toN dr)).take (s - 3 - t.length)) (toN t))
def encR (n e d : Nat) (t dr : List Int) : List Int × Int :=
  if keyR n e d = 0 then (if (szN n : Int) - 3 - t.length < 8 then ([], 51) else if (nz (toN dr)).length < szN n - 3 - t.length then ([], 52) else (workR n e (encP (szN n) t dr), 0)) else ([], 50)
section
variable {w : World} {v0 v1 v2 vt vs vx : Value} {n e d t s x : List Int}
theorem work_li (h0 : LI .u64 w v0 n) (h1 : LI .u64 w v1 e) (h2 : LI .u64 w v2 d) (hs : LI .u8 w vs s) (hx : LI .u64 w vx x) (on : okN 64 n) (ox : okN 64 x) (os : okB s) (ls : s.length ≤ 32768) (hn : nI n ≠ 0) :
    Calls Try.prog 49 #[.agg #[v0, v1, v2], vs, vx] w fun e_ w' => ∃ v, e_ = .returned v ∧ Below w.heap.size w w' ∧ GLI .u8 (workR (nI n) (nI x) s) v w' := by
  obtain ⟨A0, c0, rfl, h0, k0⟩ := h0
  obtain ⟨A1, c1, rfl, h1, k1⟩ := h1
  obtain ⟨A2, c2, rfl, h2, k2⟩ := h2
  obtain ⟨A3, c3, rfl, h3, k3⟩ := hs
  obtain ⟨A4, c4, rfl, h4, k4⟩ := hx
  refine (Cp.pkey_work.calls _ _ _ _ _ _ _ _ _ _ _ _ _ _ _ _ w h0 k0 h1 k1 h2 k2 h3 k3 h4 k4 (cp_work on ox os ls hn)).mono ?_
  rintro e_ w' ⟨v, rfl, hR, hb⟩
  exact ⟨v, rfl, hb, .of_R hR⟩
theorem clone_li (ht : LI .u8 w vt t) (ot : okB t) (lt : t.length ≤ 2097152) :
    Calls Try.prog 64 #[vt] w fun e_ w' => ∃ A c, e_ = .returned (.slice A t.length c) ∧ Own .u8 5 w' w.heap.size A t.length c (toN t) ∧ Below w.heap.size w w' := by
  obtain ⟨A0, c0, rfl, h0, k0⟩ := ht
  refine (clone8_giv (r := t) h0 k0 (by rw [if_pos ⟨ot, lt⟩])).mono ?_
  rintro e_ w' ⟨v, rfl, hR, hb⟩
  obtain ⟨A, c, rfl, ho⟩ := Own.of_R hR (okB_pos ot)
  exact ⟨A, c, rfl, ho, hb⟩
theorem padP_b8 {s k : Nat} {f t : List Nat} (hk : k < 256) (hf : B8 f) (ht : B8 t) : B8 (padP s k f t) := by
  intro y hy
  unfold padP padF padZ splice at hy
  simp only [List.mem_append] at hy
  rcases hy with hy | hy | hy
  · have hy := List.mem_of_mem_take hy
    simp only [List.mem_append] at hy
    rcases hy with hy | hy | hy
    · rcases List.mem_or_eq_of_mem_set (List.mem_of_mem_take hy) with h | h
      · have := List.eq_of_mem_replicate h; omega
      · omega
    · exact hf y (List.mem_of_mem_take hy)
    · rcases List.mem_or_eq_of_mem_set (List.mem_of_mem_drop hy) with h | h
      · have := List.eq_of_mem_replicate h; omega
      · omega
  · exact ht y hy
  · have hy := List.mem_of_mem_drop hy
    simp only [List.mem_append] at hy
    rcases hy with hy | hy | hy
    · rcases List.mem_or_eq_of_mem_set (List.mem_of_mem_take hy) with h | h
      · have := List.eq_of_mem_replicate h; omega
      · omega
    · exact hf y (List.mem_of_mem_take hy)
    · rcases List.mem_or_eq_of_mem_set (List.mem_of_mem_drop hy) with h | h
      · have := List.eq_of_mem_replicate h; omega
      · omega
theorem nz_b8 {xs : List Nat} (h : B8 xs) : B8 (nz xs) := fun x hx => h x (List.mem_filter.1 hx).1
theorem encP_okB {z : Nat} {t dr : List Int} (ot : okB t) (od : okB dr) : okB (encP z t dr) :=
  okB_NI (padP_b8 (by omega) (fun x hx => nz_b8 (okB_b8 od) x (List.mem_of_mem_take hx)) (okB_b8 ot))
theorem encP_length {z : Nat} {t dr : List Int} (h : t.length + 3 ≤ z) : (encP z t dr).length = z := by
  unfold encP; rw [NI_length, padP_length (by omega) (by rw [toN_length]; omega)]
theorem padded_li (z : Nat) (hz : 3 ≤ z) (hz2 : z ≤ 4194304) {F : Option Addr} {m c : Nat} {f : List Nat} (hf : Rd .u8 w F m c f) (hm : m ≤ 2097152) (ht : LI .u8 w vt t) (ot : okB t) (lt : t.length ≤ z) :
    Calls Try.prog 66 #[.int .i64 (z : Int), .int .u8 2, .slice F m c, vt] w fun e_ w' => ∃ v, e_ = .returned v ∧ Below w.heap.size w w' ∧ GLI .u8 (NI (padP z 2 f (toN t))) v w' := by
  obtain ⟨A0, c0, rfl, h0, k0⟩ := ht
  have hrd := rd_any h0 k0 (okB_pos ot)
  refine (padded_any w (s := z) (k := 2) hz hz2 (by omega) hf hrd lt hm).mono ?_
  rintro e_ w' ⟨A, c, rfl, ho, hb⟩
  exact ⟨_, rfl, hb, LI.of_Rd ho.rd⟩
set_option maxHeartbeats 4000000 in
theorem encrypt_li (h0 : LI .u64 w v0 n) (h1 : LI .u64 w v1 e) (h2 : LI .u64 w v2 d) (ht : LI .u8 w vt t) (hs : LI .u8 w vs s) (on : okN 64 n) (oe : okN 64 e) (od : okN 64 d) (ot : okB t) (lt : t.length ≤ 2097152) (os : okB s) (ls : s.length ≤ 2097152) {C : List Int} {r : Int} (hr : encR (nI n) (nI e) (nI d) t s = (C, r)) :
    Calls Try.prog 24 #[.agg #[v0, v1, v2], vt, vs] w fun e_ w' => ∃ v, e_ = .returned (.tuple #[v, .int .i64 r]) ∧ LI .u8 w' v C ∧ Below w.heap.size w w' := by
  obtain ⟨A0, c0, rfl, h0, k0⟩ := h0
  obtain ⟨A1, c1, rfl, h1, k1⟩ := h1
  obtain ⟨A2, c2, rfl, h2, k2⟩ := h2
  obtain ⟨A3, c3, rfl, h3, k3⟩ := ht
  obtain ⟨A4, c4, rfl, h4, k4⟩ := hs
  have HA0 := Lib.hid (show LI .u64 w (.slice A0 n.length c0) n from ⟨A0, c0, rfl, h0, k0⟩)
  have HA1 := Lib.hid (show LI .u64 w (.slice A1 e.length c1) e from ⟨A1, c1, rfl, h1, k1⟩)
  have HA2 := Lib.hid (show LI .u64 w (.slice A2 d.length c2) d from ⟨A2, c2, rfl, h2, k2⟩)
  have HA3 := Lib.hid (show LI .u8 w (.slice A3 t.length c3) t from ⟨A3, c3, rfl, h3, k3⟩)
  have HA4 := Lib.hid (show LI .u8 w (.slice A4 s.length c4) s from ⟨A4, c4, rfl, h4, k4⟩)
  clear h0 k0 h1 k1 h2 k2 h3 k3 h4 k4
  obtain ⟨l0, q0⟩ : ∃ l, n.length = l := ⟨_, rfl⟩
  obtain ⟨l1, q1⟩ : ∃ l, e.length = l := ⟨_, rfl⟩
  obtain ⟨l2, q2⟩ : ∃ l, d.length = l := ⟨_, rfl⟩
  obtain ⟨l3, q3⟩ : ∃ l, t.length = l := ⟨_, rfl⟩
  obtain ⟨l4, q4⟩ : ∃ l, s.length = l := ⟨_, rfl⟩
  rw [q0] at HA0
  rw [q1] at HA1
  rw [q2] at HA2
  rw [q3] at HA3
  rw [q4] at HA4
  rw [q0, q1, q2, q3, q4]
  obtain ⟨wa, hwa⟩ : ∃ z, w.alloc (.cells #[.slice A0 l0 c0, .slice A1 l1 c1, .slice A2 l2 c2] 26) = z := ⟨_, rfl⟩
  have hbk : Bk wa w.heap.size 26 #[.slice A0 l0 c0, .slice A1 l1 c1, .slice A2 l2 c2] := by rw [← hwa]; exact Bk.new w _ _
  have hba : Below w.heap.size w wa := by rw [← hwa]; exact (Below.refl _ _).alloc (Nat.le_refl _) _
  have HB := Lib.hid hba
  have HK := Lib.hid (And.intro (HA0.out.below hba) (And.intro (HA1.out.below hba) (HA2.out.below hba)))
  have HT := Lib.hid (And.intro (HA3.out.below hba) (HA4.out.below hba))
  have HBK := Lib.hid hbk
  have HG := Lib.hid hbk.lt
  have z0 := hbk.cell 0
  have z1 := hbk.cell 1
  have z2 := hbk.cell 2
  clear hbk hba HA0 HA1 HA2 HA3 HA4
  obtain ⟨g, hg⟩ : ∃ g, w.heap.size = g := ⟨_, rfl⟩
  rw [hg] at z0 z1 z2 HBK HG
  have hR := Lib.hid (right_li HK.out.1 HK.out.2.1 HK.out.2.2 on oe od)
  obtain ⟨kr, hkr⟩ : ∃ k, keyR (nI n) (nI e) (nI d) = k := ⟨_, rfl⟩
  rw [hkr] at hR
  unfold encR at hr
  rw [hkr] at hr
  have HKR := Lib.hid hkr
  clear hkr
  rcases (show kr = 0 ∨ kr = 50 by rw [← HKR.out]; exact keyR_or _ _ _) with hk | hk
  · have hkz := keyR_zero (HKR.out.trans hk)
    subst hk
    have hN0 : nI n ≠ 0 := by omega
    have hzb := szN_bounds hkz.2.1
    have hz2 : 2 ≤ szN (nI n) := by unfold szN; omega
    rw [if_pos rfl] at hr
    obtain ⟨z, hz⟩ : ∃ z, szN (nI n) = z := ⟨_, rfl⟩
    rw [hz] at hr hzb hz2
    clear hkz
    rw [q3] at hr
    rw [q3] at lt
    have HS := Lib.hid (fun (w' : World) (h : Below wa.heap.size wa w') => size_li (HK.out.1.below h) (HK.out.2.1.below h) (HK.out.2.2.below h) on)
    rw [hz] at HS
    have i1 : IntKind.i64.wrap ((z : Int) - 3) = (z : Int) - 3 := IntWalk.i64_in _ (by omega)
    have i2 : IntKind.i64.wrap ((z : Int) - 3 - (l3 : Int)) = (z : Int) - 3 - (l3 : Int) := IntWalk.i64_in _ (by omega)
    by_cases g1 : (z : Int) - 3 - (l3 : Int) < 8
    · rw [if_pos g1] at hr
      simp only [Prod.mk.injEq] at hr
      obtain ⟨rfl, rfl⟩ := hr
      go_enter Try.func24, Try.ntmps24
      go_wp2_with (first
        | (go_at_call 20; refine hR.out.mono ?_; rintro e_ w1 ⟨rfl, hb1⟩; have y0 := (HBK.out.below hb1 HG.out).cell 0; have y1 := (HBK.out.below hb1 HG.out).cell 1; have y2 := (HBK.out.below hb1 HG.out).cell 2)
        | (go_at_call 17; refine (HS.out _ hb1).mono ?_; rintro e_ w2 ⟨rfl, hb2⟩))
      refine bodyPost_ret (v := .tuple #[.slice none 0 0, .int .i64 51]) (by simp [results, Try.results24, go_sem]) rfl ⟨_, rfl, LI.nil _ _, HB.out.trans ((hb1.trans (hb2.mono hb1.size)).mono HB.out.size)⟩
    · rw [if_neg g1] at hr
      obtain ⟨rm, hrm⟩ : ∃ m : Nat, (z : Int) - 3 - (l3 : Int) = (m : Int) := ⟨((z : Int) - 3 - (l3 : Int)).toNat, by omega⟩
      rw [hrm] at i2 g1
      have hrm2 : z - 3 - l3 = rm := by omega
      rw [hrm2] at hr
      obtain ⟨F, hF⟩ : ∃ F, nz (toN s) = F := ⟨_, rfl⟩
      obtain ⟨m, hm⟩ : ∃ m, F.length = m := ⟨_, rfl⟩
      have hml : m ≤ 2097152 := by rw [← hm, ← hF]; have := nz_le (toN s); rw [toN_length] at this; omega
      have HD := Lib.hid (fun (w' : World) (base : Nat) A c (h : Own .u8 5 w' base A s.length c (toN s)) => del_any w' h ls)
      rw [hF, hm, q4] at HD
      rw [hF, hm] at hr
      have HC := Lib.hid (fun (w' : World) (h : Below wa.heap.size wa w') => clone_li (HT.out.2.below h) os ls)
      rw [q4] at HC
      go_enter Try.func24, Try.ntmps24
      go_upto_region 7 with (first
        | (go_at_call 20; refine hR.out.mono ?_; rintro e_ w1 ⟨rfl, hb1⟩; have y0 := (HBK.out.below hb1 HG.out).cell 0; have y1 := (HBK.out.below hb1 HG.out).cell 1; have y2 := (HBK.out.below hb1 HG.out).cell 2)
        | (go_at_call 17; refine (HS.out _ hb1).mono ?_; rintro e_ w2 ⟨rfl, hb2⟩; have hb12 := hb1.trans (hb2.mono hb1.size))
        | (go_at_call 64; refine (HC.out _ hb12).mono ?_; rintro e_ w3 ⟨A, c, rfl, ho, hb3⟩)
        | (go_at_call 63; refine (HD.out _ _ _ _ ho).mono ?_; rintro e_ w4 ⟨rfl, ho4, hb4⟩))
      have hb14 := hb12.trans ((hb3.trans hb4).mono hb12.size)
      have HO := Lib.hid ho4
      have HB4 := Lib.hid hb14
      have HBK4 := Lib.hid (HBK.out.below hb14 HG.out)
      have HG4 := Lib.hid (Nat.lt_of_lt_of_le HG.out hb14.size)
      have HK4 := Lib.hid (And.intro (HK.out.1.below hb14) (And.intro (HK.out.2.1.below hb14) (HK.out.2.2.below hb14)))
      have HT4 := Lib.hid (HT.out.1.below hb14)
      clear ho ho4 hb1 hb2 hb12 hb3 hb4 hb14 y0 y1 y2 HBK HG HT HC HD hR HS z0 z1 z2
      by_cases g2 : (m : Int) < (rm : Int)
      · rw [if_pos (by omega)] at hr
        simp only [Prod.mk.injEq] at hr
        obtain ⟨rfl, rfl⟩ := hr
        go_wp2_with fail
        refine bodyPost_ret (v := .tuple #[.slice none 0 0, .int .i64 52]) (by simp [results, Try.results24, go_sem]) rfl ⟨_, rfl, LI.nil _ _, HB.out.trans (HB4.out.mono HB.out.size)⟩
      · rw [if_neg (by omega)] at hr
        simp only [Prod.mk.injEq] at hr
        obtain ⟨rfl, rfl⟩ := hr
        have hcap := HO.out.rd.cap
        have hrc : (rm : Int) ≤ (c : Int) := by omega
        have hr0 : (0 : Int) ≤ (rm : Int) := by omega
        go_upto_region 9 with (fail)
        have hBK := HBK4.out
        have hG := HG4.out
        have z0 := fun w' (h : Below w4.heap.size w4 w') => (hBK.below h hG).cell 0
        have z1 := fun w' (h : Below w4.heap.size w4 w') => (hBK.below h hG).cell 1
        have z2 := fun w' (h : Below w4.heap.size w4 w') => (hBK.below h hG).cell 2
        have hrF : Rd .u8 w4 A rm c (F.take rm) := HO.out.rd.take (by omega)
        have hrm3 : rm ≤ 2097152 := by omega
        have hz3 : 3 ≤ z := by omega
        have hz4 : z ≤ 4194304 := by omega
        have hl3 : t.length + 3 ≤ z := by omega
        have hP : NI (padP z 2 (F.take rm) (toN t)) = encP z t s := by unfold encP; rw [hF, q3, hrm2]
        have hPo : okB (encP z t s) := encP_okB ot os
        have hPl : (encP z t s).length ≤ 32768 := by rw [encP_length hl3]; omega
        obtain ⟨P, hPe⟩ : ∃ P, encP z t s = P := ⟨_, rfl⟩
        have HPE := Lib.hid hPe
        rw [hPe] at hP hPo hPl
        clear hPe
        have HPD := Lib.hid (fun (w' : World) (h : Below w4.heap.size w4 w') => padded_li (w := w') z hz3 hz4 (hrF.below h) hrm3 (HT4.out.below h) ot (by omega))
        rw [hP] at HPD
        have HSZ := Lib.hid (fun (w' : World) (h : Below w4.heap.size w4 w') => size_li (HK4.out.1.below h) (HK4.out.2.1.below h) (HK4.out.2.2.below h) on)
        rw [hz] at HSZ
        have HWK := Lib.hid (fun (w' : World) (v : Value) (h : Below w4.heap.size w4 w') (hv : LI .u8 w' v P) => work_li (HK4.out.1.below h) (HK4.out.2.1.below h) (HK4.out.2.2.below h) hv (HK4.out.2.1.below h) on oe hPo hPl hN0)
        clear hrF hP hPo hPl hBK hG
        (refine region_told _ (by kernel_rfl) (by kernel_rfl) (by simp only [putAll, Act.put, List.setIfInBounds_toArray, List.set_cons_zero, List.set_cons_succ, Nat.reduceAdd]; rfl) ?_)
        repeat (refine told_step (fun v _ => v = _) (Stays.eq _) (by intro y w' hw' hd; simp only [depsOf, updG, Region.binds, Nat.reduceAdd, Nat.reduceEqDiff, if_false, if_true, and_true, true_and, forall_const, Array.toList, GTrue] at hd; (try go_split_ands); unfold toldAt; go_simp; exact ⟨Below.refl _ _, rfl⟩) ?_)
        (refine told_step (fun v _ => v = _) (Stays.eq _) (by intro y w' hw' hd; simp only [depsOf, updG, Region.binds, Nat.reduceAdd, Nat.reduceEqDiff, if_false, if_true, and_true, true_and, forall_const, Array.toList, GTrue] at hd; (try go_split_ands); unfold toldAt; go_simp; refine ⟨Below.refl _ _, ?_⟩; exact HSZ.out _ hw') ?_)
        repeat (refine told_step (fun v _ => v = _) (Stays.eq _) (by intro y w' hw' hd; simp only [depsOf, updG, Region.binds, Nat.reduceAdd, Nat.reduceEqDiff, if_false, if_true, and_true, true_and, forall_const, Array.toList, GTrue] at hd; (try go_split_ands); unfold toldAt; go_simp; exact ⟨Below.refl _ _, rfl⟩) ?_)
        (refine told_step (GLI .u8 P) ( GLI.stays _ _) (by intro y w' hw' hd; simp only [depsOf, updG, Region.binds, Nat.reduceAdd, Nat.reduceEqDiff, if_false, if_true, and_true, true_and, forall_const, Array.toList, GTrue] at hd; (try go_split_ands); unfold toldAt; go_simp; refine ⟨Below.refl _ _, ?_⟩;  exact HPD.out _ hw') ?_)
        repeat (refine told_step (fun v _ => v = _) (Stays.eq _) (by intro y w' hw' hd; simp only [depsOf, updG, Region.binds, Nat.reduceAdd, Nat.reduceEqDiff, if_false, if_true, and_true, true_and, forall_const, Array.toList, GTrue] at hd; (try go_split_ands); unfold toldAt; go_simp; exact ⟨Below.refl _ _, rfl⟩) ?_)
        (refine told_step (GLI .u8 (workR (nI n) (nI e) P)) ( GLI.stays _ _) (by intro y w' hw' hd; simp only [depsOf, updG, Region.binds, Nat.reduceAdd, Nat.reduceEqDiff, if_false, if_true, and_true, true_and, forall_const, Array.toList, GTrue] at hd;  obtain ⟨h4, h5, h6⟩ := hd; (try go_split_ands); unfold toldAt; go_simp; refine ⟨Below.refl _ _, ?_⟩; exact HWK.out _ _ hw' h5) ?_)
        (refine told_step (GLI .u8 (workR (nI n) (nI e) P)) ( GLI.stays _ _) (by intro y w' hw' hd; simp only [depsOf, updG, Region.binds, Nat.reduceAdd, Nat.reduceEqDiff, if_false, if_true, and_true, true_and, forall_const, Array.toList, GTrue] at hd;  obtain ⟨h10, h11⟩ := hd; unfold toldAt; go_simp; first | exact Below.refl _ _ | exact ⟨Below.refl _ _, h10⟩) ?_)
        (refine told_step (fun v _ => v = _) (Stays.eq _) (by intro y w' hw' hd; simp only [depsOf, updG, Region.binds, Nat.reduceAdd, Nat.reduceEqDiff, if_false, if_true, and_true, true_and, forall_const, Array.toList, GTrue] at hd; (try go_split_ands); unfold toldAt; go_simp; exact ⟨Below.refl _ _, rfl⟩) ?_)
        refine told_nil ?_
        intro y w' hw' hd
        have h11 := hd 11 (by decide)
        have h12 := hd 12 (by decide)
        simp only [updG, Nat.reduceAdd, Nat.reduceEqDiff, if_false, if_true] at h11 h12
        rw [h12]
        go_wp2_with fail
        refine bodyPost_ret (v := .tuple #[y 11, .int .i64 0]) (by simp [results, Try.results24, go_sem]) rfl ⟨_, rfl, by rw [HPE.out]; exact h11, by first | exact HB.out.trans ((HB4.out.trans (hw'.mono HB4.out.size)).mono HB.out.size) | (rw [← hg]; exact HB.out.trans ((HB4.out.trans (hw'.mono HB4.out.size)).mono HB.out.size))⟩
  · subst hk
    simp only [show ¬ ((50 : Int) = 0) by omega, if_false, Prod.mk.injEq] at hr
    obtain ⟨rfl, rfl⟩ := hr
    go_enter Try.func24, Try.ntmps24
    go_wp2_with (go_at_call 20; refine hR.out.mono ?_; rintro e_ w1 ⟨rfl, hb1⟩)
    refine bodyPost_ret (v := .tuple #[.slice none 0 0, .int .i64 50]) (by simp [results, Try.results24, go_sem]) rfl ⟨_, rfl, LI.nil _ _, HB.out.trans (hb1.mono HB.out.size)⟩
end
end Go.Proofs.Ytdmglajfmfjmlaa
