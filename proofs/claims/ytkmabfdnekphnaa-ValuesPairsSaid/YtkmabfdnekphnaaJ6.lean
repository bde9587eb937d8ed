/- What is signed of a value. -/
import Derived.Test.YtkmabfdnekphnaaJ5
import Derived.Laws.CopyOwn
import Derived.Laws.MakeOwn
namespace Go.Proofs.Ytkmabfdnekphnaa
set_option linter.unusedSimpArgs false
set_option linter.unusedVariables false
set_option maxRecDepth 100000
open Go.RowKit
attribute [local go_sem] toldUpon_value toldUpon_skip toldUpon_enter

theorem run_mkb (n : Nat) (hn : n ≤ 4194304) (w : World) : (Instr.makeSlice 23 (.int .i64 (n : Int)) (.int .i64 (n : Int))).run Try.prog w = .ok (.slice (some ⟨w.heap.size, 0, none⟩) n n) (w.alloc (.cells (va .u8 (List.replicate n 0)) 5)) := by
  obtain ⟨i0, hi0, hz0, hz1, hz2⟩ := info_parts info_u8
  have h := run_make (P := Try.prog) w 23 5 i0 (.int .u8 0) Try.underlying23 hi0 hz0 .i64 .i64 n n (by omega) (by omega) (by rw [hz2]; omega) (by omega)
  rw [h, hz1]
  simp only [Int.toNat_natCast, Nat.mul_one]
  rw [show (Value.int IntKind.u8 0).cells = #[.int .u8 0] from rfl, made_va]
theorem size_u8 : (Try.prog.info? 5).map (·.size) = some 1 := by kernel_rfl
theorem run_index3 (a b c : Int) (w : World) : (Instr.index 72 (.agg #[.int .u32 a, .int .u32 b, .int .u32 c]) (.int .i64 0)).run Try.prog w = .ok (.int .u32 a) w ∧ (Instr.index 72 (.agg #[.int .u32 a, .int .u32 b, .int .u32 c]) (.int .i64 1)).run Try.prog w = .ok (.int .u32 b) w ∧ (Instr.index 72 (.agg #[.int .u32 a, .int .u32 b, .int .u32 c]) (.int .i64 2)).run Try.prog w = .ok (.int .u32 c) w := by
  refine ⟨?_, ?_, ?_⟩
  all_goals simp [Instr.index, asIntOf, run_underlying Try.underlying72, part, go_sem]
def sigN (v : Vl) : List Nat := fourN v.ts ++ (fourN v.fs ++ (fourN v.n ++ v.ds))
/-- the row so far: k words are in -/
def sg (v : Vl) (k : Nat) : List Nat := (fourN v.ts ++ (fourN v.fs ++ fourN v.n)).take (4 * k) ++ List.replicate (12 + v.n - 4 * k) 0
theorem sg_step0 (v : Vl) : splice (vs .u8 (sg v 0)) 0 (vs .u8 (fourN v.ts)) = vs .u8 (sg v 1) := by
  unfold sg splice fourN
  rw [show 12 + v.n - 4 * 0 = (8 + v.n) + 4 by omega, show 12 + v.n - 4 * 1 = 8 + v.n by omega]
  simp [vs, List.replicate_succ]
theorem sg_step1 (v : Vl) : splice (vs .u8 (sg v 1)) 4 (vs .u8 (fourN v.fs)) = vs .u8 (sg v 2) := by
  unfold sg splice fourN
  rw [show 12 + v.n - 4 * 1 = (4 + v.n) + 4 by omega, show 12 + v.n - 4 * 2 = 4 + v.n by omega]
  simp [vs, List.replicate_succ]
theorem sg_step2 (v : Vl) : splice (vs .u8 (sg v 2)) 8 (vs .u8 (fourN v.n)) = vs .u8 (sg v 3) := by
  unfold sg splice fourN
  rw [show 12 + v.n - 4 * 2 = v.n + 4 by omega, show 12 + v.n - 4 * 3 = v.n by omega]
  simp [vs, List.replicate_succ]
theorem sg_end (v : Vl) (h : v.ds.length = v.n) : splice (vs .u8 (sg v 3)) 12 (vs .u8 v.ds) = vs .u8 (sigN v) := by
  unfold sg splice fourN sigN fourN
  rw [show 12 + v.n - 4 * 3 = v.n by omega]
  simp [vs, h]
  omega
set_option maxHeartbeats 2000000 in
theorem signed_any (w : World) (v : Vl) (h : VR w v) (hn : v.n ≤ 1000000) : Calls Try.prog 25 #[vv v] w (ROWu8 (sigN v) (12 + v.n) w) := by
  have hA : Rd .u8 w v.A v.n v.c v.ds := h.1
  have h1 := h.2.2.1
  have h2 := h.2.2.2.1
  have HSG := Lib.hid (show sigN v = fourN v.ts ++ (fourN v.fs ++ (fourN v.n ++ v.ds)) from rfl)
  have HSK := Lib.hid (show ∀ k, sg v k = (fourN v.ts ++ (fourN v.fs ++ fourN v.n)).take (4 * k) ++ List.replicate (12 + v.n - 4 * k) 0 from fun _ => rfl)
  have HS := Lib.hid (And.intro (sg_step0 v) (And.intro (sg_step1 v) (And.intro (sg_step2 v) (sg_end v h.1.len))))
  generalize sigN v = SG at HSG HS ⊢
  generalize sg v = SK at HSK HS
  obtain ⟨ts, fs, A, n, c, ds, B, m, d, ss⟩ := v
  have hW1 := fun w => word_any w ts h1
  have hW2 := fun w => word_any w fs h2
  replace hn : n ≤ 1000000 := hn
  have hW3 := fun w => word_any w n (by omega)
  have HA := Lib.hid hA
  have i0 : IntKind.i64.wrap (12 + (n : Int)) = 12 + (n : Int) := IntWalk.i64_in _ (by omega)
  have i1 : IntKind.u32.wrap (n : Int) = (n : Int) := by rw [IntKind.wrap_u32]; omega
  have hmk := fun w => run_mkb (12 + n) (by omega) w
  simp only [show ((12 + n : Nat) : Int) = 12 + (n : Int) by omega] at hmk
  clear h hA
  unfold vv
  go_enter Try.func25, Try.ntmps25
  go_upto_region 2 with (fail)
  obtain ⟨w1, hw1⟩ : ∃ x, (w.alloc (.cells #[.int .u32 (ts : Int), .int .u32 (fs : Int), .slice A n c, .slice B m d] 25)).alloc (.cells (va .u8 (List.replicate (12 + n) 0)) 5) = x := ⟨_, rfl⟩
  have hb1 : Below w.heap.size w w1 := by rw [← hw1]; exact ((Below.refl _ _).alloc (Nat.le_refl _) _).alloc (by simp) _
  have k1 : Bk w1 w.heap.size 25 #[.int .u32 (ts : Int), .int .u32 (fs : Int), .slice A n c, .slice B m d] := by rw [← hw1]; exact (Bk.new w _ _).alloc _
  have k2 : Bk w1 (w.heap.size + 1) 5 (va .u8 (List.replicate (12 + n) 0)) := by rw [← hw1]; exact Bk.at_new _ _ (by simp)
  have c0 := k1.cell 0
  have c1 := k1.cell 1
  have c2 := k1.cell 2
  rw [hw1]
  have K1 := Lib.hid k1
  have K2 := Lib.hid k2
  have HB1 := Lib.hid hb1
  have hs1 : w.heap.size + 1 < w1.heap.size := k2.lt
  clear hw1 k1 k2 hb1 hmk i0
  go_wp2_with fail
  clear c0 c1 c2
  go_loopw [4, 5, 6, 21] (fun _ _ _ i wr => ∃ (k : Nat), k ≤ 3 ∧ i = .int .i64 (k : Int) ∧ Bk wr (w.heap.size + 1) 5 (va .u8 (SK k)) ∧ Bk wr w.heap.size 25 #[.int .u32 (ts : Int), .int .u32 (fs : Int), .slice A n c, .slice B m d] ∧ Below w.heap.size w wr) (fun _ _ _ i _ => 3 - (intOf i).toNat)
  case atStart => exact ⟨0, Nat.zero_le _, rfl, by rw [HSK.out]; simpa using K2.out, K1.out, HB1.out⟩
  case round =>
    obtain ⟨k, hk, rfl, hbk, hbv, hbel⟩ := hrel
    have hsz := hbel.size
    have hglt := hbk.lt
    have HBK := Lib.hid hbk
    have HBV := Lib.hid hbv
    have HBEL := Lib.hid hbel
    clear hbk hbv hbel K1 K2 HB1
    rcases (show k = 0 ∨ k = 1 ∨ k = 2 ∨ k = 3 by omega) with rfl | rfl | rfl | rfl
    · skip
      have hix := fun w => run_index3 (ts : Int) (fs : Int) (n : Int) w
      have hix1 := (hix wr).1
      obtain ⟨b0, b1, b2, b3, eb, vb⟩ := four_form ts
      have hw := hW1
      rw [vb] at hw
      have HE := Lib.hid eb
      clear vb eb hW1 hW2 hW3 hix
      go_upto_region 6 with (go_at_call 31; refine (hw _).mono ?_; rintro e w2 ⟨rfl, hb2⟩)
      obtain ⟨w3, hw3⟩ : ∃ q, w2.alloc (.cells #[.int .u8 (b0 : Int), .int .u8 (b1 : Int), .int .u8 (b2 : Int), .int .u8 (b3 : Int)] 68) = q := ⟨_, rfl⟩
      have hb3 : Below w2.heap.size w2 w3 := by rw [← hw3]; exact (Below.refl _ _).alloc (Nat.le_refl _) _
      have k3 : Bk w3 w2.heap.size 68 #[.int .u8 (b0 : Int), .int .u8 (b1 : Int), .int .u8 (b2 : Int), .int .u8 (b3 : Int)] := by rw [← hw3]; exact Bk.new w2 _ _
      rw [hw3]
      have hbb := hb2.trans (hb3.mono hb2.size)
      have HBB := Lib.hid hbb
      have K3 := Lib.hid k3
      have hne : w.heap.size + 1 < w2.heap.size := Nat.lt_of_lt_of_le hglt hb2.size
      have l0 : (0 : Int) ≤ (n : Int) := by omega
      have i4 : IntKind.i64.wrap 0 = 0 := by decide
      have lo : (0 : Int) ≤ 12 + (n : Int) := by omega
      have qo : ¬ 12 + n = 0 := by omega
      clear hw3 hb2 hb3 hbb k3 hw
      (refine region_told_tail 5 _ (by kernel_rfl) (by kernel_rfl) (by simp only [List.take_succ_cons, List.take_zero, putAll, Act.put, List.setIfInBounds_toArray, List.set_cons_zero, List.set_cons_succ, Nat.reduceAdd]; rfl) ?_; simp only [List.take_succ_cons, List.take_zero, List.drop_succ_cons, List.drop_zero])
      iterate 5 (refine told_step (fun v _ => v = _) (Stays.eq _) (by intro y w' hw' hd; simp only [depsOf, updG, Region.binds, Nat.reduceAdd, Nat.reduceEqDiff, if_false, if_true, and_true, true_and, forall_const, Array.toList, GTrue] at hd; (try go_split_ands); unfold toldAt; go_simp; exact ⟨Below.refl _ _, rfl⟩) ?_)
      (refine told_nil ?_; intro y w4 hw4 hd)
      have e3 : y 3 = .slice (some ⟨w.heap.size + 1, 0, none⟩) (12 + n - 0) (12 + n - 0) := hd 3 (by decide)
      have e4 : y 4 = .slice (some ⟨w2.heap.size, 0, none⟩) 4 4 := hd 4 (by decide)
      rw [e3, e4]
      have hb4 := HBB.out.trans (hw4.mono HBB.out.size)
      have hbk4 := HBK.out.below hb4 HBK.out.lt
      have hbv4 := HBV.out.below hb4 HBV.out.lt
      have hk4 := (K3.out.below hw4 K3.out.lt)
      have hrd := bk_rd4 hk4
      clear hd e3 e4
      refine wpList_copy_splice rfl (.tmp 30) (.tmp 31) 23 23 rfl 5 Try.underlying23 size_u8 (some ⟨w.heap.size + 1, 0, none⟩) (some ⟨w2.heap.size, 0, none⟩) (12 + n - 0) (12 + n - 0) 4 4 rfl rfl (w.heap.size + 1) 0 (vs .u8 (SK 0)) 5 hbk4 (vs .u8 [b0, b1, b2, b3]) (by rw [vs_length]; show 4 = min 4 (12 + n - 0); omega) (fun _ => ⟨rfl, _, rfl, hrd.cells rfl⟩) (by rw [vs_length, vs_length, HSK.out 0]; simp [fourN]; omega) (vs_one _ _) (w.heap.size + 1) wr (hb4.mono (Nat.le_of_lt hglt)) (Nat.le_refl _) ?_
      intro w5 hbk5 hb5
      have hk5 : Bk w5 (w.heap.size + 1) 5 (va .u8 (SK (0 + 1))) := by
        have hq := hbk5.out
        rw [← HE.out, HS.out.1] at hq
        exact hq
      have hv5 : Bk w5 w.heap.size 25 #[.int .u32 (ts : Int), .int .u32 (fs : Int), .slice A n c, .slice B m d] := (hb5.block _ (Nat.lt_succ_self _)).trans (HBV.out)
      have HW5 := Lib.hid (And.intro hk5 (And.intro hv5 (HBEL.out.trans (hb5.mono (Nat.le_succ _)))))
      clear hbk5 hb5 hk5 hv5 hb4 hbk4 hbv4 hk4 hrd hw4
      go_wp2_with fail
      go_roundw
      case rel => exact ⟨0 + 1, by omega, rfl, HW5.out.1, HW5.out.2.1, HW5.out.2.2⟩
      case measure => simp [intOf]
    · skip
      have hix := fun w => run_index3 (ts : Int) (fs : Int) (n : Int) w
      have hix1 := (hix wr).2.1
      obtain ⟨b0, b1, b2, b3, eb, vb⟩ := four_form fs
      have hw := hW2
      rw [vb] at hw
      have HE := Lib.hid eb
      clear vb eb hW1 hW2 hW3 hix
      go_upto_region 6 with (go_at_call 31; refine (hw _).mono ?_; rintro e w2 ⟨rfl, hb2⟩)
      obtain ⟨w3, hw3⟩ : ∃ q, w2.alloc (.cells #[.int .u8 (b0 : Int), .int .u8 (b1 : Int), .int .u8 (b2 : Int), .int .u8 (b3 : Int)] 68) = q := ⟨_, rfl⟩
      have hb3 : Below w2.heap.size w2 w3 := by rw [← hw3]; exact (Below.refl _ _).alloc (Nat.le_refl _) _
      have k3 : Bk w3 w2.heap.size 68 #[.int .u8 (b0 : Int), .int .u8 (b1 : Int), .int .u8 (b2 : Int), .int .u8 (b3 : Int)] := by rw [← hw3]; exact Bk.new w2 _ _
      rw [hw3]
      have hbb := hb2.trans (hb3.mono hb2.size)
      have HBB := Lib.hid hbb
      have K3 := Lib.hid k3
      have hne : w.heap.size + 1 < w2.heap.size := Nat.lt_of_lt_of_le hglt hb2.size
      have l0 : (0 : Int) ≤ (n : Int) := by omega
      have i4 : IntKind.i64.wrap 4 = 4 := by decide
      have lo : (4 : Int) ≤ 12 + (n : Int) := by omega
      have qo : ¬ 12 + n = 4 := by omega
      clear hw3 hb2 hb3 hbb k3 hw
      (refine region_told_tail 5 _ (by kernel_rfl) (by kernel_rfl) (by simp only [List.take_succ_cons, List.take_zero, putAll, Act.put, List.setIfInBounds_toArray, List.set_cons_zero, List.set_cons_succ, Nat.reduceAdd]; rfl) ?_; simp only [List.take_succ_cons, List.take_zero, List.drop_succ_cons, List.drop_zero])
      iterate 5 (refine told_step (fun v _ => v = _) (Stays.eq _) (by intro y w' hw' hd; simp only [depsOf, updG, Region.binds, Nat.reduceAdd, Nat.reduceEqDiff, if_false, if_true, and_true, true_and, forall_const, Array.toList, GTrue] at hd; (try go_split_ands); unfold toldAt; go_simp; exact ⟨Below.refl _ _, rfl⟩) ?_)
      (refine told_nil ?_; intro y w4 hw4 hd)
      have e3 : y 3 = .slice (some ⟨w.heap.size + 1, 4, none⟩) (12 + n - 4) (12 + n - 4) := hd 3 (by decide)
      have e4 : y 4 = .slice (some ⟨w2.heap.size, 0, none⟩) 4 4 := hd 4 (by decide)
      rw [e3, e4]
      have hb4 := HBB.out.trans (hw4.mono HBB.out.size)
      have hbk4 := HBK.out.below hb4 HBK.out.lt
      have hbv4 := HBV.out.below hb4 HBV.out.lt
      have hk4 := (K3.out.below hw4 K3.out.lt)
      have hrd := bk_rd4 hk4
      clear hd e3 e4
      refine wpList_copy_splice rfl (.tmp 30) (.tmp 31) 23 23 rfl 5 Try.underlying23 size_u8 (some ⟨w.heap.size + 1, 4, none⟩) (some ⟨w2.heap.size, 0, none⟩) (12 + n - 4) (12 + n - 4) 4 4 rfl rfl (w.heap.size + 1) 4 (vs .u8 (SK 1)) 5 hbk4 (vs .u8 [b0, b1, b2, b3]) (by rw [vs_length]; show 4 = min 4 (12 + n - 4); omega) (fun _ => ⟨rfl, _, rfl, hrd.cells rfl⟩) (by rw [vs_length, vs_length, HSK.out 1]; simp [fourN]; omega) (vs_one _ _) (w.heap.size + 1) wr (hb4.mono (Nat.le_of_lt hglt)) (Nat.le_refl _) ?_
      intro w5 hbk5 hb5
      have hk5 : Bk w5 (w.heap.size + 1) 5 (va .u8 (SK (1 + 1))) := by
        have hq := hbk5.out
        rw [← HE.out, HS.out.2.1] at hq
        exact hq
      have hv5 : Bk w5 w.heap.size 25 #[.int .u32 (ts : Int), .int .u32 (fs : Int), .slice A n c, .slice B m d] := (hb5.block _ (Nat.lt_succ_self _)).trans (HBV.out)
      have HW5 := Lib.hid (And.intro hk5 (And.intro hv5 (HBEL.out.trans (hb5.mono (Nat.le_succ _)))))
      clear hbk5 hb5 hk5 hv5 hb4 hbk4 hbv4 hk4 hrd hw4
      go_wp2_with fail
      go_roundw
      case rel => exact ⟨1 + 1, by omega, rfl, HW5.out.1, HW5.out.2.1, HW5.out.2.2⟩
      case measure => simp [intOf]
    · skip
      have hix := fun w => run_index3 (ts : Int) (fs : Int) (n : Int) w
      have hix1 := (hix wr).2.2
      obtain ⟨b0, b1, b2, b3, eb, vb⟩ := four_form n
      have hw := hW3
      rw [vb] at hw
      have HE := Lib.hid eb
      clear vb eb hW1 hW2 hW3 hix
      go_upto_region 6 with (go_at_call 31; refine (hw _).mono ?_; rintro e w2 ⟨rfl, hb2⟩)
      obtain ⟨w3, hw3⟩ : ∃ q, w2.alloc (.cells #[.int .u8 (b0 : Int), .int .u8 (b1 : Int), .int .u8 (b2 : Int), .int .u8 (b3 : Int)] 68) = q := ⟨_, rfl⟩
      have hb3 : Below w2.heap.size w2 w3 := by rw [← hw3]; exact (Below.refl _ _).alloc (Nat.le_refl _) _
      have k3 : Bk w3 w2.heap.size 68 #[.int .u8 (b0 : Int), .int .u8 (b1 : Int), .int .u8 (b2 : Int), .int .u8 (b3 : Int)] := by rw [← hw3]; exact Bk.new w2 _ _
      rw [hw3]
      have hbb := hb2.trans (hb3.mono hb2.size)
      have HBB := Lib.hid hbb
      have K3 := Lib.hid k3
      have hne : w.heap.size + 1 < w2.heap.size := Nat.lt_of_lt_of_le hglt hb2.size
      have l0 : (0 : Int) ≤ (n : Int) := by omega
      have i4 : IntKind.i64.wrap 8 = 8 := by decide
      have lo : (8 : Int) ≤ 12 + (n : Int) := by omega
      have qo : ¬ 12 + n = 8 := by omega
      clear hw3 hb2 hb3 hbb k3 hw
      (refine region_told_tail 5 _ (by kernel_rfl) (by kernel_rfl) (by simp only [List.take_succ_cons, List.take_zero, putAll, Act.put, List.setIfInBounds_toArray, List.set_cons_zero, List.set_cons_succ, Nat.reduceAdd]; rfl) ?_; simp only [List.take_succ_cons, List.take_zero, List.drop_succ_cons, List.drop_zero])
      iterate 5 (refine told_step (fun v _ => v = _) (Stays.eq _) (by intro y w' hw' hd; simp only [depsOf, updG, Region.binds, Nat.reduceAdd, Nat.reduceEqDiff, if_false, if_true, and_true, true_and, forall_const, Array.toList, GTrue] at hd; (try go_split_ands); unfold toldAt; go_simp; exact ⟨Below.refl _ _, rfl⟩) ?_)
      (refine told_nil ?_; intro y w4 hw4 hd)
      have e3 : y 3 = .slice (some ⟨w.heap.size + 1, 8, none⟩) (12 + n - 8) (12 + n - 8) := hd 3 (by decide)
      have e4 : y 4 = .slice (some ⟨w2.heap.size, 0, none⟩) 4 4 := hd 4 (by decide)
      rw [e3, e4]
      have hb4 := HBB.out.trans (hw4.mono HBB.out.size)
      have hbk4 := HBK.out.below hb4 HBK.out.lt
      have hbv4 := HBV.out.below hb4 HBV.out.lt
      have hk4 := (K3.out.below hw4 K3.out.lt)
      have hrd := bk_rd4 hk4
      clear hd e3 e4
      refine wpList_copy_splice rfl (.tmp 30) (.tmp 31) 23 23 rfl 5 Try.underlying23 size_u8 (some ⟨w.heap.size + 1, 8, none⟩) (some ⟨w2.heap.size, 0, none⟩) (12 + n - 8) (12 + n - 8) 4 4 rfl rfl (w.heap.size + 1) 8 (vs .u8 (SK 2)) 5 hbk4 (vs .u8 [b0, b1, b2, b3]) (by rw [vs_length]; show 4 = min 4 (12 + n - 8); omega) (fun _ => ⟨rfl, _, rfl, hrd.cells rfl⟩) (by rw [vs_length, vs_length, HSK.out 2]; simp [fourN]; omega) (vs_one _ _) (w.heap.size + 1) wr (hb4.mono (Nat.le_of_lt hglt)) (Nat.le_refl _) ?_
      intro w5 hbk5 hb5
      have hk5 : Bk w5 (w.heap.size + 1) 5 (va .u8 (SK (2 + 1))) := by
        have hq := hbk5.out
        rw [← HE.out, HS.out.2.2.1] at hq
        exact hq
      have hv5 : Bk w5 w.heap.size 25 #[.int .u32 (ts : Int), .int .u32 (fs : Int), .slice A n c, .slice B m d] := (hb5.block _ (Nat.lt_succ_self _)).trans (HBV.out)
      have HW5 := Lib.hid (And.intro hk5 (And.intro hv5 (HBEL.out.trans (hb5.mono (Nat.le_succ _)))))
      clear hbk5 hb5 hk5 hv5 hb4 hbk4 hbv4 hk4 hrd hw4
      go_wp2_with fail
      go_roundw
      case rel => exact ⟨2 + 1, by omega, rfl, HW5.out.1, HW5.out.2.1, HW5.out.2.2⟩
      case measure => simp [intOf]
    · clear hW1 hW2 hW3
      go_upto_region 8 with (fail)
      have C2 : ∀ w', Below wr.heap.size wr w' → w'.cell? ⟨w.heap.size, 2, none⟩ = some (.slice A n c) := fun w' h => (HBV.out.below h HBV.out.lt).cell 2
      have i4 : IntKind.i64.wrap 12 = 12 := by decide
      have lo : (12 : Int) ≤ 12 + (n : Int) := by omega
      have l0 : (0 : Int) ≤ (n : Int) := by omega
      (refine region_told_tail 4 _ (by kernel_rfl) (by kernel_rfl) (by simp only [List.take_succ_cons, List.take_zero, putAll, Act.put, List.setIfInBounds_toArray, List.set_cons_zero, List.set_cons_succ, Nat.reduceAdd]; rfl) ?_; simp only [List.take_succ_cons, List.take_zero, List.drop_succ_cons, List.drop_zero])
      iterate 4 (refine told_step (fun v _ => v = _) (Stays.eq _) (by intro y w' hw' hd; simp only [depsOf, updG, Region.binds, Nat.reduceAdd, Nat.reduceEqDiff, if_false, if_true, and_true, true_and, forall_const, Array.toList, GTrue] at hd; (try go_split_ands); unfold toldAt; go_simp; exact ⟨Below.refl _ _, rfl⟩) ?_)
      (refine told_nil ?_; intro y w4 hw4 hd)
      have e1 : y 1 = .slice (if n = 0 then some ⟨w.heap.size + 1, 0, none⟩ else some ⟨w.heap.size + 1, 12, none⟩) n n := hd 1 (by decide)
      have e3 : y 3 = .slice A n c := hd 3 (by decide)
      rw [e1, e3]
      have hbk4 := HBK.out.below hw4 HBK.out.lt
      have hrd := HA.out.below (HBEL.out.trans (hw4.mono hsz))
      have hld := hrd.len
      clear hd e1 e3
      refine wpList_copy_splice rfl (.tmp 35) (.tmp 37) 23 23 rfl 5 Try.underlying23 size_u8 (if n = 0 then some ⟨w.heap.size + 1, 0, none⟩ else some ⟨w.heap.size + 1, 12, none⟩) A n n n c rfl rfl (w.heap.size + 1) 12 (vs .u8 (SK 3)) 5 hbk4 (vs .u8 ds) (by rw [vs_length, hld]; exact (Nat.min_self n).symm) (fun h0 => ⟨if_neg (by rw [vs_length] at h0; omega), by obtain ⟨ad, h1, _⟩ := hrd.form (by rw [vs_length] at h0; omega); exact ⟨ad, h1, hrd.cells h1⟩⟩) (by rw [vs_length, vs_length, HSK.out 3]; simp [fourN]; omega) (vs_one _ _) (w.heap.size + 1) wr (hw4.mono (Nat.le_of_lt hglt)) (Nat.le_refl _) ?_
      intro w5 hbk5 hb5
      generalize (if n = 0 then some (⟨w.heap.size + 1, 0, none⟩ : Addr) else some ⟨w.heap.size + 1, 12, none⟩) = dp
      have hk5 : Bk w5 (w.heap.size + 1) 5 (va .u8 SG) := by
        have hq := hbk5.out
        rw [HS.out.2.2.2] at hq
        exact hq
      have hb5' := HBEL.out.trans (hb5.mono (Nat.le_succ _))
      have hln : SG.length = 12 + n := by
        have h1 := congrArg List.length HSG.out
        simp only [List.length_append, fourN, List.length_cons, List.length_nil] at h1
        omega
      have HF := Lib.hid (And.intro hk5 (And.intro hb5' hln))
      clear hbk5 hb5 hk5 hb5' hln hbk4 hrd hw4
      go_wp2_with fail
      go_ret
      exact ⟨_, _, rfl, Own.of_bk HF.out.1 (Nat.le_succ _) HF.out.2.2 (by omega), HF.out.2.1⟩
end Go.Proofs.Ytkmabfdnekphnaa
