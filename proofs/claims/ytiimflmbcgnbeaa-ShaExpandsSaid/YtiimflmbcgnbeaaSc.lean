/- A region that draws its order and whose calls only make memory: one walk, over all worlds in which the old memory stands. -/
import Derived.Test.YtiimflmbcgnbeaaSb
import Derived.Test.YtiimflmbcgnbeaaEq

namespace Go.Proofs.Ytiimflmbcgnbeaa
set_option linter.unusedSimpArgs false
set_option linter.unusedVariables false
open Go.RowKit

def abcN : List Nat := [97, 98, 99]
set_option maxRecDepth 100000 in
theorem sha_nil0 : gd (shaN []) 0 = 227 := by decide +kernel
set_option maxRecDepth 100000 in
theorem sha_nil3 : gd (shaN []) 3 = 66 := by decide +kernel
set_option maxRecDepth 100000 in
theorem sha_abc0 : gd (shaN abcN) 0 = 186 := by decide +kernel
set_option maxRecDepth 100000 in
theorem sha_abc1 : gd (shaN abcN) 1 = 120 := by decide +kernel
theorem abc_b8 : B8 abcN := B8.cons (by omega) (B8.cons (by omega) (B8.cons (by omega) B8.nil))

theorem abc_len : abcN.length = 3 := rfl
theorem conv_abc (w : World) : (do let v ← convert 22 22 (.slice (some ⟨w.heap.size, 0, none⟩) 3 3); pure (Next.value v)).run Try.prog (w.alloc (.cells (va .u8 abcN) 5)) = .ok (Next.value (.slice (some ⟨w.heap.size, 0, none⟩) 3 3)) (w.alloc (.cells (va .u8 abcN) 5 (3, 4))) := by
  rw [Sem.run_bind, Lib.run_convert_bytes_const w 22 5 (va .u8 abcN) 3 3 Try.underlying22 Try.underlying5]
  rfl
theorem run_eq32 (w : World) {xs ys : List Nat} (hx : xs.length = 32) (hy : ys.length = 32) : (Op.equalIn 10000 26 (.agg (va .u8 xs)) (.agg (va .u8 ys))).run Try.prog w = .ok (decide (xs = ys)) w := by
  obtain ⟨i0, hi0, _⟩ := info_parts u8_info
  exact run_eqArray w 9998 32 .u8 Try.underlying26 hi0 (by kernel_rfl) Try.underlying5 (by kernel_rfl) hx hy
theorem eq32_guard : Try.prog.eqGuardType Try.prog.depth 26 = false := by kernel_rfl
theorem len_below (w : World) {g base : Nat} {m : List Nat} (h : HS w g base m) : Calls Try.prog 25 #[.pointer (some ⟨g, 0, none⟩)] w fun e w' => e = .returned (.int .i64 (m.length : Int)) ∧ Below w.heap.size w w' := by
  refine (len_any w h).mono ?_
  rintro e w' ⟨rfl, rfl⟩
  exact ⟨rfl, Below.refl _ _⟩
theorem new_hs (w : World) (base : Nat) : Calls Try.prog 22 #[] w fun e w' => e = .returned (.pointer (some ⟨w.heap.size, 0, none⟩)) ∧ HS w' w.heap.size base [] ∧ Below w.heap.size w w' := by
  refine (new_any w).mono ?_
  rintro e w' ⟨rfl, rfl⟩
  exact ⟨rfl, HS.new w base, (Below.refl _ _).alloc (Nat.le_refl _) _⟩
theorem alive_any (w : World) : Calls Try.prog 18 #[] w fun e w' => e = .returned (.bool true) ∧ Below w.heap.size w w' := by
  obtain ⟨D0, hD0⟩ : ∃ z, shaN [] = z := ⟨_, rfl⟩
  have d0 := sha_nil0
  have d3 := sha_nil3
  have hp0 := pkgSum_any w (Rd.nil .u8 w none 0) B8.nil (by simp) (fun _ h => by cases h)
  obtain ⟨D1, hD1⟩ : ∃ z, shaN abcN = z := ⟨_, rfl⟩
  have e0 := sha_abc0
  have e1 := sha_abc1
  have l0 := shaN_length []
  have l1 := shaN_length abcN
  rw [hD0] at d0 d3 hp0 l0
  rw [hD1] at e0 e1 l1
  rw [List.length_nil] at hp0
  go_enter Try.func18, Try.ntmps18
  go_upto_region 1 with (fail)
  refine wp_region_lit ?_
  refine wpl_call rfl (w' := w) (f := 20) (args := #[.slice none 0 0]) (by kernel_rfl) hp0 ?_
  rintro e w1 ⟨rfl, hb1⟩
  refine ⟨_, rfl, ?_⟩
  (refine wpList_plain rfl (fun K hK => ?_); go_simp; refine hK _ _ ?_; clear hK K)
  rw [show Obj.cells #[.int .u8 97, .int .u8 98, .int .u8 99] 5 = Obj.cells (va .u8 abcN) 5 from rfl]
  refine wpl_val rfl (v := .slice (some ⟨w1.heap.size, 0, none⟩) 3 3) (w' := w1.alloc (.cells (va .u8 abcN) 5 (3, 4))) ?_ ?_
  · exact conv_abc w1
  have hr : Rd .u8 (w1.alloc (.cells (va .u8 abcN) 5 (3, 4))) (some ⟨w1.heap.size, 0, none⟩) abcN.length 3 abcN := rd_marked w1 .u8 abcN 3 rfl (by omega) _ _
  have hl1 := hb1.alloc hb1.size (.cells (va .u8 abcN) 5 (3, 4))
  have hlt : w1.heap.size < (w1.alloc (.cells (va .u8 abcN) 5 (3, 4))).heap.size := by simp
  generalize w1.alloc (.cells (va .u8 abcN) 5 (3, 4)) = w2 at hr hl1 hlt ⊢
  have hpk := pkgSum_any w2 hr abc_b8 (by rw [abc_len]; omega) (fun ad h => by cases h; exact hlt)
  rw [abc_len, hD1] at hpk
  refine wpl_call rfl (w' := w2) (f := 20) (args := #[.slice (some ⟨w1.heap.size, 0, none⟩) 3 3]) (by kernel_rfl) hpk ?_
  rintro e w3 ⟨rfl, hb3⟩
  refine ⟨_, rfl, ?_⟩
  (refine wpList_plain rfl (fun K hK => ?_); go_simp; refine hK _ _ ?_; clear hK K)
  (refine wpList_plain rfl (fun K hK => ?_); go_simp; refine hK _ _ ?_; clear hK K)
  rw [show Obj.cells #[.int .u8 0, .int .u8 0, .int .u8 0, .int .u8 0, .int .u8 0, .int .u8 0, .int .u8 0, .int .u8 0, .int .u8 0, .int .u8 0, .int .u8 0, .int .u8 0, .int .u8 0, .int .u8 0, .int .u8 0, .int .u8 0, .int .u8 0, .int .u8 0, .int .u8 0, .int .u8 0, .int .u8 0, .int .u8 0, .int .u8 0, .int .u8 0, .int .u8 0, .int .u8 0, .int .u8 0, .int .u8 0, .int .u8 0, .int .u8 0, .int .u8 0, .int .u8 0] 26 = Obj.cells (va .u8 (List.replicate 32 0)) 26 from rfl]
  have ho1 := Bk.new w3 26 (va .u8 (List.replicate 32 0))
  have hb3' : Below w.heap.size w w3 := hl1.trans (hb3.mono hl1.size)
  have hl3 := hb3'.alloc hb3'.size (.cells (va .u8 (List.replicate 32 0)) 26)
  have hs3 : (w3.alloc (.cells (va .u8 (List.replicate 32 0)) 26)).heap.size = w3.heap.size + 1 := by simp
  have hw3 := hb3'.size
  generalize w3.alloc (.cells (va .u8 (List.replicate 32 0)) 26) = w4 at ho1 hl3 hs3 ⊢
  have ho2 := Bk.new w4 26 (va .u8 (List.replicate 32 0))
  have ho1' := ho1.alloc (.cells (va .u8 (List.replicate 32 0)) 26)
  have hl4 := hl3.alloc hl3.size (.cells (va .u8 (List.replicate 32 0)) 26)
  have hs4 : (w4.alloc (.cells (va .u8 (List.replicate 32 0)) 26)).heap.size = w3.heap.size + 2 := by simp; omega
  generalize w4.alloc (.cells (va .u8 (List.replicate 32 0)) 26) = w5 at ho1' ho2 hl4 hs4 ⊢
  rw [hs3] at ho2
  obtain ⟨ga, hga⟩ : ∃ z, w3.heap.size = z := ⟨_, rfl⟩
  obtain ⟨gb, hgb⟩ : ∃ z, w3.heap.size + 1 = z := ⟨_, rfl⟩
  rw [hgb] at ho2 ⊢
  rw [hga] at ho1' ⊢
  refine wpList_store_row rfl 26 _ _ rfl ga (va .u8 D0) (by kernel_rfl) (by kernel_rfl) 26 (va .u8 (List.replicate 32 0)) ho1' (out_info.trans (by rw [va_size, l0])) (by rw [va_size, va_size, l0, List.length_replicate]) (va_all _ _) ?_
  have hx1 := Bk.row ho1' (va .u8 D0)
  have hx2 := Bk.rowFar ho2 (g' := ga) (by omega) (va .u8 D0)
  have hl5 := below_row hl4 (g := ga) (by omega) (va .u8 D0)
  have hs5 : (w5.setRow ga (va .u8 D0)).heap.size = w5.heap.size := by simp [World.setRow]
  generalize w5.setRow ga (va .u8 D0) = w6 at hx1 hx2 hl5 hs5 ⊢
  refine wpList_store_row rfl 26 _ _ rfl gb (va .u8 D1) (by kernel_rfl) (by kernel_rfl) 26 (va .u8 (List.replicate 32 0)) hx2 (out_info.trans (by rw [va_size, l1])) (by rw [va_size, va_size, l1, List.length_replicate]) (va_all _ _) ?_
  have hy2 := Bk.row hx2 (va .u8 D1)
  have hy1 := Bk.rowFar hx1 (g' := gb) (by omega) (va .u8 D1)
  have hl6 := below_row hl5 (g := gb) (by omega) (va .u8 D1)
  have hs6 : (w6.setRow gb (va .u8 D1)).heap.size = w6.heap.size := by simp [World.setRow]
  generalize w6.setRow gb (va .u8 D1) = w7 at hy1 hy2 hl6 hs6 ⊢
  refine wpList_nil ?_
  clear hx1 hx2 hl5 ho1 ho1' ho2 hl3 hl4 hb3' hpk hp0 hr hl1 hb1 hlt hb3 
  have hnew := new_hs w7 0
  obtain ⟨gh, hgh⟩ : ∃ z, w7.heap.size = z := ⟨_, rfl⟩
  have hga7 : ga < w7.heap.size := by omega
  have hgb7 : gb < w7.heap.size := by omega
  have hsz7 := hl6.size
  rw [hgh] at hnew hga7 hgb7 hsz7
  clear hs6 hs5 hs4 hs3 hgh hga hgb
  go_upto_region 3 with (go_at_call 22; refine hnew.mono ?_; rintro e w8 ⟨rfl, h8, hb8⟩)
  refine wp_region_lit ?_
  (refine wpList_plain rfl (fun K hK => ?_); go_simp; refine hK _ _ ?_; clear hK K)
  (refine wpList_plain rfl (fun K hK => ?_); go_simp; refine hK _ _ ?_; clear hK K)
  rw [show Obj.cells #[.int .u8 97, .int .u8 98, .int .u8 99] 5 = Obj.cells (va .u8 abcN) 5 from rfl]
  refine wpl_val rfl (v := .slice (some ⟨w8.heap.size, 0, none⟩) 3 3) (w' := w8.alloc (.cells (va .u8 abcN) 5 (3, 4))) ?_ ?_
  · exact conv_abc w8
  have hr : Rd .u8 (w8.alloc (.cells (va .u8 abcN) 5 (3, 4))) (some ⟨w8.heap.size, 0, none⟩) abcN.length 3 abcN := rd_marked w8 .u8 abcN 3 rfl (by omega) _ _
  have hbn := (Below.refl w8.heap.size w8).alloc (Nat.le_refl _) (.cells (va .u8 abcN) 5 (3, 4))
  have h9 := h8.below hbn
  have hn8 := h8.lt
  have hb9 : Below gh w7 (w8.alloc (.cells (va .u8 abcN) 5 (3, 4))) := hb8.trans (hbn.mono (by omega))
  generalize w8.alloc (.cells (va .u8 abcN) 5 (3, 4)) = w9 at hr h9 hb9 ⊢
  have hwr := write_any w9 h9 hr (fun ad e => by cases e; show w8.heap.size ≠ gh; omega) abc_b8 (by rw [List.length_append, abc_len]; simp)
  rw [List.nil_append, abc_len] at hwr
  refine wpl_call rfl (w' := w9) (f := 23) (args := #[.pointer (some ⟨gh, 0, none⟩), .slice (some ⟨w8.heap.size, 0, none⟩) 3 3]) (by kernel_rfl) hwr ?_
  rintro e w10 ⟨rfl, h10, hs10⟩
  refine ⟨_, rfl, ?_⟩
  (refine wpList_plain rfl (fun K hK => ?_); go_simp; refine hK _ _ ?_; clear hK K)
  refine wpList_nil ?_
  have hl10 : Below gh w7 w10 := hb9.grown h10 (by have := h9.lt; omega) (fun k e => by cases e; exact Nat.le_refl _)
  have hz1 := Bk.below hy1 hl10 hga7
  have hz2 := Bk.below hy2 hl10 hgb7
  have hl11 : Below w.heap.size w w10 := hl6.trans (hl10.mono hsz7)
  clear hl10 hwr hb9 h9 hr hbn h8 hb8 hnew hy1 hy2 hl6
  have S : ∀ i : Bels w10.heap.size w10, i.w.cell? ⟨ga, 0, none⟩ = some (.int .u8 227) ∧ i.w.cell? ⟨ga, 3, none⟩ = some (.int .u8 66) ∧ i.w.cell? ⟨gb, 0, none⟩ = some (.int .u8 186) ∧ i.w.cell? ⟨gb, 1, none⟩ = some (.int .u8 120) ∧ Bk i.w gb 26 (va .u8 D1) := by
    intro i
    have k1 := Bk.below hz1 i.h hz1.lt
    have k2 := Bk.below hz2 i.h hz2.lt
    refine ⟨(k1.cell 0).trans ?_, (k1.cell 3).trans ?_, (k2.cell 0).trans ?_, (k2.cell 1).trans ?_, k2⟩
    · rw [va_at .u8 (by omega), d0]; rfl
    · rw [va_at .u8 (by omega), d3]; rfl
    · rw [va_at .u8 (by omega), e0]; rfl
    · rw [va_at .u8 (by omega), e1]; rfl
  have S1 := fun i => (S i).1
  have S2 := fun i => (S i).2.1
  have S3 := fun i => (S i).2.2.1
  have S4 := fun i => (S i).2.2.2.1
  have S5 := fun i => (S i).2.2.2.2
  go_upto_region 4 with (fail)
  refine bels_region (by kernel_rfl) (by kernel_rfl) ?_
  repeat (refine wpQuiet_step (fun K hK => ?_); go_simp; refine hK _ ?_; clear hK K)
  refine wpQuiet_step (fun K hK => ?_)
  go_simp
  apply Exists.intro
  refine ⟨fun i => ?_, hK _ ?_⟩
  · exact bels_call (Nat.le_refl _) (sum_any i.w (hs10.below i.h) (by rw [abc_len]; omega))
  clear hK K
  rw [hD1]
  repeat (refine wpQuiet_step (fun K hK => ?_); go_simp; refine hK _ ?_; clear hK K)
  refine wpQuiet_load_row (by kernel_rfl) 26 _ rfl gb (by kernel_rfl) 26 (va .u8 D1) (.array 32 5) (fun w' h => by obtain ⟨i, rfl⟩ := h; exact S5 i) Try.underlying26 rfl (out_info.trans (by rw [va_size, l1])) ?_
  have EQ := fun w' => run_eq32 w' l1 l1
  have EG := eq32_guard
  simp only [decide_true] at EQ
  repeat (refine wpQuiet_step (fun K hK => ?_); go_simp; refine hK _ ?_; clear hK K)
  refine wpQuiet_step (fun K hK => ?_)
  go_simp
  apply Exists.intro
  refine ⟨fun i => ?_, hK _ ?_⟩
  · exact bels_call (Nat.le_refl _) (len_below i.w (hs10.below i.h))
  clear hK K
  rw [abc_len]
  repeat (refine wpQuiet_step (fun K hK => ?_); go_simp; refine hK _ ?_; clear hK K)
  refine wpQuiet_nil ?_
  intro i
  go_wp2_with fail
  go_ret
  exact ⟨rfl, hl11.trans (i.h.mono hl11.size)⟩
end Go.Proofs.Ytiimflmbcgnbeaa
