/- The digest of a slice; of a key and a slice; of no Hash. -/
import Derived.Test.YtiimflmbcgnbeaaS8
namespace Go.Proofs.Ytiimflmbcgnbeaa
set_option linter.unusedSimpArgs false
set_option linter.unusedVariables false
open Go.RowKit

theorem Wrote.below {g base : Nat} {w w' : World} (h : Wrote g w w') (hb : base ≤ w.heap.size) (hg : base ≤ g) : Below base w w' := (Below.refl _ _).grown h hb (fun k e => by cases e; exact hg)
theorem pkgSum_any (w : World) {b : List Nat} {B : Option Addr} {d : Nat} (hb : Rd .u8 w B b.length d b) (b8 : B8 b) (hlen : b.length < 70000000000000) (hB : ∀ ad, B = some ad → ad.block < w.heap.size) :
    Calls Try.prog 20 #[.slice B b.length d] w fun e w' => e = .returned (.agg (va .u8 (shaN b))) ∧ Below w.heap.size w w' := by
  go_enter Try.func20, Try.ntmps20
  go_upto_region 1 with (fail)
  rw [show Obj.cells #[.int .u8 0, .int .u8 0, .int .u8 0, .int .u8 0, .int .u8 0, .int .u8 0, .int .u8 0, .int .u8 0, .int .u8 0, .int .u8 0, .int .u8 0, .int .u8 0, .int .u8 0, .int .u8 0, .int .u8 0, .int .u8 0, .int .u8 0, .int .u8 0, .int .u8 0, .int .u8 0, .int .u8 0, .int .u8 0, .int .u8 0, .int .u8 0, .int .u8 0, .int .u8 0, .int .u8 0, .int .u8 0, .int .u8 0, .int .u8 0, .int .u8 0, .int .u8 0] 26 = Obj.cells (va .u8 (List.replicate 32 0)) 26 from rfl]
  have ho1 := Bk.new w 26 (va .u8 (List.replicate 32 0))
  have hl1 := (Below.refl w.heap.size w).alloc (Nat.le_refl _) (.cells (va .u8 (List.replicate 32 0)) 26)
  have hs1 : (w.alloc (.cells (va .u8 (List.replicate 32 0)) 26)).heap.size = w.heap.size + 1 := by simp
  generalize w.alloc (.cells (va .u8 (List.replicate 32 0)) 26) = w1 at ho1 hl1 hs1 ⊢
  have hh := HS.new w1 0
  have hl2 := hl1.alloc hl1.size (.cells (hcells false (List.replicate 8 0) none 0 0 0) 44)
  have ho2 := ho1.alloc (.cells (hcells false (List.replicate 8 0) none 0 0 0) 44)
  have hs2 : (w1.alloc (.cells (hcells false (List.replicate 8 0) none 0 0 0) 44)).heap.size = w.heap.size + 2 := by simp; omega
  obtain ⟨w2, hw2⟩ : ∃ w2, w1.alloc (.cells (hcells false (List.replicate 8 0) none 0 0 0) 44) = w2 := ⟨_, rfl⟩
  have hnew := new_any w1
  rw [hw2] at hnew hh hl2 ho2 hs2
  rw [hs1] at hnew hh
  have hwr := write_any w2 hh (hb.below hl2) (fun ad e => by have := hB ad e; omega) b8 (by simpa using (by omega : b.length < 140737488355328))
  rw [List.nil_append] at hwr
  have HO2 := Lib.hid ho2
  have HL2 := Lib.hid hl2
  clear hh ho1 hl1 ho2 hl2
  go_upto_region 3 with (first | (go_at_call 22; refine hnew.mono ?_; rintro e w3 ⟨rfl, rfl⟩) | (go_at_call 23; refine hwr.mono ?_; rintro e w3 ⟨rfl, h3, hs3⟩))
  rename_i wz
  refine wp_region_lit ?_
  (refine wpList_plain rfl (fun K hK => ?_); go_simp; refine hK _ _ ?_; clear hK K)
  refine wpl_call rfl (w' := w3) (f := 24) (args := #[.pointer (some ⟨w.heap.size + 1, 0, none⟩)]) (by kernel_rfl) (sum_any w3 hs3 hlen) ?_
  rintro e w4 ⟨rfl, hb4⟩
  refine ⟨_, rfl, ?_⟩
  have ho3 := (h3.block _ HO2.out.lt (fun e => by have := Option.some.inj e; omega)).trans HO2.out
  have ho4 := Bk.below (w := w3) ho3 hb4 (Bk.lt ho3)
  have hl4 := (HL2.out.trans (h3.below (by omega) (by omega))).trans (hb4.mono (by have := h3.size; omega))
  have ls : (shaN b).length = 32 := shaN_length b
  refine wpList_store_row rfl 26 _ _ rfl w.heap.size (va .u8 (shaN b)) (by kernel_rfl) (by kernel_rfl) 26 (va .u8 (List.replicate 32 0)) ho4 (out_info.trans (by rw [va_size, ls])) (by rw [va_size, va_size, ls, List.length_replicate]) (va_all _ _) ?_
  refine wpList_nil ?_
  have hst := Bk.row ho4 (va .u8 (shaN b))
  have hbl := below_row hl4 (Nat.le_refl _) (va .u8 (shaN b))
  generalize w4.setRow w.heap.size (va .u8 (shaN b)) = wq at hst hbl ⊢
  go_wp2_with fail
  refine bodyPost_ret (v := .agg (va .u8 (shaN b))) ?_ rfl ⟨rfl, hbl⟩
  simp [results, Try.results20, asAddr, Result.andThen]
  exact run_loadVar_row _ _ _ _ _ _ _ hst Try.underlying26 rfl (out_info.trans (by rw [va_size, ls]))
theorem keyed_any (w : World) {a b : List Nat} {A B : Option Addr} {c d : Nat} (ha : Rd .u8 w A a.length c a) (a8 : B8 a) (hA : ∀ ad, A = some ad → ad.block < w.heap.size) (hb : Rd .u8 w B b.length d b) (b8 : B8 b) (hlen : (a ++ b).length < 70000000000000) (hB : ∀ ad, B = some ad → ad.block < w.heap.size) :
    Calls Try.prog 26 #[.slice A a.length c, .slice B b.length d] w fun e w' => e = .returned (.agg (va .u8 (shaN (a ++ b)))) ∧ Below w.heap.size w w' := by
  go_enter Try.func26, Try.ntmps26
  go_upto_region 1 with (fail)
  rw [show Obj.cells #[.int .u8 0, .int .u8 0, .int .u8 0, .int .u8 0, .int .u8 0, .int .u8 0, .int .u8 0, .int .u8 0, .int .u8 0, .int .u8 0, .int .u8 0, .int .u8 0, .int .u8 0, .int .u8 0, .int .u8 0, .int .u8 0, .int .u8 0, .int .u8 0, .int .u8 0, .int .u8 0, .int .u8 0, .int .u8 0, .int .u8 0, .int .u8 0, .int .u8 0, .int .u8 0, .int .u8 0, .int .u8 0, .int .u8 0, .int .u8 0, .int .u8 0, .int .u8 0] 26 = Obj.cells (va .u8 (List.replicate 32 0)) 26 from rfl]
  have ho1 := Bk.new w 26 (va .u8 (List.replicate 32 0))
  have hl1 := (Below.refl w.heap.size w).alloc (Nat.le_refl _) (.cells (va .u8 (List.replicate 32 0)) 26)
  have hs1 : (w.alloc (.cells (va .u8 (List.replicate 32 0)) 26)).heap.size = w.heap.size + 1 := by simp
  generalize w.alloc (.cells (va .u8 (List.replicate 32 0)) 26) = w1 at ho1 hl1 hs1 ⊢
  have hh := HS.new w1 0
  have hl2 := hl1.alloc hl1.size (.cells (hcells false (List.replicate 8 0) none 0 0 0) 44)
  have ho2 := ho1.alloc (.cells (hcells false (List.replicate 8 0) none 0 0 0) 44)
  have hs2 : (w1.alloc (.cells (hcells false (List.replicate 8 0) none 0 0 0) 44)).heap.size = w.heap.size + 2 := by simp; omega
  obtain ⟨w2, hw2⟩ : ∃ w2, w1.alloc (.cells (hcells false (List.replicate 8 0) none 0 0 0) 44) = w2 := ⟨_, rfl⟩
  have hnew := new_any w1
  rw [hw2] at hnew hh hl2 ho2 hs2
  rw [hs1] at hnew hh
  have hal : a.length < 70000000000000 := by rw [List.length_append] at hlen; omega
  have hwr := write_any w2 hh (ha.below hl2) (fun ad e => by have := hA ad e; omega) a8 (by simpa using (by omega : a.length < 140737488355328))
  rw [List.nil_append] at hwr
  have HO2 := Lib.hid ho2
  have HL2 := Lib.hid hl2
  clear hh ho1 hl1 ho2 hl2
  go_upto_region 3 with (first | (go_at_call 22; refine hnew.mono ?_; rintro e w3 ⟨rfl, rfl⟩) | (go_at_call 23; refine hwr.mono ?_; rintro e w3 ⟨rfl, h3, hs3⟩))
  rename_i wz
  have hb3 := (HL2.out.trans (h3.below (by omega) (by omega)) : Below w.heap.size w w3)
  have hwr2 := write_any w3 hs3 (hb.below hb3) (fun ad e => by have := hB ad e; show ad.block ≠ _; omega) b8 (by omega)
  have ho3 := (h3.block _ HO2.out.lt (fun e => by have := Option.some.inj e; omega)).trans HO2.out
  have hs3z := h3.size
  clear hnew
  go_upto_region 4 with (go_at_call 23; refine hwr2.mono ?_; rintro e w5 ⟨rfl, h5, hs5⟩)
  refine wp_region_lit ?_
  (refine wpList_plain rfl (fun K hK => ?_); go_simp; refine hK _ _ ?_; clear hK K)
  refine wpl_call rfl (w' := w5) (f := 24) (args := #[.pointer (some ⟨w.heap.size + 1, 0, none⟩)]) (by kernel_rfl) (sum_any w5 hs5 hlen) ?_
  rintro e w4 ⟨rfl, hb4⟩
  refine ⟨_, rfl, ?_⟩
  have ho5 := (h5.block _ (Bk.lt ho3) (fun e => by have := Option.some.inj e; omega)).trans ho3
  have ho4 := Bk.below (w := w5) ho5 hb4 (Bk.lt ho5)
  have hl4 := (hb3.trans (h5.below (by omega) (by omega))).trans (hb4.mono (by have := h5.size; omega))
  have ls : (shaN (a ++ b)).length = 32 := shaN_length (a ++ b)
  refine wpList_store_row rfl 26 _ _ rfl w.heap.size (va .u8 (shaN (a ++ b))) (by kernel_rfl) (by kernel_rfl) 26 (va .u8 (List.replicate 32 0)) ho4 (out_info.trans (by rw [va_size, ls])) (by rw [va_size, va_size, ls, List.length_replicate]) (va_all _ _) ?_
  refine wpList_nil ?_
  have hst := Bk.row ho4 (va .u8 (shaN (a ++ b)))
  have hbl := below_row hl4 (Nat.le_refl _) (va .u8 (shaN (a ++ b)))
  generalize w4.setRow w.heap.size (va .u8 (shaN (a ++ b))) = wq at hst hbl ⊢
  go_wp2_with fail
  refine bodyPost_ret (v := .agg (va .u8 (shaN (a ++ b)))) ?_ rfl ⟨rfl, hbl⟩
  simp [results, Try.results26, asAddr, Result.andThen]
  exact run_loadVar_row _ _ _ _ _ _ _ hst Try.underlying26 rfl (out_info.trans (by rw [va_size, ls]))
end Go.Proofs.Ytiimflmbcgnbeaa
