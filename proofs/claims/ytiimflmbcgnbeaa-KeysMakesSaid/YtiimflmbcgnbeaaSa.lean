/- The digest of no Hash; the beginning of a digest. -/
import Derived.Test.YtiimflmbcgnbeaaS9
namespace Go.Proofs.Ytiimflmbcgnbeaa
set_option linter.unusedSimpArgs false
set_option linter.unusedVariables false
open Go.RowKit

theorem sum_nil (w : World) : Calls Try.prog 24 #[.pointer none] w fun e w' => e = .returned (.agg (va .u8 (List.replicate 32 0))) ∧ Below w.heap.size w w' := by
  go_enter Try.func24, Try.ntmps24
  go_upto_region 2 with (fail)
  rw [show Obj.cells #[.int .u8 0, .int .u8 0, .int .u8 0, .int .u8 0, .int .u8 0, .int .u8 0, .int .u8 0, .int .u8 0, .int .u8 0, .int .u8 0, .int .u8 0, .int .u8 0, .int .u8 0, .int .u8 0, .int .u8 0, .int .u8 0, .int .u8 0, .int .u8 0, .int .u8 0, .int .u8 0, .int .u8 0, .int .u8 0, .int .u8 0, .int .u8 0, .int .u8 0, .int .u8 0, .int .u8 0, .int .u8 0, .int .u8 0, .int .u8 0, .int .u8 0, .int .u8 0] 26 = Obj.cells (va .u8 (List.replicate 32 0)) 26 from rfl]
  have ho := Bk.new w 26 (va .u8 (List.replicate 32 0))
  have hl := (Below.refl w.heap.size w).alloc (Nat.le_refl _) (.cells (va .u8 (List.replicate 32 0)) 26)
  generalize w.alloc (.cells (va .u8 (List.replicate 32 0)) 26) = w1 at ho hl ⊢
  refine wp_region_lit ?_
  (refine wpList_plain rfl (fun K hK => ?_); go_simp; refine hK _ _ ?_; clear hK K)
  refine wpList_store_row rfl 26 _ _ rfl w.heap.size (va .u8 (List.replicate 32 0)) (by kernel_rfl) (by kernel_rfl) 26 (va .u8 (List.replicate 32 0)) ho (out_info.trans (by rw [va_size, List.length_replicate])) rfl (va_all _ _) ?_
  refine wpList_nil ?_
  have hst := Bk.row ho (va .u8 (List.replicate 32 0))
  have hbl := below_row hl (Nat.le_refl _) (va .u8 (List.replicate 32 0))
  generalize w1.setRow w.heap.size (va .u8 (List.replicate 32 0)) = wq at hst hbl ⊢
  go_wp2_with fail
  refine bodyPost_ret (v := .agg (va .u8 (List.replicate 32 0))) ?_ rfl ⟨rfl, hbl⟩
  simp [results, Try.results24, asAddr, Result.andThen]
  exact run_loadVar_row _ _ _ _ _ _ _ hst Try.underlying26 rfl (out_info.trans rfl)
theorem trunc_out (w : World) (v : Value) (z : Int) (hz : z < 0 ∨ 32 < z) : Calls Try.prog 28 #[v, .int .i64 z] w fun e w' => e = .returned (.tuple #[.slice none 0 0, .int .i64 1]) ∧ Below w.heap.size w w' := by
  go_enter Try.func28, Try.ntmps28
  rcases hz with hz | hz
  · go_wp2
    go_ret2
    exact ⟨rfl, Below.refl _ _⟩
  · have hz2 : ¬ z < 0 := by omega
    go_wp2
    go_ret2
    exact ⟨rfl, Below.refl _ _⟩
theorem trunc_any (w : World) {b : List Nat} {B : Option Addr} {d n : Nat} (hb : Rd .u8 w B b.length d b) (b8 : B8 b) (hlen : b.length < 70000000000000) (hB : ∀ ad, B = some ad → ad.block < w.heap.size) (hn : n ≤ 32) :
    Calls Try.prog 28 #[.slice B b.length d, .int .i64 (n : Int)] w fun e w' => ∃ A c, e = .returned (.tuple #[.slice A n c, .int .i64 0]) ∧ Own .u8 5 w' w.heap.size A n c ((shaN b).take n) ∧ Below w.heap.size w w' := by
  have h1 : ¬ (n : Int) < 0 := by omega
  have h2 : ¬ 32 < (n : Int) := by omega
  have hs := pkgSum_any w hb b8 hlen hB
  go_enter Try.func28, Try.ntmps28
  go_upto_region 3 with (fail)
  refine wp_region_lit ?_
  (refine wpList_plain rfl (fun K hK => ?_); go_simp; refine hK _ _ ?_; clear hK K)
  refine wpl_call rfl (w' := w) (f := 20) (args := #[.slice B b.length d]) (by kernel_rfl) hs ?_
  rintro e w4 ⟨rfl, hb4⟩
  refine ⟨_, rfl, ?_⟩
  (refine wpList_plain rfl (fun K hK => ?_); go_simp; refine hK _ _ ?_; clear hK K)
  rw [show Obj.cells #[.int .u8 0, .int .u8 0, .int .u8 0, .int .u8 0, .int .u8 0, .int .u8 0, .int .u8 0, .int .u8 0, .int .u8 0, .int .u8 0, .int .u8 0, .int .u8 0, .int .u8 0, .int .u8 0, .int .u8 0, .int .u8 0, .int .u8 0, .int .u8 0, .int .u8 0, .int .u8 0, .int .u8 0, .int .u8 0, .int .u8 0, .int .u8 0, .int .u8 0, .int .u8 0, .int .u8 0, .int .u8 0, .int .u8 0, .int .u8 0, .int .u8 0, .int .u8 0] 26 = Obj.cells (va .u8 (List.replicate 32 0)) 26 from rfl]
  have ho := Bk.new w4 26 (va .u8 (List.replicate 32 0))
  have hl := hb4.alloc hb4.size (.cells (va .u8 (List.replicate 32 0)) 26)
  generalize w4.alloc (.cells (va .u8 (List.replicate 32 0)) 26) = w5 at ho hl ⊢
  obtain ⟨g, hg⟩ : ∃ g, w4.heap.size = g := ⟨_, rfl⟩
  have hgw : w.heap.size ≤ g := by rw [← hg]; exact hb4.size
  rw [hg] at ho ⊢
  have ls : (shaN b).length = 32 := shaN_length b
  refine wpList_store_row rfl 26 _ _ rfl g (va .u8 (shaN b)) (by kernel_rfl) (by kernel_rfl) 26 (va .u8 (List.replicate 32 0)) ho (out_info.trans (by rw [va_size, ls])) (by rw [va_size, va_size, ls, List.length_replicate]) (va_all _ _) ?_
  refine wpList_nil ?_
  have hst := Bk.row ho (va .u8 (shaN b))
  have hbl := below_row hl hgw (va .u8 (shaN b))
  generalize w5.setRow g (va .u8 (shaN b)) = w6 at hst hbl ⊢
  go_upto_region 4 with (fail)
  have HT : Rd .u8 w6 (some ⟨g, 0, none⟩) n 32 ((shaN b).take n) := ((Own.of_bk (k := .u8) (base := 0) hst (Nat.zero_le _) ls (by omega)).rd).take hn
  obtain ⟨i0, hi0, hz0, hz1, hz2⟩ := info_parts u8_info
  have h3 : (0 : Int) ≤ (n : Int) := by omega
  have h4 : (n : Int) ≤ 32 := by omega
  have hsz := hbl.size
  go_wp2_with (at_builtin; refine wpList_append_rd _ rfl (.const (.slice none 0 0)) (.tmp 16) _ rfl .u8 w.heap.size 5 i0 (.int .u8 0) 1 Try.underlying22 hi0 hz0 hz1 hz2 rfl none 0 0 [] rfl (Own.nil _ _ _ _) _ _ _ _ rfl HT (by unfold maxLen; omega) (by omega) hsz ?_)
  intro A' c' w' ho' hb' _ _
  go_wp2_with fail
  go_ret2
  exact ⟨A', c', rfl, ho', hbl.trans hb'⟩
end Go.Proofs.Ytiimflmbcgnbeaa
