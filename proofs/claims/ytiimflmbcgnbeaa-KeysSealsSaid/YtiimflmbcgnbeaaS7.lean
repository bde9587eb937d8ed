/- A Hash is made, measured, reset; one that is nil. -/
import Derived.Test.YtiimflmbcgnbeaaS6
namespace Go.Proofs.Ytiimflmbcgnbeaa
set_option linter.unusedSimpArgs false
set_option linter.unusedVariables false
open Go.RowKit

theorem HS.new (w : World) (base : Nat) : HS (w.alloc (.cells (hcells false (List.replicate 8 0) none 0 0 0) 44)) w.heap.size base [] :=
  ⟨B8.nil, by decide, false, List.replicate 8 0, none, 0, 0, Bk.new _ _ _, B32.replicate 8, rfl, Rd.nil _ _ _ _, fun _ h => (by cases h), fun h => (by cases h), fun _ => rfl⟩
theorem HS.below {w w' : World} {g base : Nat} {m : List Nat} (h : HS w g base m) (hb : Below w.heap.size w w') : HS w' g base m := by
  obtain ⟨h1, h2, bg, ws, A, n, c, hk, h3, h4, hr, hA, h5, h6⟩ := h
  exact ⟨h1, h2, bg, ws, A, n, c, hk.below hb hk.lt, h3, h4, hr.below hb, fun ad e => ⟨(hA ad e).1, (hA ad e).2.1, Nat.lt_of_lt_of_le (hA ad e).2.2 hb.size⟩, h5, h6⟩
theorem HS.lt {w : World} {g base : Nat} {m : List Nat} (h : HS w g base m) : g < w.heap.size := by
  obtain ⟨_, _, _, _, _, _, _, hk, _⟩ := h; exact hk.lt
theorem new_any (w : World) : Calls Try.prog 22 #[] w fun e w' => e = .returned (.pointer (some ⟨w.heap.size, 0, none⟩)) ∧ w' = w.alloc (.cells (hcells false (List.replicate 8 0) none 0 0 0) 44) := by
  go_enter Try.func22, Try.ntmps22
  go_wp2
  exact bodyPost_ret (v := .pointer (some ⟨w.heap.size, 0, none⟩)) (by simp [results, Try.results22, go_sem]) rfl ⟨rfl, rfl⟩
theorem len_any (w : World) {g base : Nat} {m : List Nat} (h : HS w g base m) : Calls Try.prog 25 #[.pointer (some ⟨g, 0, none⟩)] w fun e w' => e = .returned (.int .i64 (m.length : Int)) ∧ w' = w := by
  obtain ⟨h1, h2, bg, ws, A, n, c, hk, _⟩ := h
  have c10 : w.cell? ⟨g, 10, none⟩ = some (.int .i64 (m.length : Int)) := hk.cell 10
  go_enter Try.func25, Try.ntmps25
  go_wp2
  exact bodyPost_ret (by simp [results, Try.results25, go_sem]) rfl ⟨rfl, rfl⟩
theorem len_nil (w : World) : Calls Try.prog 25 #[.pointer none] w fun e w' => e = .returned (.int .i64 0) ∧ w' = w := by
  go_enter Try.func25, Try.ntmps25
  go_wp2
  exact bodyPost_ret (by simp [results, Try.results25, go_sem]) rfl ⟨rfl, rfl⟩
theorem reset_nil (w : World) : Calls Try.prog 27 #[.pointer none] w fun e w' => e = .returned (.int .i64 6) ∧ w' = w := by
  go_enter Try.func27, Try.ntmps27
  go_wp2
  exact bodyPost_ret (by simp [results, Try.results27, go_sem]) rfl ⟨rfl, rfl⟩
theorem write_nil (w : World) (v : Value) : Calls Try.prog 23 #[.pointer none, v] w fun e w' => e = .returned (.int .i64 6) ∧ Below w.heap.size w w' := by
  refine (callsIn_wide (n := 7)).1 (callsIn_of_wp_marks Try.func23 rfl trivial ?_ rfl)
  simp only [Try.ntmps23, List.size_toArray, List.length_cons, List.length_nil, Nat.reduceAdd, Nat.reduceSub, Array.replicate_succ, Array.replicate_zero, List.push_toArray, List.append_toArray, List.nil_append, List.cons_append]
  refine wpIn_wide.2 ?_
  go_wp2
  exact ⟨_, results_tmp rfl _ _ _, rfl, (Below.refl _ _).alloc (Nat.le_refl _) _⟩
theorem hash_info : (Try.prog.info? 44).map (·.size) = some 11 := by kernel_rfl
theorem grown_row (w : World) (g : Nat) (cs : Array Value) : w.grownBy (w.setRow g cs) (some g) :=
  ⟨rfl, rfl, rfl, by simp [World.setRow], fun k _ hk => by
    simp only [World.setRow, Array.getElem?_modify]
    rw [if_neg (fun e => hk (by rw [e]))]⟩
theorem reset_any (w : World) {g base : Nat} {m : List Nat} (h : HS w g base m) : Calls Try.prog 27 #[.pointer (some ⟨g, 0, none⟩)] w fun e w' => e = .returned (.int .i64 0) ∧ Wrote g w w' ∧ HS w' g w.heap.size [] := by
  obtain ⟨h1, h2, bg, ws, A, n, c, hk, _⟩ := h
  go_enter Try.func27, Try.ntmps27
  go_upto_region 3 with (fail)
  refine wp_region_lit ?_
  iterate 3 (refine wpList_plain rfl (fun K hK => ?_); go_simp; refine hK _ _ ?_; clear hK K)
  refine wpList_store_row rfl 44 _ _ rfl g (hcells false (List.replicate 8 0) none 0 0 0) (by kernel_rfl) (by kernel_rfl) 44 (hcells bg ws A n c m.length) hk hash_info rfl (by simp [hcells, Value.oneCell']) ?_
  refine wpList_nil ?_
  have hst := hk.row (hcells false (List.replicate 8 0) none 0 0 0)
  have hgr := grown_row w g (hcells false (List.replicate 8 0) none 0 0 0)
  generalize w.setRow g (hcells false (List.replicate 8 0) none 0 0 0) = w1 at hst hgr ⊢
  go_wp2
  refine bodyPost_ret (by simp [results, Try.results27, go_sem]) rfl ⟨rfl, hgr, ?_⟩
  exact ⟨B8.nil, by decide, false, List.replicate 8 0, none, 0, 0, hst, B32.replicate 8, rfl, Rd.nil _ _ _ _, fun _ h => (by cases h), fun h => (by cases h), fun _ => rfl⟩
end Go.Proofs.Ytiimflmbcgnbeaa
