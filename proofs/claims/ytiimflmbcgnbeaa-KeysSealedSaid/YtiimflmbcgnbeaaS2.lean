/- The constants of package sha; whole arrays by value. -/
import Derived.Test.YtiimflmbcgnbeaaS1
import Derived.Deep.WholeRow
import Derived.Deep.DeepCutAuto
namespace Go.Proofs.Ytiimflmbcgnbeaa
set_option linter.unusedSimpArgs false
set_option linter.unusedVariables false
open Go.RowKit

section
variable {P : Program} {ops : Array Oper} {rest : List Oper} {o : Oper} {a : Act} {w w' : World} {Q : Exit → Act → World → Prop}
/-- one operation that gives a value -/
theorem wpl_val {v : Value} (hgd : o.guard = none) (h : (execOp a.eval o).run P w = .ok (.value v) w') (hn : wpList P ops Q rest (a.put o.dst v) w') : wpList P ops Q (o :: rest) a w :=
  wpList_plain hgd fun K hK => by unfold Oper.wp; rw [h]; exact hK _ _ hn
/-- one that gives none -/
theorem wpl_skip (hgd : o.guard = none) (h : (execOp a.eval o).run P w = .ok .skip w') (hn : wpList P ops Q rest (a.put o.dst undef) w') : wpList P ops Q (o :: rest) a w :=
  wpList_plain hgd fun K hK => by unfold Oper.wp; rw [h]; exact hK _ _ hn
end
section
variable {P : Program} {ops : Array Oper} {rest : List Oper} {o : Oper} {a : Act} {w w' : World} {Q : Exit → Act → World → Prop}
/-- one that calls -/
theorem wpl_call {f : FuncId} {args : Array Value} {R : Ending → World → Prop} (hgd : o.guard = none) (h : (execOp a.eval o).run P w = .ok (.enter f args) w') (hc : Calls P f args w' R) (hr : ∀ e w'', R e w'' → ∃ v, e = .returned v ∧ wpList P ops Q rest (a.put o.dst v) w'') : wpList P ops Q (o :: rest) a w :=
  wpList_plain hgd fun K hK => by
    unfold Oper.wp; rw [h]
    refine hc.mono fun e w'' hR => ?_
    obtain ⟨v, rfl, hn⟩ := hr e w'' hR
    exact hK _ _ hn
end
theorem va_all (k : IntKind) (xs : List Nat) : (va k xs).all (·.oneCell') = true := by
  rw [Array.all_eq_true_iff_forall_mem]
  intro u hu
  exact vs_one k xs u (by simpa [va] using hu)
theorem words_info : (Try.prog.info? 82).map (·.size) = some 64 := by kernel_rfl
set_option maxRecDepth 100000 in
theorem zeros64 : (#[.int .u32 0, .int .u32 0, .int .u32 0, .int .u32 0, .int .u32 0, .int .u32 0, .int .u32 0, .int .u32 0, .int .u32 0, .int .u32 0, .int .u32 0, .int .u32 0, .int .u32 0, .int .u32 0, .int .u32 0, .int .u32 0, .int .u32 0, .int .u32 0, .int .u32 0, .int .u32 0, .int .u32 0, .int .u32 0, .int .u32 0, .int .u32 0, .int .u32 0, .int .u32 0, .int .u32 0, .int .u32 0, .int .u32 0, .int .u32 0, .int .u32 0, .int .u32 0, .int .u32 0, .int .u32 0, .int .u32 0, .int .u32 0, .int .u32 0, .int .u32 0, .int .u32 0, .int .u32 0, .int .u32 0, .int .u32 0, .int .u32 0, .int .u32 0, .int .u32 0, .int .u32 0, .int .u32 0, .int .u32 0, .int .u32 0, .int .u32 0, .int .u32 0, .int .u32 0, .int .u32 0, .int .u32 0, .int .u32 0, .int .u32 0, .int .u32 0, .int .u32 0, .int .u32 0, .int .u32 0, .int .u32 0, .int .u32 0, .int .u32 0, .int .u32 0] : Array Value) = va .u32 (List.replicate 64 0) := rfl

set_option maxRecDepth 100000 in
set_option maxHeartbeats 1000000 in
theorem constants_any (w : World) : Calls Try.prog 67 #[] w fun e w' => e = .returned (.agg (va .u32 kN)) ∧ Below w.heap.size w w' := by
  have HST := Lib.hid (run_storeAt_new (P := Try.prog) w 82 (va .u32 (List.replicate 64 0)) (va .u32 kN) (words_info.trans (by rfl)) (by rfl) (va_all _ _))
  have HLD := Lib.hid (run_loadVar_new (P := Try.prog) w 82 (va .u32 kN) 64 41 Try.underlying82 (words_info.trans (by rfl)))
  go_enter Try.func67, Try.ntmps67
  go_upto_region 1 with (fail)
  rw [zeros64]
  refine wp_region_lit ?_
  refine wpl_val rfl (v := .agg (va .u32 kN)) (w' := w.alloc (.cells (va .u32 (List.replicate 64 0)) 82)) (by kernel_rfl) ?_
  refine wpl_skip rfl (w' := w.alloc (.cells (va .u32 kN) 82)) ?_ ?_
  · show (Instr.storeAt 82 (.pointer (some ⟨w.heap.size, 0, none⟩)) (.agg (va .u32 kN)) >>= fun _ => pure Next.skip).run Try.prog _ = .ok Next.skip _
    rw [Sem.run_bind, HST.out]; rfl
  refine wpList_nil ?_
  go_wp2_with fail
  refine bodyPost_ret (v := .agg (va .u32 kN)) ?_ rfl ⟨rfl, (Below.refl _ _).alloc (Nat.le_refl _) _⟩
  simp [results, Try.results67, asAddr, Result.andThen]
  exact HLD.out
end Go.Proofs.Ytiimflmbcgnbeaa
