/- A region that draws its order and whose calls only make memory: one walk, over all worlds in which the old memory stands. Arrays held against each other. A constant text's bytes. -/
import Derived.Test.YtiimflmbcgnbeaaMm
import Derived.BigQuiet
import Derived.ChangeKeysEq
import Derived.Lib.SlBytesConst
namespace Go.Proofs.Ytiimflmbcgnbeaa
set_option linter.unusedSimpArgs false
set_option linter.unusedVariables false
open Go.RowKit

/-- a world in which the blocks below B stand as in w0 -/
structure Bels (B : Nat) (w0 : World) where
  w : World
  h : Below B w0 w
def Bels.here (B : Nat) (w0 : World) : Bels B w0 := ⟨w0, Below.refl _ _⟩
instance (B : Nat) (w0 : World) : Nonempty (Bels B w0) := ⟨Bels.here B w0⟩
section
variable {P : Program} {B : Nat} {w0 : World}
theorem bels_region {ops : List Oper} {id : Nat} {Q : Exit → Act → World → Prop} {a : Act} (hm : P.follows .mixedOrders = true) (hB : Region.lexB .any ops.toArray = true)
    (h : wpQuiet P ops.toArray (fun w' => ∃ i : Bels w0.heap.size w0, w' = i.w) (fun a' => ∀ i : Bels w0.heap.size w0, Q .normal a' i.w) ops a) : (Code.region id ops.toArray true).wp P Q a w0 := by
  refine wp_region_quiet (C := fun w' => ∃ i : Bels w0.heap.size w0, w' = i.w) hm hB ⟨⟨_, Below.drew (Below.refl _ _)⟩, rfl⟩ ?_
  have e : (fun a' => ∀ w', (∃ i : Bels w0.heap.size w0, w' = i.w) → Q .normal a' w') = (fun a' => ∀ i : Bels w0.heap.size w0, Q .normal a' i.w) := by
    funext a'
    exact propext ⟨fun h i => h _ ⟨i, rfl⟩, fun h w' ⟨i, e⟩ => e ▸ h i⟩
  rw [e]
  exact h
theorem bels_call {f : FuncId} {args : Array Value} {i : Bels B w0} {v : Value} (hB : B ≤ w0.heap.size) (h : Calls P f args i.w fun e w' => e = .returned v ∧ Below i.w.heap.size i.w w') : Calls P f args i.w fun e w'' => e = .returned v ∧ ∃ j : Bels B w0, w'' = j.w :=
  h.mono fun _ w' ⟨he, hb⟩ => ⟨he, ⟨w', i.h.trans (hb.mono (Nat.le_trans hB i.h.size))⟩, rfl⟩
end

section
variable {P : Program}
theorem run_eqItems_va (w : World) (d : Nat) (k : IntKind) {e : TypeId} (hu : P.underlying e = some (.int k)) (he : P.plainKey e = true) (xs ys : List Nat) : ∀ (is : List Nat), (∀ i ∈ is, i < xs.length ∧ i < ys.length) →
    (Op.eqItems (d + 1) e 1 (va k xs) (va k ys) is).run P w = .ok (is.all fun i => gd xs i == gd ys i) w
  | [], _ => by simp [Op.eqItems]
  | i :: is, h => by
    obtain ⟨h1, h2⟩ := h i (by simp)
    have ih := run_eqItems_va w d k hu he xs ys is (fun j hj => h j (by simp [hj]))
    have p1 : (part e (va k xs) (i * 1)).run P w = .ok (.int k ((gd xs i : Nat) : Int)) w := run_part_plain w he (by rw [Nat.mul_one]; exact va_at k h1)
    have p2 : (part e (va k ys) (i * 1)).run P w = .ok (.int k ((gd ys i : Nat) : Int)) w := run_part_plain w he (by rw [Nat.mul_one]; exact va_at k h2)
    have p3 : (Op.equalIn (d + 1) e (.int k ((gd xs i : Nat) : Int)) (.int k ((gd ys i : Nat) : Int))).run P w = .ok (gd xs i == gd ys i) w := by
      rw [run_equalIn_int (h := hu)]
      exact congrArg (fun b => Result.ok b w) (by rw [Bool.eq_iff_iff]; simp only [beq_iff_eq]; omega)
    simp only [Op.eqItems, Sem.run_bind, p1, p2, p3, Result.andThen_ok, List.all_cons]
    cases gd xs i == gd ys i
    · simp
    · simpa using ih
theorem all_gd_eq {xs ys : List Nat} {n : Nat} (hx : xs.length = n) (hy : ys.length = n) : ((List.range n).all fun i => gd xs i == gd ys i) = decide (xs = ys) := by
  by_cases h : xs = ys
  · subst h; simp
  · rw [decide_eq_false h]
    apply Bool.eq_false_iff.2
    intro ha
    rw [List.all_eq_true] at ha
    apply h
    apply List.ext_getElem (by omega)
    intro i h1 h2
    have := ha i (by simp; omega)
    rw [gd_lt h1, gd_lt h2] at this
    simpa using this
/-- two arrays of whole numbers -/
theorem run_eqArray (w : World) (d n : Nat) (k : IntKind) {t e : TypeId} {i : TypeInfo} (ht : P.underlying t = some (.array n e)) (hi : P.info? e = some i) (h1 : P.cellsOf e = 1) (hu : P.underlying e = some (.int k)) (he : P.plainKey e = true) {xs ys : List Nat} (hx : xs.length = n) (hy : ys.length = n) :
    (Op.equalIn (d + 2) t (.agg (va k xs)) (.agg (va k ys))).run P w = .ok (decide (xs = ys)) w := by
  rw [run_equalIn_array w (d + 1) _ _ ht hi, h1, run_eqItems_va w d k hu he xs ys _ (fun i hi => by simp at hi; omega), all_gd_eq hx hy]
end
theorem wpQuiet_load_row {P : Program} {ops : Array Oper} {rest : List Oper} {o : Oper} {a : Act} {C : World → Prop} {Q : Act → Prop} (hw : Region.wanted o (yielded ops a.tmps) = true) (ty : TypeId) (x : Operand) (ho : o.op = .load ty x)
    (g : Nat) (hx : a.eval x = .pointer (some ⟨g, 0, none⟩)) (t : TypeId) (cs : Array Value) (d : TypeDesc) (hg : ∀ w, C w → Bk w g t cs)
    (hu : P.underlying ty = some d) (hd : (match d with | .struct _ | .array _ _ => true | _ => false) = true) (hi : (P.info? ty).map (·.size) = some cs.size)
    (h : wpQuiet P ops C Q rest (a.put o.dst (.agg cs))) : wpQuiet P ops C Q (o :: rest) a :=
  BigFrame.wpQuiet_want hw fun K hK => ⟨.agg cs, fun w hw' => by
    have hr : (loadVar ty ⟨g, 0, none⟩).run P w = .ok (.agg cs) w := run_loadVar_row w g t ty cs (0, 0) d (hg w hw') hu hd hi
    have e : (execOp a.eval o).run P w = .ok (.value (.agg cs)) w := by
      unfold execOp
      simp only [ho, hx, Instr.loadAt, Instr.sureAddr, Sem.run_bind, Sem.run_pure, Result.andThen_ok, hr]
    unfold Oper.quietAt
    rw [e]
    exact ⟨rfl, rfl⟩, hK _ h⟩
/-- a row that bears the run-time's mark -/
theorem rd_marked (w : World) (k : IntKind) (xs : List Nat) (n : Nat) (hn : xs.length = n) (hm : n ≤ 9223372036854775807) (e : TypeId) (fr : Nat × Nat) : Rd k (w.alloc (.cells (va k xs) e fr)) (some ⟨w.heap.size, 0, none⟩) n n xs := by
  refine ⟨hn, Nat.le_refl _, hm, fun h0 => ⟨_, rfl, by simp, fun j x hx => ?_⟩⟩
  rw [ad_plain]
  have e1 : (w.alloc (.cells (va k xs) e fr)).heap[w.heap.size]? = some (.cells (va k xs) e fr) := by
    show (w.heap.push _)[w.heap.size]? = _
    simp
  unfold World.cell?
  simp only [e1]
  simp [va_get, hx]
end Go.Proofs.Ytiimflmbcgnbeaa
