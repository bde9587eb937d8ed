/- Several samples appended to a row of the call's own. -/
import Derived.Test.YtbiajjdjbnnggaaGr
import Derived.Deep.AppendSrc
import Derived.Deep.Upon
namespace Go.Proofs.Ytbiajjdjbnnggaa
set_option linter.unusedSimpArgs false
set_option linter.unusedVariables false
set_option maxRecDepth 100000
open Go.RowKit Go.Deep
attribute [local go_sem] toldUpon_value toldUpon_skip toldUpon_enter

/-- what an append to an own row leaves alone, and where its result lies -/
def Apart (w w' : World) (A A' : Option Addr) : Prop := (∀ b, b < w.heap.size → (∀ ad, A = some ad → b ≠ ad.block) → w'.heap[b]? = w.heap[b]?) ∧ ∀ ad, A' = some ad → (∃ ad0, A = some ad0 ∧ ad.block = ad0.block) ∨ ad.block = w.heap.size
section
variable {P : Program} (w : World)
theorem run_append_m (t ty : TypeId) (base : Nat) (i : TypeInfo) (z : Value) (ht : P.underlying t = some (.slice 27)) (hi : P.info? 27 = some i) (hz : i.zero = some z)
    (hsize : i.size = 4) (hby : i.bytes = 32) (hzs : z.cells.size = 4)
    (A : Option Addr) (n c : Nat) (ss : List Smp) (hown : OwnS w base A n c ss) (B : Option Addr) (k d : Nat) (Y : List Smp) (hY : Y.length = k)
    (hB : k = 0 ∧ B = none ∨ ∃ ad, B = some ad ∧ ∀ j u, (Y.flatMap sc)[j]? = some u → w.cell? (ad.add j) = some u)
    (hn : n + k ≤ 1000) (hbase : base ≤ w.heap.size) :
    ∃ A' c' w', (Builtin.append_ #[t, t] ty #[.slice A n c, .slice B k d]).run P w = .ok (.slice A' (n + k) c') w' ∧ OwnS w' base A' (n + k) c' (ss ++ Y) ∧ Apart w w' A A' ∧ Below base w w' ∧ w.heap.size ≤ w'.heap.size := by
  have h1 : ∀ u ∈ Y.flatMap sc, u.oneCell' = true := fun u hu => by
    obtain ⟨s, _, hs⟩ := List.mem_flatMap.1 hu
    simp [sc] at hs
    rcases hs with rfl | rfl | rfl | rfl <;> rfl
  rcases hB with ⟨rfl, rfl⟩ | ⟨ad, rfl, hc⟩
  · obtain rfl := List.eq_nil_of_length_eq_zero hY
    have hr := run_append_nothing w t t ty 27 i ht hi A n c (OwnS.rs hown).2 (.slice none 0 d) (Src.ofNil w ht d)
    exact ⟨A, c, w, hr, by simpa using hown, ⟨fun _ _ _ => rfl, fun ad h => .inl ⟨ad, h, rfl⟩⟩, Below.refl _ _, Nat.le_refl _⟩
  · obtain ⟨v', w', hrun, h2, h3, h4, h5⟩ := run_append_own_at (P := P) w base t ty 27 i z 4 32 ht hi hz hsize hby hzs (by omega) (.slice A n c) n (ss.flatMap sc) hown ad k d (Y.flatMap sc) (by rw [sc_len, hY]; omega) hc h1 (by unfold maxLen; omega) (by omega) hbase
    obtain ⟨A', c', rfl⟩ : ∃ A' c', v' = .slice A' (n + k) c' := by
      rcases h2.2 with ⟨h1, h2⟩ | ⟨g, cap, cur, h1, _⟩
      · exact ⟨none, 0, by rw [h1, h2]⟩
      · exact ⟨_, _, h1⟩
    refine ⟨A', c', w', hrun, by unfold OwnS; rw [List.flatMap_append]; exact h2, ⟨fun b hb hne => h3.block b hb (fun e => ?_), fun ad' e => ?_⟩, (Below.refl _ _).grown h3 hbase (fun g hg => ((World.ownsRow.lt hown) g hg).1), h3.size⟩
    · cases A with
      | none => simp [Value.ownBlock] at e
      | some a0 => simp [Value.ownBlock] at e; exact hne a0 rfl e
    · subst e
      rcases h5 with h | h
      · cases A with
        | none => simp [Value.ownBlock] at h
        | some a0 => simp [Value.ownBlock] at h; exact .inl ⟨a0, rfl, h⟩
      · simp [Value.ownBlock] at h; exact .inr h
theorem wpList_append_m {ops : Array Oper} {rest : List Oper} {o : Oper} {a : Act} {Q : Exit → Act → World → Prop} (hgd : o.guard = none) (s x : Operand) (t : TypeId)
    (ho : o.op = .call { callee := .builtin .append, args := #[s, x], argTypes := #[t, t] })
    (base : Nat) (i : TypeInfo) (z : Value) (ht : P.underlying t = some (.slice 27)) (hi : P.info? 27 = some i) (hz : i.zero = some z)
    (hsize : i.size = 4) (hby : i.bytes = 32) (hzs : z.cells.size = 4)
    (A : Option Addr) (n c : Nat) (ss : List Smp) (hs : a.eval s = .slice A n c) (hown : OwnS w base A n c ss) (B : Option Addr) (k d : Nat) (Y : List Smp) (hx : a.eval x = .slice B k d) (hY : Y.length = k)
    (hB : k = 0 ∧ B = none ∨ ∃ ad, B = some ad ∧ ∀ j u, (Y.flatMap sc)[j]? = some u → w.cell? (ad.add j) = some u)
    (hn : n + k ≤ 1000) (hbase : base ≤ w.heap.size)
    (h : ∀ A' c' w', OwnS w' base A' (n + k) c' (ss ++ Y) → Apart w w' A A' → Below base w w' → w.heap.size ≤ w'.heap.size → wpList P ops Q rest (a.put o.dst (.slice A' (n + k) c')) w') : wpList P ops Q (o :: rest) a w :=
  wpList_plain hgd fun K hK => by
    obtain ⟨A', c', w', hrun, h1, h2, h3, h4⟩ := run_append_m (P := P) w t o.type base i z ht hi hz hsize hby hzs A n c ss hown B k d Y hY hB hn hbase
    unfold Oper.wp execOp
    simp only [ho, resolve, invoke, builtin, Sem.run_bind, Sem.run_pure, Result.andThen_ok, List.map_toArray, List.map_cons, List.map_nil, hs, hx, hrun]
    exact hK _ _ (h A' c' w' h1 h2 h3 h4)
end
/-- a row that lies apart from what was written stays -/
theorem OwnS.apart {w w' : World} {base : Nat} {A A' E : Option Addr} {n c : Nat} {ss : List Smp} (h : OwnS w base E n c ss) (ha : Apart w w' A A') (hne : ∀ e ad, E = some e → A = some ad → e.block ≠ ad.block) : OwnS w' base E n c ss := by
  refine ⟨h.1, ?_⟩
  rcases h.2 with hn | ⟨g, cap, cur, h1, hg, hh, rest⟩
  · exact .inl hn
  · have e : E = some ⟨g, 0, none⟩ := by simp only [Value.slice.injEq] at h1; exact h1.1
    exact .inr ⟨g, cap, cur, h1, hg, (ha.1 g (Array.getElem?_eq_some_iff.1 hh).1 (fun ad hA => hne _ ad e hA)).trans hh, rest⟩
end Go.Proofs.Ytbiajjdjbnnggaa
