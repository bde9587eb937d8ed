/- append onto a slice without spare room, of which no more is known than what it reads. -/
import Derived.Test.YtiimflmbcgnbeaaN1
import Derived.ArgAppend
import Derived.Still
namespace Go.Proofs.Ytiimflmbcgnbeaa
set_option linter.unusedSimpArgs false
set_option linter.unusedVariables false
open Go.RowKit

section
variable {P : Program} (w : World)
theorem run_append_full (k : IntKind) (t ty e : TypeId) (i : TypeInfo) (z : Value) (bytes : Nat) (ht : P.underlying t = some (.slice e)) (hi : P.info? e = some i) (hz : i.zero = some z)
    (hsize : i.size = 1) (hby : i.bytes = bytes) (hzs : z.cells.size = 1)
    (A : Option Addr) (n : Nat) (xs : List Nat) (hx : Rd k w A n n xs) (B : Option Addr) (m d : Nat) (ys : List Nat) (hr : Rd k w B m d ys)
    (h63 : n + m ≤ maxLen) (hbytes : (n + m) * bytes ≤ 140737488355328) :
    ∃ A' c' w', (Builtin.append_ #[t, t] ty #[.slice A n n, .slice B m d]).run P w = .ok (.slice A' (n + m) c') w' ∧ Rd k w' A' (n + m) c' (xs ++ ys) ∧ Below w.heap.size w w' ∧
      ((A' = A ∧ m = 0) ∨ ∃ g, A' = some ⟨g, 0, none⟩ ∧ w.heap.size ≤ g ∧ 0 < m) := by
  rcases Nat.eq_zero_or_pos m with h0 | h0
  · subst h0
    have hy : ys = [] := List.eq_nil_of_length_eq_zero hr.len
    subst hy
    refine ⟨A, n, w, ?_, by simpa using hx, Below.refl _ _, .inl ⟨rfl, rfl⟩⟩
    rcases A with _ | ad
    · have hn : n = 0 := by
        rcases Nat.eq_zero_or_pos n with h | h
        · exact h
        · obtain ⟨_, h2, _⟩ := hx.form h; cases h2
      subst hn
      rcases B with _ | bd <;> simp [Builtin.append_, run_underlying ht, sizeOf, typeInfo, hi, Builtin.lenOf, Builtin.firstCells, loadCells, loadCellsFrom]
    · rcases B with _ | bd <;> simp [Builtin.append_, run_underlying ht, sizeOf, typeInfo, hi, Builtin.lenOf, Builtin.firstCells, loadCells, loadCellsFrom, storeCells]
  · obtain ⟨ad, rfl, hlt, hc⟩ := hr.form h0
    have key : ∃ v' w', (Builtin.append_ #[t, t] ty #[.slice A n n, .slice (some ad) m d]).run P w = .ok v' w' ∧ w'.ownsRow w.heap.size e 1 v' (n + m) (vs k xs ++ vs k ys) ∧ w.grownBy w' none := by
      rcases A with _ | b
      · have hn : n = 0 := by
          rcases Nat.eq_zero_or_pos n with h | h
          · exact h
          · obtain ⟨_, h2, _⟩ := hx.form h; cases h2
        subst hn
        have hxs : xs = [] := List.eq_nil_of_length_eq_zero hx.len
        subst hxs
        obtain ⟨v', w', hrun, r1, r2, _⟩ := run_append_own (P := P) w w.heap.size t ty e i z 1 bytes ht hi hz hsize hby hzs (by omega) (.slice none 0 0) 0 [] (World.ownsRow_nil w _ e 1) ad m d (vs k ys) (by rw [vs_length, hr.len]; omega) (hr.cells rfl) (vs_one k ys) h63 hbytes (Nat.le_refl _)
        exact ⟨v', w', hrun, r1, r2⟩
      · exact run_append_arg_grows (P := P) w t ty e i z 1 bytes ht hi hz hsize hby hzs (by omega) b n n (vs k xs) (by rw [vs_length, hx.len]; omega) (hx.cells rfl) ad m d (vs k ys) (by rw [vs_length, hr.len]; omega) (hr.cells rfl) (by omega) h63 hbytes
    obtain ⟨v', w', hrun, h2, h3⟩ := key
    rw [← vs_append] at h2
    have hb : Below w.heap.size w w' := (Below.refl _ _).grown h3 (Nat.le_refl _) (fun g hg => by cases hg)
    rcases h2.2 with ⟨h1, h2'⟩ | ⟨g, cap, cur, h1, hg, _⟩
    · exact absurd h2' (by omega)
    · subst h1
      exact ⟨some ⟨g, 0, none⟩, cap, w', hrun, Own.rd (k := k) (e := e) (base := w.heap.size) h2, hb, .inr ⟨g, rfl, hg, h0⟩⟩

theorem wpList_append_full {ops : Array Oper} {rest : List Oper} {o : Oper} {a : Act} {Q : Exit → Act → World → Prop} (hgd : o.guard = none) (s x : Operand) (t : TypeId)
    (ho : o.op = .call { callee := .builtin .append, args := #[s, x], argTypes := #[t, t] })
    (k : IntKind) (e : TypeId) (i : TypeInfo) (z : Value) (bytes : Nat) (ht : P.underlying t = some (.slice e)) (hi : P.info? e = some i) (hz : i.zero = some z)
    (hsize : i.size = 1) (hby : i.bytes = bytes) (hzs : z.cells.size = 1)
    (A : Option Addr) (n : Nat) (xs : List Nat) (hs : a.eval s = .slice A n n) (hrx : Rd k w A n n xs) (B : Option Addr) (m d : Nat) (ys : List Nat) (hx : a.eval x = .slice B m d) (hr : Rd k w B m d ys)
    (h63 : n + m ≤ maxLen) (hbytes : (n + m) * bytes ≤ 140737488355328)
    (h : ∀ A' c' w', Rd k w' A' (n + m) c' (xs ++ ys) → Below w.heap.size w w' → ((A' = A ∧ m = 0) ∨ ∃ g, A' = some ⟨g, 0, none⟩ ∧ w.heap.size ≤ g ∧ 0 < m) → (∀ g, A' = some ⟨g, 0, none⟩ → 0 < n + m → g < w'.heap.size) → wpList P ops Q rest (a.put o.dst (.slice A' (n + m) c')) w') : wpList P ops Q (o :: rest) a w :=
  wpList_plain hgd fun _ hK => by
    obtain ⟨A', c', w', hrun, h2, h3, h4⟩ := run_append_full (P := P) w k t o.type e i z bytes ht hi hz hsize hby hzs A n xs hrx B m d ys hr h63 hbytes
    unfold Oper.wp execOp
    simp only [ho, resolve, invoke, builtin, Sem.run_bind, Sem.run_pure, Result.andThen_ok, List.map_toArray, List.map_cons, List.map_nil, hs, hx, hrun]
    exact hK _ _ (h A' c' w' h2 h3 h4 (fun g e h0 => by obtain ⟨ad, h5, h6, _⟩ := h2.form h0; rw [e] at h5; cases h5; exact h6))
end
end Go.Proofs.Ytiimflmbcgnbeaa
