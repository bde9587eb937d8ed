/- Rows of structs of k cells each: an own one, one that is read, appends onto it, and one put in order. -/
import Derived.Test.YteemglgbhdpodaaZ0
namespace Go.Proofs.Yteemglgbhdpodaa
set_option linter.unusedSimpArgs false
set_option linter.unusedVariables false
set_option maxRecDepth 100000
open Go.RowKit

section
variable {α : Type} (enc : α → List Value) (k : Nat)
theorem flat_len (hk : ∀ x, (enc x).length = k) : ∀ xs : List α, (xs.flatMap enc).length = xs.length * k
  | [] => by simp
  | x :: xs => by rw [List.flatMap_cons, List.length_append, hk, flat_len hk xs, List.length_cons, Nat.add_mul]; omega
theorem flat_at (hk : ∀ x, (enc x).length = k) : ∀ (xs : List α) (j i : Nat) (x : α), xs[j]? = some x → i < k → (xs.flatMap enc)[j * k + i]? = (enc x)[i]?
  | [], j, _, _, h, _ => by simp at h
  | y :: ys, 0, i, x, h, hi => by
    simp only [List.getElem?_cons_zero, Option.some.injEq] at h
    subst h
    rw [List.flatMap_cons, Nat.zero_mul, Nat.zero_add, List.getElem?_append_left (by rw [hk]; exact hi)]
  | y :: ys, j + 1, i, x, h, hi => by
    rw [List.flatMap_cons, List.getElem?_append_right (by rw [hk, Nat.add_mul]; omega), hk, show (j + 1) * k + i - k = j * k + i by rw [Nat.add_mul]; omega]
    exact flat_at hk ys j i x (by simpa using h) hi
end
/-- the call's own row of structs -/
def OwnK {α : Type} (enc : α → List Value) (k : Nat) (e : TypeId) (w : World) (base : Nat) (A : Option Addr) (n c : Nat) (xs : List α) : Prop := w.ownsRow base e k (.slice A n c) n (xs.flatMap enc) ∧ xs.length = n
/-- a slice that reads as structs -/
def RdK {α : Type} (enc : α → List Value) (k : Nat) (w : World) (A : Option Addr) (n c : Nat) (xs : List α) : Prop :=
  xs.length = n ∧ n ≤ c ∧ n ≤ 9223372036854775807 ∧ (0 < n → ∃ ad, A = some ad ∧ ad.block < w.heap.size ∧ ∀ (j : Nat) (x : α), xs[j]? = some x → ∀ i, i < k → w.cell? (ad.add (j * k + i)) = (enc x)[i]?)
section
variable {α : Type} {enc : α → List Value} {k : Nat} {e : TypeId} {w w' : World} {base : Nat} {A : Option Addr} {n c : Nat} {xs : List α}
theorem RdK.len (h : RdK enc k w A n c xs) : xs.length = n := h.1
theorem RdK.cap (h : RdK enc k w A n c xs) : n ≤ c := h.2.1
theorem RdK.max (h : RdK enc k w A n c xs) : n ≤ 9223372036854775807 := h.2.2.1
theorem RdK.form (h : RdK enc k w A n c xs) (hn : 0 < n) : ∃ ad, A = some ad ∧ ad.block < w.heap.size ∧ ∀ (j : Nat) (x : α), xs[j]? = some x → ∀ i, i < k → w.cell? (ad.add (j * k + i)) = (enc x)[i]? := h.2.2.2 hn
theorem RdK.below (h : RdK enc k w A n c xs) (hb : Below w.heap.size w w') : RdK enc k w' A n c xs := by
  obtain ⟨h1, h2, h2', h3⟩ := h
  refine ⟨h1, h2, h2', fun hn => ?_⟩
  obtain ⟨ad, rfl, hlt, hc⟩ := h3 hn
  exact ⟨ad, rfl, Nat.lt_of_lt_of_le hlt hb.size, fun j x hx i hi => (hb.cell (p := ad.add (j * k + i)) (adlt hlt _)).trans (hc j x hx i hi)⟩
theorem OwnK.nil (enc : α → List Value) (k : Nat) (e : TypeId) (w : World) (base : Nat) : OwnK enc k e w base none 0 0 [] := ⟨World.ownsRow_nil w base e k, rfl⟩
theorem OwnK.below (h : OwnK enc k e w base A n c xs) (hb : Below w.heap.size w w') : OwnK enc k e w' base A n c xs := by
  refine ⟨⟨h.1.1, ?_⟩, h.2⟩
  rcases h.1.2 with hn | ⟨g, cap, cur, h1, hg, hh, rest⟩
  · exact .inl hn
  · exact .inr ⟨g, cap, cur, h1, hg, (hb.block g (Array.getElem?_eq_some_iff.1 hh).1).trans hh, rest⟩
theorem OwnK.ways (h : OwnK enc k e w base A n c xs) : (A = none ∧ n = 0 ∧ c = 0 ∧ xs = []) ∨ ∃ g, A = some ⟨g, 0, none⟩ ∧ base ≤ g ∧ g < w.heap.size ∧ n ≤ c ∧ c ≤ 9223372036854775807 := by
  rcases h.1.2 with ⟨h1, h2⟩ | ⟨g, cap, cur, h1, hb, hg, hnc, hm, _⟩
  · left
    simp only [Value.slice.injEq] at h1
    exact ⟨h1.1, h1.2.1, h1.2.2, List.eq_nil_of_length_eq_zero (by rw [h.2, h2])⟩
  · right
    simp only [Value.slice.injEq] at h1
    obtain ⟨rfl, _, rfl⟩ := h1
    exact ⟨g, rfl, hb, (Array.getElem?_eq_some_iff.1 hg).1, hnc, by unfold maxLen at hm; omega⟩
theorem OwnK.rd (h : OwnK enc k e w base A n c xs) (hk : ∀ x, (enc x).length = k) : RdK enc k w A n c xs := by
  rcases h.ways with ⟨rfl, rfl, rfl, rfl⟩ | ⟨g, rfl, _, hlt, hnc, hm⟩
  · exact ⟨rfl, Nat.le_refl _, by omega, fun h => absurd h (by omega)⟩
  · refine ⟨h.2, hnc, by omega, fun hn => ⟨⟨g, 0, none⟩, rfl, hlt, fun j x hx i hi => ?_⟩⟩
    rw [ad_plain]
    have hj : j < xs.length := by
      rcases Nat.lt_or_ge j xs.length with h | h
      · exact h
      · rw [List.getElem?_eq_none h] at hx; cases hx
    have hlt2 : j * k + i < n * k := by
      have := Nat.mul_le_mul_right k (show j + 1 ≤ n by rw [← h.2]; exact hj)
      rw [Nat.add_mul, Nat.one_mul] at this
      omega
    rw [World.ownsRow.cellAt h.1 _ hlt2, flat_at enc k hk xs j i x hx hi]
end
section
variable {P : Program} (w : World) {α : Type} {enc : α → List Value} {k : Nat} {e : TypeId}
theorem wpList_append_k {ops : Array Oper} {rest : List Oper} {o : Oper} {a : Act} {Q : Exit → Act → World → Prop} (hgd : o.guard = none) (s x : Operand) (t : TypeId)
    (ho : o.op = .call { callee := .builtin .append, args := #[s, x], argTypes := #[t, t] }) (hk : ∀ x, (enc x).length = k) (h1c : ∀ x, ∀ v ∈ enc x, v.oneCell' = true)
    (base : Nat) (i : TypeInfo) (z : Value) (bytes : Nat) (ht : P.underlying t = some (.slice e)) (hi : P.info? e = some i) (hz : i.zero = some z)
    (hsize : i.size = k) (hby : i.bytes = bytes) (hzs : z.cells.size = k) (hk0 : 0 < k)
    (A : Option Addr) (n c : Nat) (xs : List α) (hs : a.eval s = .slice A n c) (hown : OwnK enc k e w base A n c xs) (g d : Nat) (ys : List α) (hx : a.eval x = .slice (some ⟨g, 0, none⟩) ys.length d) (hr : Bk w g e (ys.flatMap enc).toArray)
    (h63 : n + ys.length ≤ maxLen) (hbytes : (n + ys.length) * bytes ≤ 140737488355328) (hbase : base ≤ w.heap.size)
    (h : ∀ A' c' w', OwnK enc k e w' base A' (n + ys.length) c' (xs ++ ys) → Below base w w' → w.heap.size ≤ w'.heap.size → wpList P ops Q rest (a.put o.dst (.slice A' (n + ys.length) c')) w') : wpList P ops Q (o :: rest) a w :=
  wpList_plain hgd fun K hK => by
    obtain ⟨v', w', hrun, h2, h3, _, _⟩ := run_append_own_at (P := P) w base t o.type e i z k bytes ht hi hz hsize hby hzs hk0 (.slice A n c) n (xs.flatMap enc) hown.1 ⟨g, 0, none⟩ ys.length d (ys.flatMap enc) (flat_len enc k hk ys) (fun j u hu => by
      rw [ad_plain, hr.cell j, List.getElem?_toArray]; exact hu) (fun u hu => by
        obtain ⟨y, _, hy⟩ := List.mem_flatMap.1 hu
        exact h1c y u hy) h63 hbytes hbase
    have shape : ∃ A' c', v' = .slice A' (n + ys.length) c' := by
      rcases h2.2 with ⟨h1, h2⟩ | ⟨g, cap, cur, h1, _⟩
      · exact ⟨none, 0, by rw [h1, h2]⟩
      · exact ⟨_, _, h1⟩
    obtain ⟨A', c', rfl⟩ := shape
    unfold Oper.wp execOp
    simp only [ho, resolve, invoke, builtin, Sem.run_bind, Sem.run_pure, Result.andThen_ok, List.map_toArray, List.map_cons, List.map_nil, hs, hx, hrun]
    exact hK _ _ (h A' c' w' ⟨by rw [List.flatMap_append]; exact h2, by rw [List.length_append, hown.2]⟩ ((Below.refl _ _).grown h3 hbase (fun g hg => ((World.ownsRow.lt hown.1) g hg).1)) h3.size)
end
end Go.Proofs.Yteemglgbhdpodaa
