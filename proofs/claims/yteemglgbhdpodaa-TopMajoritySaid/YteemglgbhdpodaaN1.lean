/- Rows of whole numbers in memory: what a slice reads, what the call itself owns, what is made, stored and appended. -/
import Derived.Test.YteemglgbhdpodaaB0
import Derived.Maps.AppendAt
import Derived.Deep.AppendLies
import Derived.RegionTactic
import Derived.OwnWalk
import Derived.Laws.MakeOwn
import Derived.ChangeSlices
import Derived.DataElems
namespace Go.Proofs.Yteemglgbhdpodaa
set_option linter.unusedSimpArgs false
set_option linter.unusedVariables false
set_option maxRecDepth 100000
open Go.RowKit

/-- numbers as values -/
def vs (k : IntKind) (xs : List Nat) : List Value := xs.map fun (x : Nat) => .int k (x : Int)
def va (k : IntKind) (xs : List Nat) : Array Value := (vs k xs).toArray
theorem vs_length (k : IntKind) (xs : List Nat) : (vs k xs).length = xs.length := by simp [vs]
theorem va_size (k : IntKind) (xs : List Nat) : (va k xs).size = xs.length := by simp [va, vs]
theorem vs_get (k : IntKind) (xs : List Nat) (j : Nat) : (vs k xs)[j]? = xs[j]?.map fun (x : Nat) => .int k (x : Int) := by simp [vs]
theorem va_get (k : IntKind) (xs : List Nat) (j : Nat) : (va k xs)[j]? = xs[j]?.map fun (x : Nat) => .int k (x : Int) := by simp [va, vs]
theorem va_at (k : IntKind) {xs : List Nat} {j : Nat} (h : j < xs.length) : (va k xs)[j]? = some (.int k ((gd xs j : Nat) : Int)) := by
  rw [va_get, gd_get h]; rfl
theorem va_set (k : IntKind) (xs : List Nat) (j y : Nat) : (va k xs).setIfInBounds j (.int k (y : Int)) = va k (xs.set j y) := by
  simp [va, vs, List.map_set]
theorem vs_append (k : IntKind) (xs ys : List Nat) : vs k (xs ++ ys) = vs k xs ++ vs k ys := by simp [vs]
theorem vs_one (k : IntKind) (xs : List Nat) : ∀ u ∈ vs k xs, u.oneCell' = true := by
  intro u hu
  simp only [vs, List.mem_map] at hu
  obtain ⟨x, _, rfl⟩ := hu
  rfl
theorem vs_inj {k : IntKind} {xs ys : List Nat} (h : vs k xs = vs k ys) : xs = ys := by
  induction xs generalizing ys with
  | nil => cases ys with
    | nil => rfl
    | cons y ys => simp [vs] at h
  | cons x xs ih => cases ys with
    | nil => simp [vs] at h
    | cons y ys =>
      simp only [vs, List.map_cons, List.cons.injEq, Value.int.injEq, true_and, Int.natCast_inj] at h
      rw [h.1, ih (by simpa [vs] using h.2)]
theorem made_va (k : IntKind) (n : Nat) : madeCells #[.int k 0] n = va k (List.replicate n 0) := by
  apply Array.toList_inj.1
  rw [toList_madeCells_one]
  simp [va, vs]

theorem adlt {ad : Addr} {B : Nat} (h : ad.block < B) (j : Nat) : (ad.add j).block < B := by rw [Go.ChangeShapes.block_add]; exact h
theorem ad_plain (g j : Nat) : (⟨g, 0, none⟩ : Addr).add j = ⟨g, j, none⟩ := by unfold Addr.add; split <;> simp_all
/-- The slice '.slice A n c' reads as the numbers xs. -/
def Rd (k : IntKind) (w : World) (A : Option Addr) (n c : Nat) (xs : List Nat) : Prop :=
  xs.length = n ∧ n ≤ c ∧ n ≤ 9223372036854775807 ∧ (0 < n → ∃ ad, A = some ad ∧ ad.block < w.heap.size ∧ ∀ (j x : Nat), xs[j]? = some x → w.cell? (ad.add j) = some (.int k (x : Int)))

section
variable {k : IntKind} {w w' : World} {A : Option Addr} {n c : Nat} {xs : List Nat}
theorem Rd.nil (k : IntKind) (w : World) (A : Option Addr) (c : Nat) : Rd k w A 0 c [] := ⟨rfl, Nat.zero_le _, by omega, fun h => absurd h (by omega)⟩
theorem Rd.len (h : Rd k w A n c xs) : xs.length = n := h.1
theorem Rd.cap (h : Rd k w A n c xs) : n ≤ c := h.2.1
theorem Rd.max (h : Rd k w A n c xs) : n ≤ 9223372036854775807 := h.2.2.1
theorem Rd.form (h : Rd k w A n c xs) (hn : 0 < n) : ∃ ad, A = some ad ∧ ad.block < w.heap.size ∧ ∀ j, j < n → w.cell? (ad.add j) = some (.int k ((gd xs j : Nat) : Int)) := by
  obtain ⟨h1, _, _, h3⟩ := h
  obtain ⟨ad, rfl, hb, hc⟩ := h3 hn
  refine ⟨ad, rfl, hb, fun j hj => hc j _ ?_⟩
  exact gd_get (by omega)
theorem Rd.below (h : Rd k w A n c xs) (hb : Below w.heap.size w w') : Rd k w' A n c xs := by
  obtain ⟨h1, h2, h2', h3⟩ := h
  refine ⟨h1, h2, h2', fun hn => ?_⟩
  obtain ⟨ad, rfl, hlt, hc⟩ := h3 hn
  exact ⟨ad, rfl, Nat.lt_of_lt_of_le hlt hb.size, fun j x hx => (hb.cell (p := ad.add j) (adlt hlt j)).trans (hc j x hx)⟩
theorem Rd.alloc (h : Rd k w A n c xs) (o : Obj) : Rd k (w.alloc o) A n c xs := h.below ((Below.refl _ _).alloc (Nat.le_refl _) _)
theorem Rd.drewN (h : Rd k w A n c xs) (m : Nat) : Rd k (w.drewN m) A n c xs := h.below (below_drewN (Below.refl _ _) m)
theorem Rd.drew (h : Rd k w A n c xs) : Rd k w.drew A n c xs := h.below (Below.drew (Below.refl _ _))
/-- a store into another block -/
theorem Rd.far (h : Rd k w A n c xs) {p : Addr} (hp : ∀ ad, A = some ad → ad.block ≠ p.block) (u : Value) : Rd k (w.setCell p u) A n c xs := by
  obtain ⟨h1, h2, h2', h3⟩ := h
  refine ⟨h1, h2, h2', fun hn => ?_⟩
  obtain ⟨ad, rfl, hlt, hc⟩ := h3 hn
  refine ⟨ad, rfl, by simpa using hlt, fun j x hx => ?_⟩
  rw [World.cell?_setCell_other _ _ _ _ (fun e => hp ad rfl (by rw [← Go.ChangeShapes.block_add ad j, e]))]
  exact hc j x hx
/-- the first m numbers -/
theorem Rd.take (h : Rd k w A n c xs) {m : Nat} (hm : m ≤ n) : Rd k w A m c (xs.take m) := by
  obtain ⟨h1, h2, h2', h3⟩ := h
  refine ⟨by rw [List.length_take]; omega, by omega, by omega, fun hn => ?_⟩
  obtain ⟨ad, rfl, hlt, hc⟩ := h3 (by omega)
  refine ⟨ad, rfl, hlt, fun j x hx => hc j x ?_⟩
  rw [List.getElem?_take] at hx
  split at hx
  · exact hx
  · cases hx
/-- what stands behind the first m numbers -/
theorem Rd.drop (h : Rd k w A n c xs) {m : Nat} (hm : m ≤ n) : Rd k w (if c = m then A else A.map (·.add m)) (n - m) (c - m) (xs.drop m) := by
  obtain ⟨h1, h2, h2', h3⟩ := h
  refine ⟨by rw [List.length_drop]; omega, by omega, by omega, fun hn => ?_⟩
  obtain ⟨ad, rfl, hlt, hc⟩ := h3 (by omega)
  rw [if_neg (by omega)]
  refine ⟨ad.add m, rfl, adlt hlt m, fun j x hx => ?_⟩
  rw [List.getElem?_drop] at hx
  rw [Addr.add_add]; exact hc _ x hx
/-- a slice that came in as an argument -/
theorem Rd.cells (h : Rd k w A n c xs) {ad : Addr} (hA : A = some ad) : ∀ j u, (vs k xs)[j]? = some u → w.cell? (ad.add j) = some u := by
  intro j u hu
  rw [vs_get] at hu
  obtain ⟨h1, _, _, h3⟩ := h
  cases hx : xs[j]? with
  | none => rw [hx] at hu; cases hu
  | some x =>
    rw [hx] at hu
    have hj : j < xs.length := by rcases Nat.lt_or_ge j xs.length with h | h; exact h; rw [List.getElem?_eq_none h] at hx; cases hx
    obtain ⟨ad', hA', _, hc⟩ := h3 (by omega)
    rw [hA] at hA'
    obtain rfl := Option.some.inj hA'
    rw [hc j x hx]; exact hu
end

/-- The call's own row: new memory from block 'base' on, element type e, the numbers xs. -/
def Own (k : IntKind) (e : TypeId) (w : World) (base : Nat) (A : Option Addr) (n c : Nat) (xs : List Nat) : Prop := w.ownsRow base e 1 (.slice A n c) n (vs k xs)

section
variable {k : IntKind} {e : TypeId} {w w' : World} {base : Nat} {A : Option Addr} {n c : Nat} {xs : List Nat}
theorem Own.len (h : Own k e w base A n c xs) : xs.length = n := by have := h.1; rw [vs_length] at this; omega
theorem Own.nil (k : IntKind) (e : TypeId) (w : World) (base : Nat) : Own k e w base none 0 0 [] := World.ownsRow_nil w base e 1
theorem Own.ways (h : Own k e w base A n c xs) : (A = none ∧ n = 0 ∧ c = 0 ∧ xs = []) ∨ ∃ g, A = some ⟨g, 0, none⟩ ∧ base ≤ g ∧ g < w.heap.size ∧ n ≤ c ∧ c ≤ 9223372036854775807 := by
  rcases h.2 with ⟨h1, h2⟩ | ⟨g, cap, cur, h1, hb, hg, hnc, hm, _⟩
  · left
    simp only [Value.slice.injEq] at h1
    exact ⟨h1.1, h1.2.1, h1.2.2, List.eq_nil_of_length_eq_zero (by rw [Own.len h, h2])⟩
  · right
    simp only [Value.slice.injEq] at h1
    obtain ⟨rfl, _, rfl⟩ := h1
    exact ⟨g, rfl, hb, (Array.getElem?_eq_some_iff.1 hg).1, hnc, by unfold maxLen at hm; omega⟩
theorem Own.rd (h : Own k e w base A n c xs) : Rd k w A n c xs := by
  rcases h.ways with ⟨rfl, rfl, rfl, rfl⟩ | ⟨g, rfl, _, hlt, hnc, hm⟩
  · exact Rd.nil _ _ _ _
  · refine ⟨h.len, hnc, by omega, fun hn => ⟨⟨g, 0, none⟩, rfl, hlt, fun j x hx => ?_⟩⟩
    have := World.ownsRow.cells h (g := g) rfl j (.int k (x : Int)) (by rw [vs_get, hx]; rfl)
    exact this
theorem Own.below (h : Own k e w base A n c xs) (hb : Below w.heap.size w w') : Own k e w' base A n c xs := by
  refine ⟨h.1, ?_⟩
  rcases h.2 with hn | ⟨g, cap, cur, h1, hg, hh, rest⟩
  · exact .inl hn
  · exact .inr ⟨g, cap, cur, h1, hg, (hb.block g (Array.getElem?_eq_some_iff.1 hh).1).trans hh, rest⟩
theorem Own.lower (h : Own k e w base A n c xs) {b' : Nat} (hb : b' ≤ base) : Own k e w b' A n c xs := by
  refine ⟨h.1, ?_⟩
  rcases h.2 with hn | ⟨g, cap, cur, h1, hg, rest⟩
  · exact .inl hn
  · exact .inr ⟨g, cap, cur, h1, Nat.le_trans hb hg, rest⟩
/-- a block known whole -/
theorem Own.of_bk {g : Nat} (h : Bk w g e (va k xs)) (hb : base ≤ g) (hn : xs.length = n) (hm : n ≤ 9223372036854775807) : Own k e w base (some ⟨g, 0, none⟩) n n xs := by
  refine ⟨by rw [vs_length]; omega, .inr ⟨g, n, va k xs, rfl, hb, h, Nat.le_refl _, by unfold maxLen; omega, by rw [va_size]; omega, ?_⟩⟩
  rw [Nat.mul_one, List.take_of_length_le (by simp [va, vs_length]; omega)]
  simp [va]
/-- a part of a block known whole, from its begin -/
theorem Own.of_bk_take {g m : Nat} {ys : List Nat} (h : Bk w g e (va k ys)) (hb : base ≤ g) (hm : m ≤ ys.length) (hx : xs = ys.take m) (hl : ys.length ≤ 9223372036854775807) : Own k e w base (some ⟨g, 0, none⟩) m ys.length xs := by
  subst hx
  refine ⟨by rw [vs_length, List.length_take]; omega, .inr ⟨g, ys.length, va k ys, rfl, hb, h, hm, by unfold maxLen; omega, by rw [va_size]; omega, ?_⟩⟩
  simp [va, vs, List.map_take]
/-- the block of a full row, known whole -/
theorem Own.bk {g : Nat} (h : Own k e w base (some ⟨g, 0, none⟩) n n xs) : Bk w g e (va k xs) := by
  rcases h.2 with ⟨h1, _⟩ | ⟨g', cap, cur, h1, _, hh, _, _, hs, ht⟩
  · simp at h1
  · simp only [Value.slice.injEq, Option.some.injEq, Addr.mk.injEq, and_true, true_and] at h1
    obtain ⟨rfl, rfl⟩ := h1
    have : cur = va k xs := by
      apply Array.toList_inj.1
      rw [Nat.mul_one, List.take_of_length_le (by simp; omega)] at ht
      rw [ht]; simp [va]
    unfold Bk
    rw [← this]; exact hh
/-- any block that holds a row of the call's own: its first cells are the numbers -/
theorem Own.bk_any {g : Nat} (h : Own k e w base (some ⟨g, 0, none⟩) n c xs) : ∃ cs : Array Value, Bk w g e cs ∧ cs.size = c ∧ cs.toList.take n = vs k xs := by
  rcases h.2 with ⟨h1, _⟩ | ⟨g', cap, cur, h1, _, hh, _, _, hs, ht⟩
  · simp at h1
  · simp only [Value.slice.injEq, Option.some.injEq, Addr.mk.injEq, and_true, true_and] at h1
    obtain ⟨rfl, rfl⟩ := h1
    exact ⟨cur, hh, by omega, by simpa using ht⟩
end

section
variable {P : Program} (w : World)
/-- append onto a row of the call's own, from whatever slice -/
theorem run_append_rd (k : IntKind) (base : Nat) (t ty e : TypeId) (i : TypeInfo) (z : Value) (bytes : Nat) (ht : P.underlying t = some (.slice e)) (hi : P.info? e = some i) (hz : i.zero = some z)
    (hsize : i.size = 1) (hby : i.bytes = bytes) (hzs : z.cells.size = 1)
    (A : Option Addr) (n c : Nat) (xs : List Nat) (hown : Own k e w base A n c xs) (B : Option Addr) (m d : Nat) (ys : List Nat) (hr : Rd k w B m d ys)
    (h63 : n + m ≤ maxLen) (hbytes : (n + m) * bytes ≤ 140737488355328) (hbase : base ≤ w.heap.size) :
    ∃ A' c' w', (Builtin.append_ #[t, t] ty #[.slice A n c, .slice B m d]).run P w = .ok (.slice A' (n + m) c') w' ∧ Own k e w' base A' (n + m) c' (xs ++ ys) ∧ Below base w w' ∧ w.heap.size ≤ w'.heap.size ∧
      (∀ g, g < w.heap.size → (∀ o, A ≠ some ⟨g, o, none⟩) → w'.heap[g]? = w.heap[g]?) := by
  have blw {v' : Value} {w' : World} (h3 : w.grownBy w' (Value.slice A n c).ownBlock) : Below base w w' :=
    (Below.refl _ _).grown h3 hbase (fun g hg => ((World.ownsRow.lt hown) g hg).1)
  have kept {w' : World} (h3 : w.grownBy w' (Value.slice A n c).ownBlock) : ∀ g, g < w.heap.size → (∀ o, A ≠ some ⟨g, o, none⟩) → w'.heap[g]? = w.heap[g]? := by
    intro g hg hne
    refine h3.block g hg ?_
    rcases hown.ways with ⟨rfl, _⟩ | ⟨g', rfl, _⟩
    · simp [Value.ownBlock]
    · simp only [Value.ownBlock]
      intro e
      simp only [Option.some.injEq] at e
      exact hne 0 (by rw [e])
  have shape {v' : Value} {w' : World} (h : w'.ownsRow base e 1 v' (n + m) (vs k (xs ++ ys))) : ∃ A' c', v' = .slice A' (n + m) c' := by
    rcases h.2 with ⟨h1, h2⟩ | ⟨g, cap, cur, h1, _⟩
    · exact ⟨none, 0, by rw [h1, h2]⟩
    · exact ⟨_, _, h1⟩
  rcases Nat.eq_zero_or_pos m with h0 | h0
  · subst h0
    have hy : ys = [] := List.eq_nil_of_length_eq_zero hr.len
    subst hy
    rcases B with _ | ad
    · refine ⟨A, c, w, ?_, by simpa using hown, Below.refl _ _, Nat.le_refl _, fun _ _ _ => rfl⟩
      rcases hown.2 with ⟨h1, h2⟩ | ⟨g, cap, cur, h1, _, _, hnc, _⟩
      · simp only [Value.slice.injEq] at h1
        obtain ⟨rfl, rfl, rfl⟩ := h1
        simp [Builtin.append_, run_underlying ht, sizeOf, typeInfo, hi, Builtin.lenOf, Builtin.firstCells]
      · simp only [Value.slice.injEq] at h1
        obtain ⟨rfl, _, rfl⟩ := h1
        simp [Builtin.append_, run_underlying ht, sizeOf, typeInfo, hi, Builtin.lenOf, Builtin.firstCells, hnc, storeCells]
    · obtain ⟨v', w', hrun, h2, h3, _, _⟩ := run_append_own_at (P := P) w base t ty e i z 1 bytes ht hi hz hsize hby hzs (by omega) (.slice A n c) n (vs k xs) hown ad 0 d [] (by simp) (by simp) (by simp) h63 hbytes hbase
      obtain ⟨A', c', rfl⟩ := shape (by simpa using h2)
      exact ⟨A', c', w', hrun, by simpa [Own] using h2, blw (v' := .slice A' (n + 0) c') h3, h3.size, kept h3⟩
  · obtain ⟨ad, rfl, hlt, hc⟩ := hr.form h0
    obtain ⟨v', w', hrun, h2, h3, _, _⟩ := run_append_own_at (P := P) w base t ty e i z 1 bytes ht hi hz hsize hby hzs (by omega) (.slice A n c) n (vs k xs) hown ad m d (vs k ys) (by rw [vs_length, hr.len]; omega) (hr.cells rfl) (vs_one k ys) h63 hbytes hbase
    rw [← vs_append] at h2
    obtain ⟨A', c', rfl⟩ := shape h2
    exact ⟨A', c', w', hrun, h2, blw (v' := .slice A' (n + m) c') h3, h3.size, kept h3⟩

theorem wp_append_rd {o : Oper} {a : Act} {K : Act → World → Prop} {Q : Exit → Act → World → Prop} (s x : Operand) (t : TypeId)
    (ho : o.op = .call { callee := .builtin .append, args := #[s, x], argTypes := #[t, t] })
    (k : IntKind) (base : Nat) (e : TypeId) (i : TypeInfo) (z : Value) (bytes : Nat) (ht : P.underlying t = some (.slice e)) (hi : P.info? e = some i) (hz : i.zero = some z)
    (hsize : i.size = 1) (hby : i.bytes = bytes) (hzs : z.cells.size = 1)
    (A : Option Addr) (n c : Nat) (xs : List Nat) (hs : a.eval s = .slice A n c) (hown : Own k e w base A n c xs) (B : Option Addr) (m d : Nat) (ys : List Nat) (hx : a.eval x = .slice B m d) (hr : Rd k w B m d ys)
    (h63 : n + m ≤ maxLen) (hbytes : (n + m) * bytes ≤ 140737488355328) (hbase : base ≤ w.heap.size)
    (h : ∀ A' c' w', Own k e w' base A' (n + m) c' (xs ++ ys) → Below base w w' → w.heap.size ≤ w'.heap.size → (∀ g, g < w.heap.size → (∀ o, A ≠ some ⟨g, o, none⟩) → w'.heap[g]? = w.heap[g]?) → K (a.put o.dst (.slice A' (n + m) c')) w') : o.wp P a w K Q := by
  obtain ⟨A', c', w', hrun, h2, h3, h4, h5⟩ := run_append_rd (P := P) w k base t o.type e i z bytes ht hi hz hsize hby hzs A n c xs hown B m d ys hr h63 hbytes hbase
  unfold Oper.wp execOp
  simp only [ho, resolve, invoke, builtin, Sem.run_bind, Sem.run_pure, Result.andThen_ok, List.map_toArray, List.map_cons, List.map_nil, hs, hx, hrun]
  exact h A' c' w' h2 h3 h4 h5

theorem wpList_append_rd {ops : Array Oper} {rest : List Oper} {o : Oper} {a : Act} {Q : Exit → Act → World → Prop} (hgd : o.guard = none) (s x : Operand) (t : TypeId)
    (ho : o.op = .call { callee := .builtin .append, args := #[s, x], argTypes := #[t, t] })
    (k : IntKind) (base : Nat) (e : TypeId) (i : TypeInfo) (z : Value) (bytes : Nat) (ht : P.underlying t = some (.slice e)) (hi : P.info? e = some i) (hz : i.zero = some z)
    (hsize : i.size = 1) (hby : i.bytes = bytes) (hzs : z.cells.size = 1)
    (A : Option Addr) (n c : Nat) (xs : List Nat) (hs : a.eval s = .slice A n c) (hown : Own k e w base A n c xs) (B : Option Addr) (m d : Nat) (ys : List Nat) (hx : a.eval x = .slice B m d) (hr : Rd k w B m d ys)
    (h63 : n + m ≤ maxLen) (hbytes : (n + m) * bytes ≤ 140737488355328) (hbase : base ≤ w.heap.size)
    (h : ∀ A' c' w', Own k e w' base A' (n + m) c' (xs ++ ys) → Below base w w' → w.heap.size ≤ w'.heap.size → (∀ g, g < w.heap.size → (∀ o, A ≠ some ⟨g, o, none⟩) → w'.heap[g]? = w.heap[g]?) → wpList P ops Q rest (a.put o.dst (.slice A' (n + m) c')) w') : wpList P ops Q (o :: rest) a w :=
  wpList_plain hgd fun _ hK => wp_append_rd w s x t ho k base e i z bytes ht hi hz hsize hby hzs A n c xs hs hown B m d ys hx hr h63 hbytes hbase fun A' c' w' h2 h3 h4 h5 => hK _ _ (h A' c' w' h2 h3 h4 h5)
theorem step_append_rd {ops : Array Oper} {o : Oper} {a : Act} {K : Act → World → Prop} {Q : Exit → Act → World → Prop} {E : Prop} (hgd : o.guard = none) (s x : Operand) (t : TypeId)
    (ho : o.op = .call { callee := .builtin .append, args := #[s, x], argTypes := #[t, t] })
    (k : IntKind) (base : Nat) (e : TypeId) (i : TypeInfo) (z : Value) (bytes : Nat) (ht : P.underlying t = some (.slice e)) (hi : P.info? e = some i) (hz : i.zero = some z)
    (hsize : i.size = 1) (hby : i.bytes = bytes) (hzs : z.cells.size = 1)
    (A : Option Addr) (n c : Nat) (xs : List Nat) (hs : a.eval s = .slice A n c) (hown : Own k e w base A n c xs) (B : Option Addr) (m d : Nat) (ys : List Nat) (hx : a.eval x = .slice B m d) (hr : Rd k w B m d ys)
    (h63 : n + m ≤ maxLen) (hbytes : (n + m) * bytes ≤ 140737488355328) (hbase : base ≤ w.heap.size)
    (h : ∀ A' c' w', Own k e w' base A' (n + m) c' (xs ++ ys) → Below base w w' → w.heap.size ≤ w'.heap.size → (∀ g, g < w.heap.size → (∀ o, A ≠ some ⟨g, o, none⟩) → w'.heap[g]? = w.heap[g]?) → K (a.put o.dst (.slice A' (n + m) c')) w') :
    if Region.wanted o (yielded ops a.tmps) = true then Oper.wp P o a w K Q else E := by
  have hw : Region.wanted o (yielded ops a.tmps) = true := by simp [Region.wanted, hgd]
  rw [if_pos hw]
  exact wp_append_rd w s x t ho k base e i z bytes ht hi hz hsize hby hzs A n c xs hs hown B m d ys hx hr h63 hbytes hbase h
end
end Go.Proofs.Yteemglgbhdpodaa
