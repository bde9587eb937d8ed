/- An argument that is a row of samples. -/
import Derived.Test.YtbiajjdjbnnggaaG6
import Derived.Test.YtbiajjdjbnnggaaK0
namespace Go.Proofs.Ytbiajjdjbnnggaa
set_option linter.unusedSimpArgs false
set_option linter.unusedVariables false
set_option maxRecDepth 100000
open Go.RowKit Go.ChangeShapes Go.WideShapes Go.Deep

section
variable {H : Type} {enc : TypeId × Value → H} {P : Program} {w : World} {base : Nat} {spare : Nat → Bool} {held : Bool}
theorem open_slice_fields {t e : TypeId} {fs : Array Field} {fuel : Nat} {cs : List Value} {x : DataW H × List MemPlace} (ht : P.underlying t = some (.slice e)) (he : P.underlying e = some (.struct fs))
    (hone : oneCellFields P fs = true) (hC : P.cellsOf e = fs.size) (h : DataW.trod enc P w base spare held fuel t cs = some x) :
    (cs = [.slice none 0 0] ∧ x = (.nil, [])) ∨
    ∃ (a : Addr) (len cap m : Nat) (D : Nat → DataW H) (Pl : Nat → List MemPlace), cs = [.slice (some a) len cap] ∧ base ≤ a.block ∧ len ≤ cap ∧ cap ≤ maxLen ∧ m = (if spare a.block then cap else len) ∧
      x = (.slice ((List.range len).map D) ((List.range (m - len)).map fun j => D (len + j)), MemPlace.row a (m * fs.size) ++ (List.range m).flatMap Pl) ∧
      ∀ i, i < m → ∃ (ys : List (DataW H × List MemPlace)) (n : Nat), D i = .agg (ys.map (·.1)) ∧ Pl i = ys.flatMap (·.2) ∧ ys.length = fs.size ∧
        ∀ (j : Nat) (f : Field), fs[j]? = some f → ∃ (v : Value) (y : DataW H × List MemPlace), w.cell? (a.add (i * fs.size + j)) = some v ∧ ys[j]? = some y ∧ DataW.trod enc P w base spare held n f.type [v] = some y := by
  rcases open_slice ht h with h0 | ⟨a, len, cap, m, n, D, Pl, hcs, hb, hl, hm, hmm, hx, hi⟩
  · exact .inl h0
  · refine .inr ⟨a, len, cap, m, D, Pl, hcs, hb, hl, hm, hmm, by rw [hC] at hx; exact hx, fun i him => ?_⟩
    obtain ⟨cs', hc, ht'⟩ := hi i him
    rw [hC] at hc
    obtain ⟨ys, n', hn', hy, hlen, hyl, hf⟩ := DataW.trod_struct he ht'
    obtain ⟨_, hcl, hat⟩ := World.cells?_some hc
    simp only [Prod.mk.injEq] at hy
    refine ⟨ys, n', hy.1, hy.2, hyl, fun j f hj => ?_⟩
    obtain ⟨ho, hk⟩ := hone_of hone j f hj
    have hjl : j < fs.size := (Array.getElem?_eq_some_iff.1 hj).1
    have hcell := hat j hjl
    have hv : cs'[j]? = some (cs'[j]'(by omega)) := List.getElem?_eq_getElem (by omega)
    have h1 := hf j f hj
    rw [ho, hk] at h1
    have hone' : (cs'.drop j).take 1 = [cs'[j]'(by omega)] := by
      rw [List.drop_eq_getElem_cons (by omega)]
      rfl
    rw [hone'] at h1
    have hys : ys[j]? = some (ys[j]'(by omega)) := List.getElem?_eq_getElem (by omega)
    refine ⟨_, _, ?_, hys, h1.trans hys⟩
    rw [← Go.Deep.add_add, hcell, hv]
end
def fourC (W : World) (ad : Addr) (i : Nat) (s : Smp) : Prop := W.cell? (ad.add (i * 4)) = some (.int .i64 s.o) ∧ W.cell? (ad.add (i * 4 + 1)) = some (.int .i64 s.d) ∧ W.cell? (ad.add (i * 4 + 2)) = some (.int .i64 s.p) ∧ W.cell? (ad.add (i * 4 + 3)) = some (.int .i64 s.a)
theorem smps_arg {H : Type} {enc : TypeId × Value → H} {W : World} {A : Option Addr} {n c : Nat} {d : DataW H} {p : List MemPlace}
    (h0 : DataW.Trod enc Try.prog W 0 (fun _ => true) true 22 (.slice A n c) d p) : ∃ ss : List Smp, RdS W A n c ss := by
  obtain ⟨fuel, hf⟩ := h0
  rcases open_slice_fields Try.underlying22 Try.underlying27 (by kernel_rfl) (by kernel_rfl) hf with ⟨hcs, _⟩ | ⟨ad, len, cap, m, D, Pl, hcs, hb, hl, hm, hmm, _, hi⟩
  · simp [Value.cells] at hcs
    obtain ⟨rfl, rfl, rfl⟩ := hcs
    exact ⟨[], rfl, Nat.le_refl _, by decide, fun h => absurd h (by decide)⟩
  · simp [Value.cells] at hcs
    obtain ⟨rfl, rfl, rfl⟩ := hcs
    simp only [if_true] at hmm
    have H : ∀ i, ∃ s : Smp, i < n → fourC W ad i s := by
      intro i
      by_cases hin : i < n
      · obtain ⟨ys, k, _, _, _, hfj⟩ := hi i (by omega)
        obtain ⟨v0, y0, c0, _, z0⟩ := hfj 0 _ rfl
        obtain ⟨v1, y1, c1, _, z1⟩ := hfj 1 _ rfl
        obtain ⟨v2, y2, c2, _, z2⟩ := hfj 2 _ rfl
        obtain ⟨v3, y3, c3, _, z3⟩ := hfj 3 _ rfl
        obtain ⟨x0, e0, _, _⟩ := DataW.trod_int Try.underlying2 z0
        obtain ⟨x1, e1, _, _⟩ := DataW.trod_int Try.underlying2 z1
        obtain ⟨x2, e2, _, _⟩ := DataW.trod_int Try.underlying2 z2
        obtain ⟨x3, e3, _, _⟩ := DataW.trod_int Try.underlying2 z3
        simp only [List.cons.injEq, and_true] at e0 e1 e2 e3
        subst e0 e1 e2 e3
        exact ⟨⟨x0, x1, x2, x3⟩, fun _ => ⟨c0, c1, c2, c3⟩⟩
      · exact ⟨s0, fun h => absurd h hin⟩
    obtain ⟨f, hf⟩ := Classical.axiomOfChoice H
    refine ⟨(List.range n).map f, by simp, hl, by unfold maxLen at hm; omega, fun hn => ⟨ad, rfl, ?_, fun j hj => ?_⟩⟩
    · have := World.block_lt_of_cell? W _ (hf 0 hn).1
      rwa [Go.ChangeShapes.block_add] at this
    · have e : rg ((List.range n).map f) j = f j := by
        unfold rg; rw [List.getD_eq_getElem?_getD, List.getElem?_map, List.getElem?_range hj]; rfl
      rw [e]
      exact hf j hj
end Go.Proofs.Ytbiajjdjbnnggaa
