/- Small facts that all walks of this family use: what lies in blocks that were there before, and ranges of numbers. -/
import Derived.Test.YteemglgbhdpodaaRows
import Derived.WalkKit
import Derived.WalkSpells
import Derived.WalkLawsBesides
import Derived.IntWalk
import Derived.Lib.Hide
import Derived.Deep.QuietTactic
import Derived.BigQuiet
import Derived.Deep.LoopGhost
import Derived.Laws.OwnMore
import Derived.Deep.Draws
import Derived.Laws.Rows
import Derived.StillTailTactics
namespace Go.Proofs.Yteemglgbhdpodaa
set_option linter.unusedSimpArgs false
set_option linter.unusedVariables false
set_option maxRecDepth 100000
open Go.RowKit

theorem bcell {B : Nat} {W w1 : World} (hb : Below B W w1) : (∀ b o, b < B → w1.cell? ⟨b, o, none⟩ = W.cell? ⟨b, o, none⟩) ∧ (∀ b o, b < B → w1.frozen? ⟨b, o, none⟩ = W.frozen? ⟨b, o, none⟩) :=
  ⟨fun b o h => hb.cell (p := ⟨b, o, none⟩) h, fun b o h => hb.frozen (p := ⟨b, o, none⟩) h⟩

def I64 (x : Int) : Prop := -9223372036854775808 ≤ x ∧ x ≤ 9223372036854775807
attribute [irreducible] I64
theorem I64.lo {x : Int} (h : I64 x) : -9223372036854775808 ≤ x := by unfold I64 at h; exact h.1
theorem I64.hi {x : Int} (h : I64 x) : x ≤ 9223372036854775807 := by unfold I64 at h; exact h.2
theorem I64.mk {x : Int} (h0 : -9223372036854775808 ≤ x) (h : x ≤ 9223372036854775807) : I64 x := by unfold I64; exact ⟨h0, h⟩

/-- a place of a list of numbers, 0 beyond its end -/
def gd (xs : List Nat) (j : Nat) : Nat := (xs[j]?).getD 0
theorem gd_some {xs : List Nat} {j x : Nat} (h : xs[j]? = some x) : gd xs j = x := by unfold gd; rw [h]; rfl
theorem gd_lt {xs : List Nat} {j : Nat} (h : j < xs.length) : gd xs j = xs[j] := gd_some (List.getElem?_eq_getElem h)
theorem gd_ge {xs : List Nat} {j : Nat} (h : xs.length ≤ j) : gd xs j = 0 := by unfold gd; rw [List.getElem?_eq_none h]; rfl
theorem gd_get {xs : List Nat} {j : Nat} (h : j < xs.length) : xs[j]? = some (gd xs j) := by rw [gd_lt h]; exact List.getElem?_eq_getElem h
theorem gd_append_left {xs ys : List Nat} {j : Nat} (h : j < xs.length) : gd (xs ++ ys) j = gd xs j := by unfold gd; rw [List.getElem?_append_left h]
theorem gd_append_right {xs ys : List Nat} {j : Nat} (h : xs.length ≤ j) : gd (xs ++ ys) j = gd ys (j - xs.length) := by unfold gd; rw [List.getElem?_append_right h]
theorem gd_take {xs : List Nat} {j k : Nat} (h : j < k) : gd (xs.take k) j = gd xs j := by unfold gd; rw [List.getElem?_take, if_pos h]
theorem gd_drop (xs : List Nat) (j k : Nat) : gd (xs.drop k) j = gd xs (k + j) := by unfold gd; rw [List.getElem?_drop]
theorem gd_set {xs : List Nat} {j k y : Nat} (h : k ≠ j) : gd (xs.set k y) j = gd xs j := by unfold gd; rw [List.getElem?_set_ne h]
theorem gd_set_self {xs : List Nat} {j y : Nat} (h : j < xs.length) : gd (xs.set j y) j = y := by unfold gd; rw [List.getElem?_set_self h]; rfl
theorem gd_replicate (n j : Nat) : gd (List.replicate n 0) j = 0 := by
  rcases Nat.lt_or_ge j n with h | h
  · rw [gd_lt (by simpa using h)]; simp
  · rw [gd_ge (by simpa using h)]

theorem same_of {P : Program} {f : FuncId} {args : Array Value} {w : World} {v : Value} (h : Calls P f args w fun e w' => e = .returned v ∧ w = w') : Calls P f args w fun e w' => e = .returned v ∧ w' = w :=
  h.mono fun _ _ h => ⟨h.1, h.2.symm⟩
theorem ret_int {k : IntKind} {a b : Int} (h : a = b) : Ending.returned (.int k a) = Ending.returned (.int k b) := by rw [h]
theorem ret_bool {a b : Bool} (h : a = b) : Ending.returned (.bool a) = Ending.returned (.bool b) := by rw [h]

/-- Block g of the world holds just the cells cs, of element type t; none is frozen. -/
def Bk (w : World) (g : Nat) (t : TypeId) (cs : Array Value) : Prop := w.heap[g]? = some (.cells cs t (0, 0))
theorem Bk.lt {w : World} {g : Nat} {t : TypeId} {cs : Array Value} (h : Bk w g t cs) : g < w.heap.size := by
  rcases Nat.lt_or_ge g w.heap.size with hlt | hge
  · exact hlt
  · unfold Bk at h; rw [Array.getElem?_eq_none hge] at h; cases h
theorem Bk.cell {w : World} {g : Nat} {t : TypeId} {cs : Array Value} (h : Bk w g t cs) (i : Nat) : w.cell? ⟨g, i, none⟩ = cs[i]? := cell_of_row w g i cs t (0, 0) h
theorem Bk.frozen {w : World} {g : Nat} {t : TypeId} {cs : Array Value} (h : Bk w g t cs) (i : Nat) : w.frozen? ⟨g, i, none⟩ = false := by unfold Bk at h; simp [World.frozen?, h]
theorem Bk.new (w : World) (t : TypeId) (cs : Array Value) : Bk (w.alloc (.cells cs t)) w.heap.size t cs := heap_alloc_new w _
theorem Bk.at_new {w : World} {g : Nat} (t : TypeId) (cs : Array Value) (h : g = w.heap.size) : Bk (w.alloc (.cells cs t)) g t cs := by subst h; exact heap_alloc_new w _
theorem Bk.drew {w : World} {g : Nat} {t : TypeId} {cs : Array Value} (h : Bk w g t cs) : Bk w.drew g t cs := h
theorem Bk.alloc {w : World} {g : Nat} {t : TypeId} {cs : Array Value} (h : Bk w g t cs) (o : Obj) : Bk (w.alloc o) g t cs := (Below.heap_alloc w o g h.lt).trans h
theorem Bk.set {w : World} {g : Nat} {t : TypeId} {cs : Array Value} (h : Bk w g t cs) (i : Nat) (u : Value) : Bk (w.setCell ⟨g, i, none⟩ u) g t (cs.setIfInBounds i u) := by
  unfold Bk at h ⊢
  simp [World.setCell, Array.getElem?_modify, h]
theorem Bk.far {w : World} {g : Nat} {t : TypeId} {cs : Array Value} (h : Bk w g t cs) {p : Addr} (hp : g ≠ p.block) (u : Value) : Bk (w.setCell p u) g t cs := (Below.heap_setCell w p u g hp).trans h
theorem Bk.below {w w' : World} {g : Nat} {t : TypeId} {cs : Array Value} {B : Nat} (h : Bk w g t cs) (hb : Below B w w') (hg : g < B) : Bk w' g t cs := (hb.block g hg).trans h

theorem box1 {w w' : World} {a : Array Value} {t : TypeId} (hb : Below (w.alloc (.cells a t)).heap.size (w.alloc (.cells a t)) w') :
    Bk w' w.heap.size t a ∧ w.heap.size < w'.heap.size ∧ Below w.heap.size w w' := by
  have h := hb.size
  simp only [World.size_alloc] at h
  exact ⟨(Bk.new w t a).below hb (by simp), by omega, ((Below.refl _ _).alloc (Nat.le_refl _) _).trans (hb.mono (by simp))⟩
theorem undrew {B n : Nat} {w w' : World} (h : Below B (w.drewN n) w') : Below B w w' := (below_drewN (Below.refl _ _) n).trans h
theorem undrew1 {B : Nat} {w w' : World} (h : Below B w.drew w') : Below B w w' := (Below.drew (Below.refl _ _)).trans h
theorem box1d {w w' : World} {a : Array Value} {t : TypeId} {n : Nat} (hb : Below ((w.alloc (.cells a t)).drewN n).heap.size ((w.alloc (.cells a t)).drewN n) w') :
    Bk w' w.heap.size t a ∧ w.heap.size < w'.heap.size ∧ Below w.heap.size w w' := box1 (undrew hb)
theorem box2 {w w' : World} {a b : Array Value} {t u : TypeId} (hb : Below ((w.alloc (.cells a t)).alloc (.cells b u)).heap.size ((w.alloc (.cells a t)).alloc (.cells b u)) w') :
    Bk w' w.heap.size t a ∧ Bk w' (w.heap.size + 1) u b ∧ w.heap.size < w'.heap.size ∧ w.heap.size + 1 < w'.heap.size ∧ Below w.heap.size w w' := by
  have h := hb.size
  simp only [World.size_alloc] at h
  exact ⟨((Bk.new w t a).alloc _).below hb (by simp <;> omega), (Bk.at_new (w := w.alloc (.cells a t)) (g := w.heap.size + 1) u b (by simp)).below hb (by simp), by omega, by omega,
    (((Below.refl _ _).alloc (Nat.le_refl _) _).alloc (by simp) _).trans (hb.mono (by simp <;> omega))⟩
theorem box3 {w w' : World} {a b c : Array Value} {t u v : TypeId} (hb : Below (((w.alloc (.cells a t)).alloc (.cells b u)).alloc (.cells c v)).heap.size (((w.alloc (.cells a t)).alloc (.cells b u)).alloc (.cells c v)) w') :
    Bk w' w.heap.size t a ∧ Bk w' (w.heap.size + 1) u b ∧ Bk w' (w.heap.size + 1 + 1) v c ∧ w.heap.size < w'.heap.size ∧ w.heap.size + 1 < w'.heap.size ∧ w.heap.size + 1 + 1 < w'.heap.size ∧ Below w.heap.size w w' := by
  have h := hb.size
  simp only [World.size_alloc] at h
  exact ⟨(((Bk.new w t a).alloc _).alloc _).below hb (by simp <;> omega), ((Bk.at_new (w := w.alloc (.cells a t)) (g := w.heap.size + 1) u b (by simp)).alloc _).below hb (by simp <;> omega),
    (Bk.at_new (w := (w.alloc (.cells a t)).alloc (.cells b u)) (g := w.heap.size + 1 + 1) v c (by simp)).below hb (by simp), by omega, by omega, by omega,
    ((((Below.refl _ _).alloc (Nat.le_refl _) _).alloc (by simp) _).alloc (by simp <;> omega) _).trans (hb.mono (by simp <;> omega))⟩
end Go.Proofs.Yteemglgbhdpodaa
