/- Texts of this claim, joined: B0, Bt, N0, N1, N2, N3, Sh, N4, N5, N6. -/
import Derived.Test.YteelppebdcgbpaaRows
import Derived.WalkKit
import Derived.WalkSpells
import Derived.WalkLawsBesides
import Derived.IntWalk
import Derived.Lib.Hide
import Derived.Deep.QuietTactic
import Derived.BigQuiet
import Derived.Deep.LoopGhost
import Derived.Laws.OwnMore
import Derived.Deep.Draws
import Derived.Laws.Rows
import Derived.StillTailTactics
import Derived.Lib.BitFns
import Derived.Maps.AppendAt
import Derived.Deep.AppendLies
import Derived.RegionTactic
import Derived.OwnWalk
import Derived.Laws.MakeOwn
import Derived.ChangeSlices
import Derived.DataElems
import Derived.Shelf.Small.Bits
import Derived.Shelf.Strconv.Itoa0
import Derived.Shelf.Bits.Mul64
import Derived.Test.YteelppebdcgbpaaProg
import Derived.Laws.Externs
import Derived.Deep.RegionHeld3

/- Small facts that all walks of this family use: what lies in blocks that were there before, and ranges of numbers. -/
namespace Go.Proofs.Yteelppebdcgbpaa
set_option linter.unusedSimpArgs false
set_option linter.unusedVariables false
open Go.RowKit

theorem bcell {B : Nat} {W w1 : World} (hb : Below B W w1) : (∀ b o, b < B → w1.cell? ⟨b, o, none⟩ = W.cell? ⟨b, o, none⟩) ∧ (∀ b o, b < B → w1.frozen? ⟨b, o, none⟩ = W.frozen? ⟨b, o, none⟩) :=
  ⟨fun b o h => hb.cell (p := ⟨b, o, none⟩) h, fun b o h => hb.frozen (p := ⟨b, o, none⟩) h⟩

def I64 (x : Int) : Prop := -9223372036854775808 ≤ x ∧ x ≤ 9223372036854775807
attribute [irreducible] I64
theorem I64.lo {x : Int} (h : I64 x) : -9223372036854775808 ≤ x := by unfold I64 at h; exact h.1
theorem I64.hi {x : Int} (h : I64 x) : x ≤ 9223372036854775807 := by unfold I64 at h; exact h.2
theorem I64.mk {x : Int} (h0 : -9223372036854775808 ≤ x) (h : x ≤ 9223372036854775807) : I64 x := by unfold I64; exact ⟨h0, h⟩

/-- a place of a list of numbers, 0 beyond its end -/
def gd (xs : List Nat) (j : Nat) : Nat := (xs[j]?).getD 0
theorem gd_some {xs : List Nat} {j x : Nat} (h : xs[j]? = some x) : gd xs j = x := by unfold gd; rw [h]; rfl
theorem gd_lt {xs : List Nat} {j : Nat} (h : j < xs.length) : gd xs j = xs[j] := gd_some (List.getElem?_eq_getElem h)
theorem gd_ge {xs : List Nat} {j : Nat} (h : xs.length ≤ j) : gd xs j = 0 := by unfold gd; rw [List.getElem?_eq_none h]; rfl
theorem gd_get {xs : List Nat} {j : Nat} (h : j < xs.length) : xs[j]? = some (gd xs j) := by rw [gd_lt h]; exact List.getElem?_eq_getElem h
theorem gd_append_left {xs ys : List Nat} {j : Nat} (h : j < xs.length) : gd (xs ++ ys) j = gd xs j := by unfold gd; rw [List.getElem?_append_left h]
theorem gd_append_right {xs ys : List Nat} {j : Nat} (h : xs.length ≤ j) : gd (xs ++ ys) j = gd ys (j - xs.length) := by unfold gd; rw [List.getElem?_append_right h]
theorem gd_take {xs : List Nat} {j k : Nat} (h : j < k) : gd (xs.take k) j = gd xs j := by unfold gd; rw [List.getElem?_take, if_pos h]
theorem gd_drop (xs : List Nat) (j k : Nat) : gd (xs.drop k) j = gd xs (k + j) := by unfold gd; rw [List.getElem?_drop]
theorem gd_set {xs : List Nat} {j k y : Nat} (h : k ≠ j) : gd (xs.set k y) j = gd xs j := by unfold gd; rw [List.getElem?_set_ne h]
theorem gd_set_self {xs : List Nat} {j y : Nat} (h : j < xs.length) : gd (xs.set j y) j = y := by unfold gd; rw [List.getElem?_set_self h]; rfl
theorem gd_replicate (n j : Nat) : gd (List.replicate n 0) j = 0 := by
  rcases Nat.lt_or_ge j n with h | h
  · rw [gd_lt (by simpa using h)]; simp
  · rw [gd_ge (by simpa using h)]

theorem same_of {P : Program} {f : FuncId} {args : Array Value} {w : World} {v : Value} (h : Calls P f args w fun e w' => e = .returned v ∧ w = w') : Calls P f args w fun e w' => e = .returned v ∧ w' = w :=
  h.mono fun _ _ h => ⟨h.1, h.2.symm⟩
theorem ret_int {k : IntKind} {a b : Int} (h : a = b) : Ending.returned (.int k a) = Ending.returned (.int k b) := by rw [h]
theorem ret_bool {a b : Bool} (h : a = b) : Ending.returned (.bool a) = Ending.returned (.bool b) := by rw [h]

/-- Block g of the world holds just the cells cs, of element type t; none is frozen. -/
def Bk (w : World) (g : Nat) (t : TypeId) (cs : Array Value) : Prop := w.heap[g]? = some (.cells cs t (0, 0))
theorem Bk.lt {w : World} {g : Nat} {t : TypeId} {cs : Array Value} (h : Bk w g t cs) : g < w.heap.size := by
  rcases Nat.lt_or_ge g w.heap.size with hlt | hge
  · exact hlt
  · unfold Bk at h; rw [Array.getElem?_eq_none hge] at h; cases h
theorem Bk.cell {w : World} {g : Nat} {t : TypeId} {cs : Array Value} (h : Bk w g t cs) (i : Nat) : w.cell? ⟨g, i, none⟩ = cs[i]? := cell_of_row w g i cs t (0, 0) h
theorem Bk.frozen {w : World} {g : Nat} {t : TypeId} {cs : Array Value} (h : Bk w g t cs) (i : Nat) : w.frozen? ⟨g, i, none⟩ = false := by unfold Bk at h; simp [World.frozen?, h]
theorem Bk.new (w : World) (t : TypeId) (cs : Array Value) : Bk (w.alloc (.cells cs t)) w.heap.size t cs := heap_alloc_new w _
theorem Bk.at_new {w : World} {g : Nat} (t : TypeId) (cs : Array Value) (h : g = w.heap.size) : Bk (w.alloc (.cells cs t)) g t cs := by subst h; exact heap_alloc_new w _
theorem Bk.drew {w : World} {g : Nat} {t : TypeId} {cs : Array Value} (h : Bk w g t cs) : Bk w.drew g t cs := h
theorem Bk.alloc {w : World} {g : Nat} {t : TypeId} {cs : Array Value} (h : Bk w g t cs) (o : Obj) : Bk (w.alloc o) g t cs := (Below.heap_alloc w o g h.lt).trans h
theorem Bk.set {w : World} {g : Nat} {t : TypeId} {cs : Array Value} (h : Bk w g t cs) (i : Nat) (u : Value) : Bk (w.setCell ⟨g, i, none⟩ u) g t (cs.setIfInBounds i u) := by
  unfold Bk at h ⊢
  simp [World.setCell, Array.getElem?_modify, h]
theorem Bk.far {w : World} {g : Nat} {t : TypeId} {cs : Array Value} (h : Bk w g t cs) {p : Addr} (hp : g ≠ p.block) (u : Value) : Bk (w.setCell p u) g t cs := (Below.heap_setCell w p u g hp).trans h
theorem Bk.below {w w' : World} {g : Nat} {t : TypeId} {cs : Array Value} {B : Nat} (h : Bk w g t cs) (hb : Below B w w') (hg : g < B) : Bk w' g t cs := (hb.block g hg).trans h

theorem box1 {w w' : World} {a : Array Value} {t : TypeId} (hb : Below (w.alloc (.cells a t)).heap.size (w.alloc (.cells a t)) w') :
    Bk w' w.heap.size t a ∧ w.heap.size < w'.heap.size ∧ Below w.heap.size w w' := by
  have h := hb.size
  simp only [World.size_alloc] at h
  exact ⟨(Bk.new w t a).below hb (by simp), by omega, ((Below.refl _ _).alloc (Nat.le_refl _) _).trans (hb.mono (by simp))⟩
theorem undrew {B n : Nat} {w w' : World} (h : Below B (w.drewN n) w') : Below B w w' := (below_drewN (Below.refl _ _) n).trans h
theorem undrew1 {B : Nat} {w w' : World} (h : Below B w.drew w') : Below B w w' := (Below.drew (Below.refl _ _)).trans h
theorem box1d {w w' : World} {a : Array Value} {t : TypeId} {n : Nat} (hb : Below ((w.alloc (.cells a t)).drewN n).heap.size ((w.alloc (.cells a t)).drewN n) w') :
    Bk w' w.heap.size t a ∧ w.heap.size < w'.heap.size ∧ Below w.heap.size w w' := box1 (undrew hb)
theorem box2 {w w' : World} {a b : Array Value} {t u : TypeId} (hb : Below ((w.alloc (.cells a t)).alloc (.cells b u)).heap.size ((w.alloc (.cells a t)).alloc (.cells b u)) w') :
    Bk w' w.heap.size t a ∧ Bk w' (w.heap.size + 1) u b ∧ w.heap.size < w'.heap.size ∧ w.heap.size + 1 < w'.heap.size ∧ Below w.heap.size w w' := by
  have h := hb.size
  simp only [World.size_alloc] at h
  exact ⟨((Bk.new w t a).alloc _).below hb (by simp <;> omega), (Bk.at_new (w := w.alloc (.cells a t)) (g := w.heap.size + 1) u b (by simp)).below hb (by simp), by omega, by omega,
    (((Below.refl _ _).alloc (Nat.le_refl _) _).alloc (by simp) _).trans (hb.mono (by simp <;> omega))⟩
theorem box3 {w w' : World} {a b c : Array Value} {t u v : TypeId} (hb : Below (((w.alloc (.cells a t)).alloc (.cells b u)).alloc (.cells c v)).heap.size (((w.alloc (.cells a t)).alloc (.cells b u)).alloc (.cells c v)) w') :
    Bk w' w.heap.size t a ∧ Bk w' (w.heap.size + 1) u b ∧ Bk w' (w.heap.size + 1 + 1) v c ∧ w.heap.size < w'.heap.size ∧ w.heap.size + 1 < w'.heap.size ∧ w.heap.size + 1 + 1 < w'.heap.size ∧ Below w.heap.size w w' := by
  have h := hb.size
  simp only [World.size_alloc] at h
  exact ⟨(((Bk.new w t a).alloc _).alloc _).below hb (by simp <;> omega), ((Bk.at_new (w := w.alloc (.cells a t)) (g := w.heap.size + 1) u b (by simp)).alloc _).below hb (by simp <;> omega),
    (Bk.at_new (w := (w.alloc (.cells a t)).alloc (.cells b u)) (g := w.heap.size + 1 + 1) v c (by simp)).below hb (by simp), by omega, by omega, by omega,
    ((((Below.refl _ _).alloc (Nat.le_refl _) _).alloc (by simp) _).alloc (by simp <;> omega) _).trans (hb.mono (by simp <;> omega))⟩
end Go.Proofs.Yteelppebdcgbpaa

/- Operations on bits, said of natural numbers. -/
namespace Go.Proofs.Yteelppebdcgbpaa
set_option linter.unusedSimpArgs false
set_option linter.unusedVariables false
open Go.RowKit

theorem wraps_u64 (n : Int) (h0 : 0 ≤ n) (h1 : n < 2 ^ 64) : IntKind.u64.wrap n = n := by rw [IntKind.wrap_u64]; omega
theorem wraps_u32 (n : Int) (h0 : 0 ≤ n) (h1 : n < 2 ^ 32) : IntKind.u32.wrap n = n := by rw [IntKind.wrap_u32]; omega
theorem wraps_i64 (n : Int) (h0 : 0 ≤ n) (h1 : n < 2 ^ 63) : IntKind.i64.wrap n = n := by rw [IntKind.wrap_i64]; omega
theorem or_u64 {a b : Nat} (ha : a < 18446744073709551616) (hb : b < 18446744073709551616) : bits .or .u64 (a : Int) (b : Int) = ((a ||| b : Nat) : Int) := (bits_nat .u64 64 (by decide) wraps_u64 a b ha hb).2
theorem and_u64 {a b : Nat} (ha : a < 18446744073709551616) (hb : b < 18446744073709551616) : bits .and .u64 (a : Int) (b : Int) = ((a &&& b : Nat) : Int) := (bits_nat .u64 64 (by decide) wraps_u64 a b ha hb).1
theorem or_u32 {a b : Nat} (ha : a < 4294967296) (hb : b < 4294967296) : bits .or .u32 (a : Int) (b : Int) = ((a ||| b : Nat) : Int) := (bits_nat .u32 32 (by decide) wraps_u32 a b ha hb).2
theorem and_u32 {a b : Nat} (ha : a < 4294967296) (hb : b < 4294967296) : bits .and .u32 (a : Int) (b : Int) = ((a &&& b : Nat) : Int) := (bits_nat .u32 32 (by decide) wraps_u32 a b ha hb).1
theorem or_u8 {a b : Nat} (ha : a < 256) (hb : b < 256) : bits .or .u8 (a : Int) (b : Int) = ((a ||| b : Nat) : Int) := (bits_nat .u8 8 (by decide) wraps_u8 a b ha hb).2
theorem and_u8 {a b : Nat} (ha : a < 256) (hb : b < 256) : bits .and .u8 (a : Int) (b : Int) = ((a &&& b : Nat) : Int) := (bits_nat .u8 8 (by decide) wraps_u8 a b ha hb).1
/-- bits that do not meet: the sum -/
theorem or_apart {a b i : Nat} (hb : b < 2 ^ i) (ha : a % 2 ^ i = 0) : a ||| b = a + b := by
  have hq : a = 2 ^ i * (a / 2 ^ i) := by have := Nat.div_add_mod a (2 ^ i); omega
  rw [hq, ← Nat.two_pow_add_eq_or_of_lt hb (a / 2 ^ i)]
theorem and_mask (a i : Nat) : a &&& (2 ^ i - 1) = a % 2 ^ i := Nat.and_two_pow_sub_one_eq_mod a i
theorem wrap_u64_nat (a : Nat) : IntKind.u64.wrap (a : Int) = ((a % 18446744073709551616 : Nat) : Int) := by rw [IntKind.wrap_u64]; omega
/-- where the highest binary digit stands -/
theorem bitLen_spec (x : Nat) (h0 : x ≠ 0) (h : x < 2 ^ 64) : ∃ k, Lib.bitLen x = k + 1 ∧ k < 64 ∧ 2 ^ k ≤ x ∧ x < 2 ^ (k + 1) := by
  have key : ∀ n x : Nat, x ≠ 0 → x < 2 ^ n → n ≤ 64 → ∃ k, Lib.bitLen x = k + 1 ∧ k < n ∧ 2 ^ k ≤ x ∧ x < 2 ^ (k + 1) := by
    intro n
    induction n with
    | zero => intro x h0 h _; simp at h; omega
    | succ n ih =>
      intro x h0 h hn
      by_cases h1 : x = 1
      · subst h1; exact ⟨0, rfl, by omega, by decide, by decide⟩
      · obtain ⟨k, e, hk, h2, h3⟩ := ih (x / 2) (by omega) (by rw [Nat.pow_succ] at h; omega) (by omega)
        have hx64 : x < 2 ^ 64 := Nat.lt_of_lt_of_le h (Nat.pow_le_pow_right (by omega) hn)
        refine ⟨k + 1, by rw [Lib.bitLen_half x h0 hx64, e]; omega, by omega, ?_, ?_⟩
        · rw [Nat.pow_succ]; omega
        · rw [Nat.pow_succ] at h3 ⊢; rw [Nat.pow_succ]; omega
  exact key 64 x h0 h (Nat.le_refl _)
theorem bitLen_zero : Lib.bitLen 0 = 0 := by decide
end Go.Proofs.Yteelppebdcgbpaa

/- Natural numbers and their limbs: plain laws, no program in sight. -/
namespace Go.Proofs.Yteelppebdcgbpaa
set_option linter.unusedSimpArgs false
set_option linter.unusedVariables false

/-- The number that limbs make, the least one first. -/
def nv : List Nat → Nat
  | [] => 0
  | x :: xs => x + 18446744073709551616 * nv xs
/-- The limbs of a number, without noughts at the end. -/
def limbs (n : Nat) : List Nat := if h : n = 0 then [] else (n % 18446744073709551616) :: limbs (n / 18446744073709551616)
termination_by n
decreasing_by exact Nat.div_lt_self (Nat.pos_of_ne_zero h) (by omega)
def B64 (xs : List Nat) : Prop := ∀ x ∈ xs, x < 18446744073709551616
def ln (n : Nat) : Nat := (limbs n).length

theorem limbs_zero : limbs 0 = [] := by rw [limbs]; simp
theorem limbs_pos {n : Nat} (h : n ≠ 0) : limbs n = (n % 18446744073709551616) :: limbs (n / 18446744073709551616) := by rw [limbs]; simp [h]
theorem B64.nil : B64 [] := fun x hx => by cases hx
theorem B64.cons {x : Nat} {xs : List Nat} (h : x < 18446744073709551616) (hs : B64 xs) : B64 (x :: xs) := fun y hy => by
  rcases List.mem_cons.1 hy with rfl | hy
  · exact h
  · exact hs y hy
theorem B64.head {x : Nat} {xs : List Nat} (h : B64 (x :: xs)) : x < 18446744073709551616 := h x (by simp)
theorem B64.tail {x : Nat} {xs : List Nat} (h : B64 (x :: xs)) : B64 xs := fun y hy => h y (by simp [hy])
theorem B64.get {xs : List Nat} (h : B64 xs) {j x : Nat} (hx : xs[j]? = some x) : x < 18446744073709551616 := h x (List.mem_of_getElem? hx)
theorem B64.gd {xs : List Nat} (h : B64 xs) (j : Nat) : gd xs j < 18446744073709551616 := by
  rcases Nat.lt_or_ge j xs.length with hj | hj
  · exact h.get (gd_get hj)
  · rw [gd_ge hj]; omega
theorem B64.take {xs : List Nat} (h : B64 xs) (k : Nat) : B64 (xs.take k) := fun x hx => h x (List.mem_of_mem_take hx)
theorem B64.drop {xs : List Nat} (h : B64 xs) (k : Nat) : B64 (xs.drop k) := fun x hx => h x (List.mem_of_mem_drop hx)
theorem B64.append {xs ys : List Nat} (h : B64 xs) (h' : B64 ys) : B64 (xs ++ ys) := fun x hx => by
  rcases List.mem_append.1 hx with hx | hx
  · exact h x hx
  · exact h' x hx
theorem B64.set {xs : List Nat} (h : B64 xs) {j y : Nat} (hy : y < 18446744073709551616) : B64 (xs.set j y) := fun x hx => by
  rcases List.mem_or_eq_of_mem_set hx with hx | rfl
  · exact h x hx
  · exact hy
theorem B64.replicate (n : Nat) : B64 (List.replicate n 0) := fun x hx => by rw [List.eq_of_mem_replicate hx]; omega

theorem limbs_b64 (n : Nat) : B64 (limbs n) := by
  induction n using Nat.strongRecOn with
  | ind n ih =>
    by_cases h : n = 0
    · subst h; rw [limbs_zero]; exact B64.nil
    · rw [limbs_pos h]; exact B64.cons (Nat.mod_lt _ (by omega)) (ih _ (Nat.div_lt_self (Nat.pos_of_ne_zero h) (by omega)))
theorem nv_limbs (n : Nat) : nv (limbs n) = n := by
  induction n using Nat.strongRecOn with
  | ind n ih =>
    by_cases h : n = 0
    · subst h; rw [limbs_zero]; rfl
    · rw [limbs_pos h, nv, ih _ (Nat.div_lt_self (Nat.pos_of_ne_zero h) (by omega))]; omega
theorem nv_append (xs ys : List Nat) : nv (xs ++ ys) = nv xs + 18446744073709551616 ^ xs.length * nv ys := by
  induction xs with
  | nil => simp [nv]
  | cons x xs ih => simp only [List.cons_append, nv, ih, List.length_cons, Nat.pow_succ]; rw [Nat.mul_add, Nat.mul_comm (18446744073709551616 ^ xs.length) 18446744073709551616, Nat.mul_assoc]; omega
theorem nv_lt {xs : List Nat} (h : B64 xs) : nv xs < 18446744073709551616 ^ xs.length := by
  induction xs with
  | nil => simp [nv]
  | cons x xs ih =>
    have := ih h.tail
    have hx := h.head
    simp only [nv, List.length_cons, Nat.pow_succ]
    omega
theorem nv_replicate (n : Nat) : nv (List.replicate n 0) = 0 := by
  induction n with
  | zero => rfl
  | succ n ih => simp [List.replicate_succ, nv, ih]
theorem limbs_nv {xs : List Nat} (h : B64 xs) (hl : ∀ x, xs.getLast? = some x → x ≠ 0) : limbs (nv xs) = xs := by
  induction xs with
  | nil => simp [nv, limbs_zero]
  | cons x xs ih =>
    have hx := h.head
    have e : nv xs = 0 → xs = [] := by
      intro h0
      rcases xs with _ | ⟨y, ys⟩
      · rfl
      · exfalso
        have hl' : ∀ z, (y :: ys).getLast? = some z → z ≠ 0 := fun z hz => hl z (by simpa [List.getLast?_cons_cons] using hz)
        have := ih h.tail hl'
        rw [h0, limbs_zero] at this
        cases this
    have hne : nv (x :: xs) ≠ 0 := by
      intro h0
      simp only [nv] at h0
      have h1 : nv xs = 0 := by omega
      have h2 := e h1
      subst h2
      exact hl x (by simp) (by omega)
    rw [limbs_pos hne]
    have e1 : nv (x :: xs) % 18446744073709551616 = x := by simp only [nv]; omega
    have e2 : nv (x :: xs) / 18446744073709551616 = nv xs := by simp only [nv]; omega
    rw [e1, e2]
    rcases xs with _ | ⟨y, ys⟩
    · simp [nv, limbs_zero]
    · rw [ih h.tail fun z hz => hl z (by simpa [List.getLast?_cons_cons] using hz)]
theorem limbs_last (n : Nat) : ∀ x, (limbs n).getLast? = some x → x ≠ 0 := by
  induction n using Nat.strongRecOn with
  | ind n ih =>
    by_cases h : n = 0
    · subst h; rw [limbs_zero]; intro x hx; cases hx
    · rw [limbs_pos h]
      by_cases h2 : n / 18446744073709551616 = 0
      · rw [h2, limbs_zero]; intro x hx; simp at hx; omega
      · intro x hx
        rw [limbs_pos h2, List.getLast?_cons_cons, ← limbs_pos h2] at hx
        exact ih _ (Nat.div_lt_self (Nat.pos_of_ne_zero h) (by omega)) x hx
theorem ln_zero : ln 0 = 0 := by unfold ln; rw [limbs_zero]; rfl
theorem ln_pos {n : Nat} (h : n ≠ 0) : ln n = ln (n / 18446744073709551616) + 1 := by unfold ln; rw [limbs_pos h]; rfl
theorem ln_le {n k : Nat} : ln n ≤ k ↔ n < 18446744073709551616 ^ k := by
  induction k generalizing n with
  | zero =>
    by_cases h : n = 0
    · subst h; simp [ln_zero]
    · rw [ln_pos h]; simp; omega
  | succ k ih =>
    by_cases h : n = 0
    · subst h; rw [ln_zero]; exact ⟨fun _ => Nat.pow_pos (by omega), fun _ => by omega⟩
    · rw [ln_pos h, Nat.add_le_add_iff_right, ih, Nat.pow_succ, Nat.div_lt_iff_lt_mul (by omega)]
theorem ln_mono {a b : Nat} (h : a ≤ b) : ln a ≤ ln b := ln_le.2 (Nat.lt_of_le_of_lt h (ln_le.1 (Nat.le_refl _)))
theorem lt_ln (n : Nat) : n < 18446744073709551616 ^ ln n := ln_le.1 (Nat.le_refl _)
theorem ln_nv {xs : List Nat} (h : B64 xs) : ln (nv xs) ≤ xs.length := ln_le.2 (nv_lt h)
theorem ln_add (a b k : Nat) (ha : ln a ≤ k) (hb : ln b ≤ k) : ln (a + b) ≤ k + 1 := by
  rw [ln_le] at *; rw [Nat.pow_succ]; omega
theorem ln_mul (a b : Nat) : ln (a * b) ≤ ln a + ln b := by
  rw [ln_le, Nat.pow_add]
  exact Nat.mul_lt_mul_of_lt_of_le (lt_ln a) (Nat.le_of_lt (lt_ln b)) (Nat.zero_lt_of_lt (lt_ln b))
theorem ln_div (a b : Nat) : ln (a / b) ≤ ln a := ln_mono (Nat.div_le_self _ _)
theorem ln_mod (a b : Nat) : ln (a % b) ≤ ln a := ln_mono (Nat.mod_le _ _)
theorem ln_small {n : Nat} (h : n < 18446744073709551616) : ln n ≤ 1 := ln_le.2 (by simpa using h)

theorem nv_take_succ {xs : List Nat} {k : Nat} (h : k < xs.length) : nv (xs.take (k + 1)) = nv (xs.take k) + 18446744073709551616 ^ k * gd xs k := by
  rw [List.take_succ_eq_append_getElem h, nv_append, List.length_take, Nat.min_eq_left (by omega)]
  rw [gd_lt h]; simp [nv]
theorem nv_take_ge {xs : List Nat} {k : Nat} (h : xs.length ≤ k) : nv (xs.take (k + 1)) = nv (xs.take k) + 18446744073709551616 ^ k * gd xs k := by
  rw [List.take_of_length_le (by omega), List.take_of_length_le h]
  rw [gd_ge h]; simp
/-- one limb more, there or not -/
theorem nv_take (xs : List Nat) (k : Nat) : nv (xs.take (k + 1)) = nv (xs.take k) + 18446744073709551616 ^ k * gd xs k := by
  rcases Nat.lt_or_ge k xs.length with h | h
  · exact nv_take_succ h
  · exact nv_take_ge h
theorem nv_take_lt {xs : List Nat} (h : B64 xs) (k : Nat) : nv (xs.take k) < 18446744073709551616 ^ k := by
  refine Nat.lt_of_lt_of_le (nv_lt (h.take k)) (Nat.pow_le_pow_right (by omega) ?_)
  rw [List.length_take]; omega
theorem nv_split (xs : List Nat) (k : Nat) (h : k ≤ xs.length) : nv xs = nv (xs.take k) + 18446744073709551616 ^ k * nv (xs.drop k) := by
  have := nv_append (xs.take k) (xs.drop k)
  rw [List.take_append_drop, List.length_take, Nat.min_eq_left h] at this
  exact this

theorem lt_digit {a b P X Y : Nat} (ha : a < P) (h : X < Y) : a + P * X < b + P * Y := by
  have := Nat.mul_le_mul_left P (show X + 1 ≤ Y from h)
  rw [Nat.mul_add] at this; omega
/-- the top digits are alike, from place k on -/
def Alike (xs ys : List Nat) (k : Nat) : Prop := ∃ H, nv xs = nv (xs.take k) + 18446744073709551616 ^ k * H ∧ nv ys = nv (ys.take k) + 18446744073709551616 ^ k * H
theorem Alike.start {xs ys : List Nat} {k : Nat} (h : xs.length ≤ k) (h' : ys.length ≤ k) : Alike xs ys k := ⟨0, by rw [List.take_of_length_le h]; simp, by rw [List.take_of_length_le h']; simp⟩
theorem Alike.zero {xs ys : List Nat} (h : Alike xs ys 0) : nv xs = nv ys := by
  obtain ⟨H, h1, h2⟩ := h
  simp [nv] at h1 h2; omega
theorem Alike.down {xs ys : List Nat} {k : Nat} (h : Alike xs ys (k + 1)) :
    ∃ H, nv xs = nv (xs.take k) + 18446744073709551616 ^ k * (gd xs k + 18446744073709551616 * H) ∧ nv ys = nv (ys.take k) + 18446744073709551616 ^ k * (gd ys k + 18446744073709551616 * H) := by
  obtain ⟨H, h1, h2⟩ := h
  refine ⟨H, ?_, ?_⟩
  · rw [h1, nv_take, Nat.pow_succ, Nat.mul_add, Nat.mul_assoc]; omega
  · rw [h2, nv_take, Nat.pow_succ, Nat.mul_add, Nat.mul_assoc]; omega
theorem Alike.lt {xs ys : List Nat} {k : Nat} (h : Alike xs ys (k + 1)) (hx : B64 xs) (hd : gd xs k < gd ys k) : nv xs < nv ys := by
  obtain ⟨H, h1, h2⟩ := h.down
  rw [h1, h2]
  exact lt_digit (nv_take_lt hx k) (by omega)
theorem Alike.symm {xs ys : List Nat} {k : Nat} (h : Alike xs ys k) : Alike ys xs k := by
  obtain ⟨H, h1, h2⟩ := h
  exact ⟨H, h2, h1⟩
theorem Alike.next {xs ys : List Nat} {k : Nat} (h : Alike xs ys (k + 1)) (hd : gd xs k = gd ys k) : Alike xs ys k := by
  obtain ⟨H, h1, h2⟩ := h.down
  exact ⟨gd xs k + 18446744073709551616 * H, h1, by rw [hd]; exact h2⟩
theorem trim_done {xs : List Nat} {k : Nat} (h : B64 xs) (hk : k < xs.length) (h0 : gd xs k ≠ 0) (hv : nv (xs.take (k + 1)) = nv xs) : limbs (nv xs) = xs.take (k + 1) := by
  rw [← hv]
  refine limbs_nv (h.take _) fun x hx => ?_
  rw [List.take_succ_eq_append_getElem hk, List.getLast?_concat] at hx
  rw [gd_lt hk] at h0
  simp only [Option.some.injEq] at hx
  rw [← hx]; exact h0
theorem trim_more {xs : List Nat} {k : Nat} (h0 : gd xs k = 0) (hv : nv (xs.take (k + 1)) = nv xs) : nv (xs.take k) = nv xs := by
  rw [nv_take, h0] at hv; simpa using hv
/-- which number is greater -/
def cmpN (x y : Nat) : Int := if x < y then -1 else if y < x then 1 else 0
theorem cmpN_lt {x y : Nat} (h : x < y) : cmpN x y = -1 := by unfold cmpN; rw [if_pos h]
theorem cmpN_gt {x y : Nat} (h : y < x) : cmpN x y = 1 := by unfold cmpN; rw [if_neg (by omega), if_pos h]
theorem cmpN_eq {x y : Nat} (h : x = y) : cmpN x y = 0 := by unfold cmpN; rw [if_neg (by omega), if_neg (by omega)]
end Go.Proofs.Yteelppebdcgbpaa

/- Rows of whole numbers in memory: what a slice reads, what the call itself owns, what is made, stored and appended. -/
namespace Go.Proofs.Yteelppebdcgbpaa
set_option linter.unusedSimpArgs false
set_option linter.unusedVariables false
open Go.RowKit

/-- numbers as values -/
def vs (k : IntKind) (xs : List Nat) : List Value := xs.map fun (x : Nat) => .int k (x : Int)
def va (k : IntKind) (xs : List Nat) : Array Value := (vs k xs).toArray
theorem vs_length (k : IntKind) (xs : List Nat) : (vs k xs).length = xs.length := by simp [vs]
theorem va_size (k : IntKind) (xs : List Nat) : (va k xs).size = xs.length := by simp [va, vs]
theorem vs_get (k : IntKind) (xs : List Nat) (j : Nat) : (vs k xs)[j]? = xs[j]?.map fun (x : Nat) => .int k (x : Int) := by simp [vs]
theorem va_get (k : IntKind) (xs : List Nat) (j : Nat) : (va k xs)[j]? = xs[j]?.map fun (x : Nat) => .int k (x : Int) := by simp [va, vs]
theorem va_at (k : IntKind) {xs : List Nat} {j : Nat} (h : j < xs.length) : (va k xs)[j]? = some (.int k ((gd xs j : Nat) : Int)) := by
  rw [va_get, gd_get h]; rfl
theorem va_set (k : IntKind) (xs : List Nat) (j y : Nat) : (va k xs).setIfInBounds j (.int k (y : Int)) = va k (xs.set j y) := by
  simp [va, vs, List.map_set]
theorem vs_append (k : IntKind) (xs ys : List Nat) : vs k (xs ++ ys) = vs k xs ++ vs k ys := by simp [vs]
theorem vs_one (k : IntKind) (xs : List Nat) : ∀ u ∈ vs k xs, u.oneCell' = true := by
  intro u hu
  simp only [vs, List.mem_map] at hu
  obtain ⟨x, _, rfl⟩ := hu
  rfl
theorem vs_inj {k : IntKind} {xs ys : List Nat} (h : vs k xs = vs k ys) : xs = ys := by
  induction xs generalizing ys with
  | nil => cases ys with
    | nil => rfl
    | cons y ys => simp [vs] at h
  | cons x xs ih => cases ys with
    | nil => simp [vs] at h
    | cons y ys =>
      simp only [vs, List.map_cons, List.cons.injEq, Value.int.injEq, true_and, Int.natCast_inj] at h
      rw [h.1, ih (by simpa [vs] using h.2)]
theorem made_va (k : IntKind) (n : Nat) : madeCells #[.int k 0] n = va k (List.replicate n 0) := by
  apply Array.toList_inj.1
  rw [toList_madeCells_one]
  simp [va, vs]

theorem adlt {ad : Addr} {B : Nat} (h : ad.block < B) (j : Nat) : (ad.add j).block < B := by rw [Go.ChangeShapes.block_add]; exact h
theorem ad_plain (g j : Nat) : (⟨g, 0, none⟩ : Addr).add j = ⟨g, j, none⟩ := by unfold Addr.add; split <;> simp_all
/-- The slice '.slice A n c' reads as the numbers xs. -/
def Rd (k : IntKind) (w : World) (A : Option Addr) (n c : Nat) (xs : List Nat) : Prop :=
  xs.length = n ∧ n ≤ c ∧ n ≤ 9223372036854775807 ∧ (0 < n → ∃ ad, A = some ad ∧ ad.block < w.heap.size ∧ ∀ (j x : Nat), xs[j]? = some x → w.cell? (ad.add j) = some (.int k (x : Int)))

section
variable {k : IntKind} {w w' : World} {A : Option Addr} {n c : Nat} {xs : List Nat}
theorem Rd.nil (k : IntKind) (w : World) (A : Option Addr) (c : Nat) : Rd k w A 0 c [] := ⟨rfl, Nat.zero_le _, by omega, fun h => absurd h (by omega)⟩
theorem Rd.len (h : Rd k w A n c xs) : xs.length = n := h.1
theorem Rd.cap (h : Rd k w A n c xs) : n ≤ c := h.2.1
theorem Rd.max (h : Rd k w A n c xs) : n ≤ 9223372036854775807 := h.2.2.1
theorem Rd.form (h : Rd k w A n c xs) (hn : 0 < n) : ∃ ad, A = some ad ∧ ad.block < w.heap.size ∧ ∀ j, j < n → w.cell? (ad.add j) = some (.int k ((gd xs j : Nat) : Int)) := by
  obtain ⟨h1, _, _, h3⟩ := h
  obtain ⟨ad, rfl, hb, hc⟩ := h3 hn
  refine ⟨ad, rfl, hb, fun j hj => hc j _ ?_⟩
  exact gd_get (by omega)
theorem Rd.below (h : Rd k w A n c xs) (hb : Below w.heap.size w w') : Rd k w' A n c xs := by
  obtain ⟨h1, h2, h2', h3⟩ := h
  refine ⟨h1, h2, h2', fun hn => ?_⟩
  obtain ⟨ad, rfl, hlt, hc⟩ := h3 hn
  exact ⟨ad, rfl, Nat.lt_of_lt_of_le hlt hb.size, fun j x hx => (hb.cell (p := ad.add j) (adlt hlt j)).trans (hc j x hx)⟩
theorem Rd.alloc (h : Rd k w A n c xs) (o : Obj) : Rd k (w.alloc o) A n c xs := h.below ((Below.refl _ _).alloc (Nat.le_refl _) _)
theorem Rd.drewN (h : Rd k w A n c xs) (m : Nat) : Rd k (w.drewN m) A n c xs := h.below (below_drewN (Below.refl _ _) m)
theorem Rd.drew (h : Rd k w A n c xs) : Rd k w.drew A n c xs := h.below (Below.drew (Below.refl _ _))
/-- a store into another block -/
theorem Rd.far (h : Rd k w A n c xs) {p : Addr} (hp : ∀ ad, A = some ad → ad.block ≠ p.block) (u : Value) : Rd k (w.setCell p u) A n c xs := by
  obtain ⟨h1, h2, h2', h3⟩ := h
  refine ⟨h1, h2, h2', fun hn => ?_⟩
  obtain ⟨ad, rfl, hlt, hc⟩ := h3 hn
  refine ⟨ad, rfl, by simpa using hlt, fun j x hx => ?_⟩
  rw [World.cell?_setCell_other _ _ _ _ (fun e => hp ad rfl (by rw [← Go.ChangeShapes.block_add ad j, e]))]
  exact hc j x hx
/-- the first m numbers -/
theorem Rd.take (h : Rd k w A n c xs) {m : Nat} (hm : m ≤ n) : Rd k w A m c (xs.take m) := by
  obtain ⟨h1, h2, h2', h3⟩ := h
  refine ⟨by rw [List.length_take]; omega, by omega, by omega, fun hn => ?_⟩
  obtain ⟨ad, rfl, hlt, hc⟩ := h3 (by omega)
  refine ⟨ad, rfl, hlt, fun j x hx => hc j x ?_⟩
  rw [List.getElem?_take] at hx
  split at hx
  · exact hx
  · cases hx
/-- what stands behind the first m numbers -/
theorem Rd.drop (h : Rd k w A n c xs) {m : Nat} (hm : m ≤ n) : Rd k w (if c = m then A else A.map (·.add m)) (n - m) (c - m) (xs.drop m) := by
  obtain ⟨h1, h2, h2', h3⟩ := h
  refine ⟨by rw [List.length_drop]; omega, by omega, by omega, fun hn => ?_⟩
  obtain ⟨ad, rfl, hlt, hc⟩ := h3 (by omega)
  rw [if_neg (by omega)]
  refine ⟨ad.add m, rfl, adlt hlt m, fun j x hx => ?_⟩
  rw [List.getElem?_drop] at hx
  rw [Addr.add_add]; exact hc _ x hx
/-- a slice that came in as an argument -/
theorem Rd.cells (h : Rd k w A n c xs) {ad : Addr} (hA : A = some ad) : ∀ j u, (vs k xs)[j]? = some u → w.cell? (ad.add j) = some u := by
  intro j u hu
  rw [vs_get] at hu
  obtain ⟨h1, _, _, h3⟩ := h
  cases hx : xs[j]? with
  | none => rw [hx] at hu; cases hu
  | some x =>
    rw [hx] at hu
    have hj : j < xs.length := by rcases Nat.lt_or_ge j xs.length with h | h; exact h; rw [List.getElem?_eq_none h] at hx; cases hx
    obtain ⟨ad', hA', _, hc⟩ := h3 (by omega)
    rw [hA] at hA'
    obtain rfl := Option.some.inj hA'
    rw [hc j x hx]; exact hu
end

/-- The call's own row: new memory from block 'base' on, element type e, the numbers xs. -/
def Own (k : IntKind) (e : TypeId) (w : World) (base : Nat) (A : Option Addr) (n c : Nat) (xs : List Nat) : Prop := w.ownsRow base e 1 (.slice A n c) n (vs k xs)

section
variable {k : IntKind} {e : TypeId} {w w' : World} {base : Nat} {A : Option Addr} {n c : Nat} {xs : List Nat}
theorem Own.len (h : Own k e w base A n c xs) : xs.length = n := by have := h.1; rw [vs_length] at this; omega
theorem Own.nil (k : IntKind) (e : TypeId) (w : World) (base : Nat) : Own k e w base none 0 0 [] := World.ownsRow_nil w base e 1
theorem Own.ways (h : Own k e w base A n c xs) : (A = none ∧ n = 0 ∧ c = 0 ∧ xs = []) ∨ ∃ g, A = some ⟨g, 0, none⟩ ∧ base ≤ g ∧ g < w.heap.size ∧ n ≤ c ∧ c ≤ 9223372036854775807 := by
  rcases h.2 with ⟨h1, h2⟩ | ⟨g, cap, cur, h1, hb, hg, hnc, hm, _⟩
  · left
    simp only [Value.slice.injEq] at h1
    exact ⟨h1.1, h1.2.1, h1.2.2, List.eq_nil_of_length_eq_zero (by rw [Own.len h, h2])⟩
  · right
    simp only [Value.slice.injEq] at h1
    obtain ⟨rfl, _, rfl⟩ := h1
    exact ⟨g, rfl, hb, (Array.getElem?_eq_some_iff.1 hg).1, hnc, by unfold maxLen at hm; omega⟩
theorem Own.rd (h : Own k e w base A n c xs) : Rd k w A n c xs := by
  rcases h.ways with ⟨rfl, rfl, rfl, rfl⟩ | ⟨g, rfl, _, hlt, hnc, hm⟩
  · exact Rd.nil _ _ _ _
  · refine ⟨h.len, hnc, by omega, fun hn => ⟨⟨g, 0, none⟩, rfl, hlt, fun j x hx => ?_⟩⟩
    have := World.ownsRow.cells h (g := g) rfl j (.int k (x : Int)) (by rw [vs_get, hx]; rfl)
    exact this
theorem Own.below (h : Own k e w base A n c xs) (hb : Below w.heap.size w w') : Own k e w' base A n c xs := by
  refine ⟨h.1, ?_⟩
  rcases h.2 with hn | ⟨g, cap, cur, h1, hg, hh, rest⟩
  · exact .inl hn
  · exact .inr ⟨g, cap, cur, h1, hg, (hb.block g (Array.getElem?_eq_some_iff.1 hh).1).trans hh, rest⟩
theorem Own.lower (h : Own k e w base A n c xs) {b' : Nat} (hb : b' ≤ base) : Own k e w b' A n c xs := by
  refine ⟨h.1, ?_⟩
  rcases h.2 with hn | ⟨g, cap, cur, h1, hg, rest⟩
  · exact .inl hn
  · exact .inr ⟨g, cap, cur, h1, Nat.le_trans hb hg, rest⟩
/-- a block known whole -/
theorem Own.of_bk {g : Nat} (h : Bk w g e (va k xs)) (hb : base ≤ g) (hn : xs.length = n) (hm : n ≤ 9223372036854775807) : Own k e w base (some ⟨g, 0, none⟩) n n xs := by
  refine ⟨by rw [vs_length]; omega, .inr ⟨g, n, va k xs, rfl, hb, h, Nat.le_refl _, by unfold maxLen; omega, by rw [va_size]; omega, ?_⟩⟩
  rw [Nat.mul_one, List.take_of_length_le (by simp [va, vs_length]; omega)]
  simp [va]
/-- a part of a block known whole, from its begin -/
theorem Own.of_bk_take {g m : Nat} {ys : List Nat} (h : Bk w g e (va k ys)) (hb : base ≤ g) (hm : m ≤ ys.length) (hx : xs = ys.take m) (hl : ys.length ≤ 9223372036854775807) : Own k e w base (some ⟨g, 0, none⟩) m ys.length xs := by
  subst hx
  refine ⟨by rw [vs_length, List.length_take]; omega, .inr ⟨g, ys.length, va k ys, rfl, hb, h, hm, by unfold maxLen; omega, by rw [va_size]; omega, ?_⟩⟩
  simp [va, vs, List.map_take]
/-- the block of a full row, known whole -/
theorem Own.bk {g : Nat} (h : Own k e w base (some ⟨g, 0, none⟩) n n xs) : Bk w g e (va k xs) := by
  rcases h.2 with ⟨h1, _⟩ | ⟨g', cap, cur, h1, _, hh, _, _, hs, ht⟩
  · simp at h1
  · simp only [Value.slice.injEq, Option.some.injEq, Addr.mk.injEq, and_true, true_and] at h1
    obtain ⟨rfl, rfl⟩ := h1
    have : cur = va k xs := by
      apply Array.toList_inj.1
      rw [Nat.mul_one, List.take_of_length_le (by simp; omega)] at ht
      rw [ht]; simp [va]
    unfold Bk
    rw [← this]; exact hh
/-- any block that holds a row of the call's own: its first cells are the numbers -/
theorem Own.bk_any {g : Nat} (h : Own k e w base (some ⟨g, 0, none⟩) n c xs) : ∃ cs : Array Value, Bk w g e cs ∧ cs.size = c ∧ cs.toList.take n = vs k xs := by
  rcases h.2 with ⟨h1, _⟩ | ⟨g', cap, cur, h1, _, hh, _, _, hs, ht⟩
  · simp at h1
  · simp only [Value.slice.injEq, Option.some.injEq, Addr.mk.injEq, and_true, true_and] at h1
    obtain ⟨rfl, rfl⟩ := h1
    exact ⟨cur, hh, by omega, by simpa using ht⟩
end

section
variable {P : Program} (w : World)
/-- append onto a row of the call's own, from whatever slice -/
theorem run_append_rd (k : IntKind) (base : Nat) (t ty e : TypeId) (i : TypeInfo) (z : Value) (bytes : Nat) (ht : P.underlying t = some (.slice e)) (hi : P.info? e = some i) (hz : i.zero = some z)
    (hsize : i.size = 1) (hby : i.bytes = bytes) (hzs : z.cells.size = 1)
    (A : Option Addr) (n c : Nat) (xs : List Nat) (hown : Own k e w base A n c xs) (B : Option Addr) (m d : Nat) (ys : List Nat) (hr : Rd k w B m d ys)
    (h63 : n + m ≤ maxLen) (hbytes : (n + m) * bytes ≤ 140737488355328) (hbase : base ≤ w.heap.size) :
    ∃ A' c' w', (Builtin.append_ #[t, t] ty #[.slice A n c, .slice B m d]).run P w = .ok (.slice A' (n + m) c') w' ∧ Own k e w' base A' (n + m) c' (xs ++ ys) ∧ Below base w w' ∧ w.heap.size ≤ w'.heap.size ∧
      (∀ g, g < w.heap.size → (∀ o, A ≠ some ⟨g, o, none⟩) → w'.heap[g]? = w.heap[g]?) := by
  have blw {v' : Value} {w' : World} (h3 : w.grownBy w' (Value.slice A n c).ownBlock) : Below base w w' :=
    (Below.refl _ _).grown h3 hbase (fun g hg => ((World.ownsRow.lt hown) g hg).1)
  have kept {w' : World} (h3 : w.grownBy w' (Value.slice A n c).ownBlock) : ∀ g, g < w.heap.size → (∀ o, A ≠ some ⟨g, o, none⟩) → w'.heap[g]? = w.heap[g]? := by
    intro g hg hne
    refine h3.block g hg ?_
    rcases hown.ways with ⟨rfl, _⟩ | ⟨g', rfl, _⟩
    · simp [Value.ownBlock]
    · simp only [Value.ownBlock]
      intro e
      simp only [Option.some.injEq] at e
      exact hne 0 (by rw [e])
  have shape {v' : Value} {w' : World} (h : w'.ownsRow base e 1 v' (n + m) (vs k (xs ++ ys))) : ∃ A' c', v' = .slice A' (n + m) c' := by
    rcases h.2 with ⟨h1, h2⟩ | ⟨g, cap, cur, h1, _⟩
    · exact ⟨none, 0, by rw [h1, h2]⟩
    · exact ⟨_, _, h1⟩
  rcases Nat.eq_zero_or_pos m with h0 | h0
  · subst h0
    have hy : ys = [] := List.eq_nil_of_length_eq_zero hr.len
    subst hy
    rcases B with _ | ad
    · refine ⟨A, c, w, ?_, by simpa using hown, Below.refl _ _, Nat.le_refl _, fun _ _ _ => rfl⟩
      rcases hown.2 with ⟨h1, h2⟩ | ⟨g, cap, cur, h1, _, _, hnc, _⟩
      · simp only [Value.slice.injEq] at h1
        obtain ⟨rfl, rfl, rfl⟩ := h1
        simp [Builtin.append_, run_underlying ht, sizeOf, typeInfo, hi, Builtin.lenOf, Builtin.firstCells]
      · simp only [Value.slice.injEq] at h1
        obtain ⟨rfl, _, rfl⟩ := h1
        simp [Builtin.append_, run_underlying ht, sizeOf, typeInfo, hi, Builtin.lenOf, Builtin.firstCells, hnc, storeCells]
    · obtain ⟨v', w', hrun, h2, h3, _, _⟩ := run_append_own_at (P := P) w base t ty e i z 1 bytes ht hi hz hsize hby hzs (by omega) (.slice A n c) n (vs k xs) hown ad 0 d [] (by simp) (by simp) (by simp) h63 hbytes hbase
      obtain ⟨A', c', rfl⟩ := shape (by simpa using h2)
      exact ⟨A', c', w', hrun, by simpa [Own] using h2, blw (v' := .slice A' (n + 0) c') h3, h3.size, kept h3⟩
  · obtain ⟨ad, rfl, hlt, hc⟩ := hr.form h0
    obtain ⟨v', w', hrun, h2, h3, _, _⟩ := run_append_own_at (P := P) w base t ty e i z 1 bytes ht hi hz hsize hby hzs (by omega) (.slice A n c) n (vs k xs) hown ad m d (vs k ys) (by rw [vs_length, hr.len]; omega) (hr.cells rfl) (vs_one k ys) h63 hbytes hbase
    rw [← vs_append] at h2
    obtain ⟨A', c', rfl⟩ := shape h2
    exact ⟨A', c', w', hrun, h2, blw (v' := .slice A' (n + m) c') h3, h3.size, kept h3⟩

theorem wp_append_rd {o : Oper} {a : Act} {K : Act → World → Prop} {Q : Exit → Act → World → Prop} (s x : Operand) (t : TypeId)
    (ho : o.op = .call { callee := .builtin .append, args := #[s, x], argTypes := #[t, t] })
    (k : IntKind) (base : Nat) (e : TypeId) (i : TypeInfo) (z : Value) (bytes : Nat) (ht : P.underlying t = some (.slice e)) (hi : P.info? e = some i) (hz : i.zero = some z)
    (hsize : i.size = 1) (hby : i.bytes = bytes) (hzs : z.cells.size = 1)
    (A : Option Addr) (n c : Nat) (xs : List Nat) (hs : a.eval s = .slice A n c) (hown : Own k e w base A n c xs) (B : Option Addr) (m d : Nat) (ys : List Nat) (hx : a.eval x = .slice B m d) (hr : Rd k w B m d ys)
    (h63 : n + m ≤ maxLen) (hbytes : (n + m) * bytes ≤ 140737488355328) (hbase : base ≤ w.heap.size)
    (h : ∀ A' c' w', Own k e w' base A' (n + m) c' (xs ++ ys) → Below base w w' → w.heap.size ≤ w'.heap.size → (∀ g, g < w.heap.size → (∀ o, A ≠ some ⟨g, o, none⟩) → w'.heap[g]? = w.heap[g]?) → K (a.put o.dst (.slice A' (n + m) c')) w') : o.wp P a w K Q := by
  obtain ⟨A', c', w', hrun, h2, h3, h4, h5⟩ := run_append_rd (P := P) w k base t o.type e i z bytes ht hi hz hsize hby hzs A n c xs hown B m d ys hr h63 hbytes hbase
  unfold Oper.wp execOp
  simp only [ho, resolve, invoke, builtin, Sem.run_bind, Sem.run_pure, Result.andThen_ok, List.map_toArray, List.map_cons, List.map_nil, hs, hx, hrun]
  exact h A' c' w' h2 h3 h4 h5

theorem wpList_append_rd {ops : Array Oper} {rest : List Oper} {o : Oper} {a : Act} {Q : Exit → Act → World → Prop} (hgd : o.guard = none) (s x : Operand) (t : TypeId)
    (ho : o.op = .call { callee := .builtin .append, args := #[s, x], argTypes := #[t, t] })
    (k : IntKind) (base : Nat) (e : TypeId) (i : TypeInfo) (z : Value) (bytes : Nat) (ht : P.underlying t = some (.slice e)) (hi : P.info? e = some i) (hz : i.zero = some z)
    (hsize : i.size = 1) (hby : i.bytes = bytes) (hzs : z.cells.size = 1)
    (A : Option Addr) (n c : Nat) (xs : List Nat) (hs : a.eval s = .slice A n c) (hown : Own k e w base A n c xs) (B : Option Addr) (m d : Nat) (ys : List Nat) (hx : a.eval x = .slice B m d) (hr : Rd k w B m d ys)
    (h63 : n + m ≤ maxLen) (hbytes : (n + m) * bytes ≤ 140737488355328) (hbase : base ≤ w.heap.size)
    (h : ∀ A' c' w', Own k e w' base A' (n + m) c' (xs ++ ys) → Below base w w' → w.heap.size ≤ w'.heap.size → (∀ g, g < w.heap.size → (∀ o, A ≠ some ⟨g, o, none⟩) → w'.heap[g]? = w.heap[g]?) → wpList P ops Q rest (a.put o.dst (.slice A' (n + m) c')) w') : wpList P ops Q (o :: rest) a w :=
  wpList_plain hgd fun _ hK => wp_append_rd w s x t ho k base e i z bytes ht hi hz hsize hby hzs A n c xs hs hown B m d ys hx hr h63 hbytes hbase fun A' c' w' h2 h3 h4 h5 => hK _ _ (h A' c' w' h2 h3 h4 h5)
theorem step_append_rd {ops : Array Oper} {o : Oper} {a : Act} {K : Act → World → Prop} {Q : Exit → Act → World → Prop} {E : Prop} (hgd : o.guard = none) (s x : Operand) (t : TypeId)
    (ho : o.op = .call { callee := .builtin .append, args := #[s, x], argTypes := #[t, t] })
    (k : IntKind) (base : Nat) (e : TypeId) (i : TypeInfo) (z : Value) (bytes : Nat) (ht : P.underlying t = some (.slice e)) (hi : P.info? e = some i) (hz : i.zero = some z)
    (hsize : i.size = 1) (hby : i.bytes = bytes) (hzs : z.cells.size = 1)
    (A : Option Addr) (n c : Nat) (xs : List Nat) (hs : a.eval s = .slice A n c) (hown : Own k e w base A n c xs) (B : Option Addr) (m d : Nat) (ys : List Nat) (hx : a.eval x = .slice B m d) (hr : Rd k w B m d ys)
    (h63 : n + m ≤ maxLen) (hbytes : (n + m) * bytes ≤ 140737488355328) (hbase : base ≤ w.heap.size)
    (h : ∀ A' c' w', Own k e w' base A' (n + m) c' (xs ++ ys) → Below base w w' → w.heap.size ≤ w'.heap.size → (∀ g, g < w.heap.size → (∀ o, A ≠ some ⟨g, o, none⟩) → w'.heap[g]? = w.heap[g]?) → K (a.put o.dst (.slice A' (n + m) c')) w') :
    if Region.wanted o (yielded ops a.tmps) = true then Oper.wp P o a w K Q else E := by
  have hw : Region.wanted o (yielded ops a.tmps) = true := by simp [Region.wanted, hgd]
  rw [if_pos hw]
  exact wp_append_rd w s x t ho k base e i z bytes ht hi hz hsize hby hzs A n c xs hs hown B m d ys hx hr h63 hbytes hbase h
end
end Go.Proofs.Yteelppebdcgbpaa

/- The small functions over limbs: one limb, which number is greater, noughts off the end. -/
namespace Go.Proofs.Yteelppebdcgbpaa
set_option linter.unusedSimpArgs false
set_option linter.unusedVariables false
open Go.RowKit

/-- A slice that came from anywhere holds the number m. -/
def NA (w : World) (A : Option Addr) (n c : Nat) (m : Nat) : Prop := ∃ xs, Rd .u64 w A n c xs ∧ B64 xs ∧ nv xs = m
/-- What the functions of numbers return: the number m in new memory, without noughts at the end. -/
def RetN (m : Nat) (w : World) (e : Ending) (w' : World) : Prop := ∃ A c, e = .returned (.slice A (ln m) c) ∧ Own .u64 35 w' w.heap.size A (ln m) c (limbs m) ∧ Below w.heap.size w w'
theorem u64_info : (Try.prog.info? 35).map (fun i => (i.zero, i.size, i.bytes)) = some (some (.int .u64 0), 1, 8) := by kernel_rfl

theorem NA.below {w w' : World} {A : Option Addr} {n c m : Nat} (h : NA w A n c m) (hb : Below w.heap.size w w') : NA w' A n c m := by
  obtain ⟨xs, h1, h2, h3⟩ := h
  exact ⟨xs, h1.below hb, h2, h3⟩
theorem Own.na {w : World} {base : Nat} {A : Option Addr} {n c m : Nat} {e : TypeId} (h : Own .u64 e w base A n c (limbs m)) : NA w A n c m := ⟨_, h.rd, limbs_b64 m, nv_limbs m⟩

set_option maxHeartbeats 400000 in
theorem limb_any (w : World) {A : Option Addr} {n c : Nat} {xs : List Nat} (h : Rd .u64 w A n c xs) (i : Nat) (hi : i ≤ 4611686018427387904) :
    Calls Try.prog 52 #[.slice A n c, .int .i64 i] w fun e w' => e = .returned (.int .u64 ((gd xs i : Nat) : Int)) ∧ w = w' := by
  by_cases hlt : i < n
  · obtain ⟨ad, rfl, hb, hc⟩ := h.form (by omega)
    have hx := hc i hlt
    have hm := h.max
    have hcap := h.cap
    clear hc h
    go_enter Try.func52, Try.ntmps52
    go_wp2
    go_ret
    exact ⟨rfl, rfl⟩
  · have H := Lib.hid (show gd xs i = 0 from gd_ge (by rw [h.len]; omega))
    have hm := h.max
    have hcap := h.cap
    clear h
    go_enter Try.func52, Try.ntmps52
    go_wp2
    go_ret
    exact ⟨by rw [H.out]; rfl, rfl⟩

set_option maxHeartbeats 400000 in
theorem cmp_any (w : World) {A B : Option Addr} {n c m d x y : Nat} (hx : NA w A n c x) (hy : NA w B m d y) (hn : n ≤ 1048576) (hm : m ≤ 1048576) :
    Calls Try.prog 28 #[.slice A n c, .slice B m d] w fun e w' => e = .returned (.int .i64 (cmpN x y)) ∧ w = w' := by
  obtain ⟨xs, hx, bx, rfl⟩ := hx
  obtain ⟨ys, hy, by', rfl⟩ := hy
  have hal := Alike.start (xs := xs) (ys := ys) (k := max n m) (by rw [hx.len]; omega) (by rw [hy.len]; omega)
  have HX := Lib.hid hx
  have HY := Lib.hid hy
  have BX := Lib.hid bx
  have BY := Lib.hid by'
  clear hx hy bx by'
  by_cases hnm : n < m
  · have e : max n m = m := by omega
    rw [e] at hal
    clear e
    have hd : decide ((n : Int) < m) = true := by simp; omega
    have hmx : max (n : Int) (m : Int) = (m : Int) := by omega
    go_enter Try.func28, Try.ntmps28
    go_wp2
    go_loop [5] (fun i => ∃ k : Nat, k ≤ 1048576 ∧ Alike xs ys k ∧ i = .int .i64 ((k : Int) - 1)) (fun i => (intOf i + 1).toNat)
    case atStart => exact ⟨_, by omega, hal, rfl⟩
    case round =>
      obtain ⟨k, hk, hal', rfl⟩ := hrel
      by_cases hk0 : k = 0
      · subst hk0
        have HF := Lib.hid (cmpN_eq hal'.zero)
        go_wp2
        go_ret
        exact ⟨by rw [HF.out]; rfl, rfl⟩
      · obtain ⟨k, rfl⟩ : ∃ j, k = j + 1 := ⟨k - 1, by omega⟩
        have ek : ((k + 1 : Nat) : Int) - 1 = (k : Int) := by omega
        rw [ek]
        have HA := Lib.hid hal'
        clear hal' ek hk0
        rcases Nat.lt_trichotomy (gd xs k) (gd ys k) with ht | ht | ht
        · have HF := Lib.hid (cmpN_lt (HA.out.lt BX.out ht))
          have Ht : ((gd xs k : Nat) : Int) < ((gd ys k : Nat) : Int) := by omega
          clear ht
          go_wp2_with fail
          refine (limb_any w HX.out k (by omega)).mono ?_
          rintro e w' ⟨rfl, rfl⟩
          go_wp2_with fail
          refine (limb_any w HY.out k (by omega)).mono ?_
          rintro e w' ⟨rfl, rfl⟩
          go_wp2_with fail
          go_ret
          exact ⟨by rw [HF.out]; rfl, rfl⟩
        · have HN := Lib.hid (HA.out.next ht)
          go_wp2_with fail
          refine (limb_any w HX.out k (by omega)).mono ?_
          rintro e w' ⟨rfl, rfl⟩
          go_wp2_with fail
          refine (limb_any w HY.out k (by omega)).mono ?_
          rintro e w' ⟨rfl, rfl⟩
          clear ht
          go_wp2_with fail
          refine ⟨⟨k, by omega, HN.out, rfl⟩, by simp [intOf]⟩
        · have HF := Lib.hid (cmpN_gt (HA.out.symm.lt BY.out ht))
          have Ht : ((gd ys k : Nat) : Int) < ((gd xs k : Nat) : Int) := by omega
          have Hd : decide (((gd xs k : Nat) : Int) < ((gd ys k : Nat) : Int)) = false := by simp only [decide_eq_false_iff_not]; omega
          clear ht
          go_wp2_with fail
          refine (limb_any w HX.out k (by omega)).mono ?_
          rintro e w' ⟨rfl, rfl⟩
          go_wp2_with fail
          refine (limb_any w HY.out k (by omega)).mono ?_
          rintro e w' ⟨rfl, rfl⟩
          go_wp2_with fail
          go_ret
          exact ⟨by rw [HF.out]; rfl, rfl⟩
  · have e : max n m = n := by omega
    rw [e] at hal
    clear e
    have hd : decide ((n : Int) < m) = false := by simp; omega
    have hmx : max (n : Int) (m : Int) = (n : Int) := by omega
    go_enter Try.func28, Try.ntmps28
    go_wp2
    go_loop [5] (fun i => ∃ k : Nat, k ≤ 1048576 ∧ Alike xs ys k ∧ i = .int .i64 ((k : Int) - 1)) (fun i => (intOf i + 1).toNat)
    case atStart => exact ⟨_, by omega, hal, rfl⟩
    case round =>
      obtain ⟨k, hk, hal', rfl⟩ := hrel
      by_cases hk0 : k = 0
      · subst hk0
        have HF := Lib.hid (cmpN_eq hal'.zero)
        go_wp2
        go_ret
        exact ⟨by rw [HF.out]; rfl, rfl⟩
      · obtain ⟨k, rfl⟩ : ∃ j, k = j + 1 := ⟨k - 1, by omega⟩
        have ek : ((k + 1 : Nat) : Int) - 1 = (k : Int) := by omega
        rw [ek]
        have HA := Lib.hid hal'
        clear hal' ek hk0
        rcases Nat.lt_trichotomy (gd xs k) (gd ys k) with ht | ht | ht
        · have HF := Lib.hid (cmpN_lt (HA.out.lt BX.out ht))
          have Ht : ((gd xs k : Nat) : Int) < ((gd ys k : Nat) : Int) := by omega
          clear ht
          go_wp2_with fail
          refine (limb_any w HX.out k (by omega)).mono ?_
          rintro e w' ⟨rfl, rfl⟩
          go_wp2_with fail
          refine (limb_any w HY.out k (by omega)).mono ?_
          rintro e w' ⟨rfl, rfl⟩
          go_wp2_with fail
          go_ret
          exact ⟨by rw [HF.out]; rfl, rfl⟩
        · have HN := Lib.hid (HA.out.next ht)
          go_wp2_with fail
          refine (limb_any w HX.out k (by omega)).mono ?_
          rintro e w' ⟨rfl, rfl⟩
          go_wp2_with fail
          refine (limb_any w HY.out k (by omega)).mono ?_
          rintro e w' ⟨rfl, rfl⟩
          clear ht
          go_wp2_with fail
          refine ⟨⟨k, by omega, HN.out, rfl⟩, by simp [intOf]⟩
        · have HF := Lib.hid (cmpN_gt (HA.out.symm.lt BY.out ht))
          have Ht : ((gd ys k : Nat) : Int) < ((gd xs k : Nat) : Int) := by omega
          have Hd : decide (((gd xs k : Nat) : Int) < ((gd ys k : Nat) : Int)) = false := by simp only [decide_eq_false_iff_not]; omega
          clear ht
          go_wp2_with fail
          refine (limb_any w HX.out k (by omega)).mono ?_
          rintro e w' ⟨rfl, rfl⟩
          go_wp2_with fail
          refine (limb_any w HY.out k (by omega)).mono ?_
          rintro e w' ⟨rfl, rfl⟩
          go_wp2_with fail
          go_ret
          exact ⟨by rw [HF.out]; rfl, rfl⟩
end Go.Proofs.Yteelppebdcgbpaa

/- Noughts are taken off a number's end; a small number. -/
namespace Go.Proofs.Yteelppebdcgbpaa
set_option linter.unusedSimpArgs false
set_option linter.unusedVariables false
open Go.RowKit

set_option maxHeartbeats 400000 in
theorem trim_any (w : World) {A : Option Addr} {n c x : Nat} (hx : NA w A n c x) (hn : n ≤ 1048576) :
    Calls Try.prog 40 #[.slice A n c] w (RetN x w) := by
  obtain ⟨xs, hx, bx, rfl⟩ := hx
  obtain ⟨i0, hi0, hz0, hz1, hz2⟩ := info_parts u64_info
  have hmax := hx.max
  have hcap := hx.cap
  have HX := Lib.hid hx
  have BX := Lib.hid bx
  clear hx bx
  go_enter Try.func40, Try.ntmps40
  go_wp2
  go_loop [3] (fun i => ∃ k : Nat, k ≤ n ∧ nv (xs.take k) = nv xs ∧ i = .int .i64 (k : Int)) (fun i => (intOf i).toNat)
  case atStart => exact ⟨n, Nat.le_refl _, by rw [List.take_of_length_le (by rw [HX.out.len]; exact Nat.le_refl _)], rfl⟩
  case round =>
    obtain ⟨k, hk, hv, rfl⟩ := hrel
    by_cases hk0 : k = 0
    · subst hk0
      have HT : Rd .u64 w A 0 c [] := Rd.nil _ _ _ _
      have HF := Lib.hid (show nv xs = 0 by rw [← hv]; rfl)
      clear hv
      go_wp2_with (at_builtin; refine wpList_append_rd _ rfl (.const (.slice none 0 0)) (.tmp 20) _ rfl .u64 w.heap.size 35 i0 (.int .u64 0) 8 Try.underlying22 hi0 hz0 hz1 hz2 rfl none 0 0 [] rfl (Own.nil _ _ _ _) _ _ _ _ rfl HT (by simp only [maxLen]; omega) (by omega) (Nat.le_refl _) ?_)
      intro A' c' w' ho hb _ _
      go_wp2_with fail
      go_ret
      refine ⟨A', c', ?_, ?_, hb⟩
      · rw [HF.out, ln_zero]; rfl
      · rw [HF.out, ln_zero, limbs_zero]; exact ho
    · obtain ⟨k, rfl⟩ : ∃ j, k = j + 1 := ⟨k - 1, by omega⟩
      obtain ⟨ad, rfl, hb, hc⟩ := HX.out.form (by omega)
      have ek : ((k + 1 : Nat) : Int) - 1 = (k : Int) := by omega
      have hx := hc k (by omega)
      have hv' := Lib.hid hv
      clear hc hv hk0
      by_cases h0 : gd xs k = 0
      · have HM := Lib.hid (trim_more h0 hv'.out)
        rw [h0] at hx
        have h0' : (((k + 1 : Nat) : Int) == 0) = false := by simp; omega
        clear h0
        go_wp2_with fail
        refine ⟨⟨k, by omega, HM.out, ?_⟩, ?_⟩
        · first | rfl | (congr 1; omega)
        · simp [intOf]
      · have HD := Lib.hid (trim_done BX.out (by rw [HX.out.len]; omega) h0 hv'.out)
        have h0' : (((gd xs k : Nat) : Int) == 0) = false := by simp; omega
        clear h0
        have HT : Rd .u64 w (some ad) (k + 1) c (xs.take (k + 1)) := HX.out.take (by omega)
        go_wp2_with (at_builtin; refine wpList_append_rd _ rfl (.const (.slice none 0 0)) (.tmp 20) _ rfl .u64 w.heap.size 35 i0 (.int .u64 0) 8 Try.underlying22 hi0 hz0 hz1 hz2 rfl none 0 0 [] rfl (Own.nil _ _ _ _) _ _ _ _ rfl HT (by simp only [maxLen]; omega) (by omega) (Nat.le_refl _) ?_)
        intro A' c' w' ho hb _ _
        go_wp2_with fail
        go_ret
        have hl : ln (nv xs) = k + 1 := by unfold ln; rw [HD.out, List.length_take, HX.out.len]; omega
        refine ⟨A', c', ?_, ?_, by assumption⟩
        · rw [hl]; rfl
        · rw [hl, HD.out]; simpa using ho
end Go.Proofs.Yteelppebdcgbpaa

/- Three functions of package bits at this program's numbers: laid by the shelf's command in its plain mode. -/
namespace Go.Proofs
open Go.Shelf
def Yteelppebdcgbpaa.lays134_ren : Go.Shelf.Ren := ⟨fun | 134 => 50 | 129 => 73 | n => n, fun | 53 => 35 | 3 => 3 | 4 => 4 | 46 => 69 | 5 => 5 | 9 => 9 | n => n, fun | n => n⟩
theorem Yteelppebdcgbpaa.lays134 : Go.Proofs.Lays.n134 Try.prog Yteelppebdcgbpaa.lays134_ren := {
  mixed := by kernel_rfl
  f129 := Try.func73.trans (congrArg some (by kernel_rfl))
  f134 := Try.func50.trans (congrArg some (by kernel_rfl))
  t3 := Try.underlying3
  a3 := Try.isAgg3
  z3 := Try.sizeOf3
  v3 := Try.zeroValue3
  t4 := Try.underlying4
  a4 := Try.isAgg4
  z4 := Try.sizeOf4
  v4 := Try.zeroValue4
  t5 := Try.underlying5
  a5 := Try.isAgg5
  z5 := Try.sizeOf5
  v5 := Try.zeroValue5
  t9 := Try.underlying9
  a9 := Try.isAgg9
  z9 := Try.sizeOf9
  v9 := Try.zeroValue9
  t46 := Try.underlying69
  a46 := Try.isAgg69
  z46 := Try.sizeOf69
  v46 := Try.zeroValue69
  t53 := Try.underlying35
  a53 := Try.isAgg35
  z53 := Try.sizeOf35
  v53 := Try.zeroValue35 }
theorem Yteelppebdcgbpaa.bits_LeadingZeros64 (x : Int) (w : World) (h0 : 0 ≤ x) (h1 : x ≤ 18446744073709551615) :
    Calls Try.prog 50 #[.int .u64 x] w fun e w' => e = .returned (.int .i64 (64 - (Lib.bitLen x.toNat : Int))) ∧ w' = w := Any.bits_LeadingZeros64 Yteelppebdcgbpaa.lays134 x w h0 h1
def Yteelppebdcgbpaa.lays129_ren : Go.Shelf.Ren := ⟨fun | 129 => 73 | n => n, fun | 53 => 35 | 3 => 3 | 4 => 4 | 46 => 69 | 5 => 5 | 9 => 9 | n => n, fun | n => n⟩
theorem Yteelppebdcgbpaa.lays129 : Go.Proofs.Lays.n129 Try.prog Yteelppebdcgbpaa.lays129_ren := {
  mixed := by kernel_rfl
  f129 := Try.func73.trans (congrArg some (by kernel_rfl))
  t3 := Try.underlying3
  a3 := Try.isAgg3
  z3 := Try.sizeOf3
  v3 := Try.zeroValue3
  t4 := Try.underlying4
  a4 := Try.isAgg4
  z4 := Try.sizeOf4
  v4 := Try.zeroValue4
  t5 := Try.underlying5
  a5 := Try.isAgg5
  z5 := Try.sizeOf5
  v5 := Try.zeroValue5
  t9 := Try.underlying9
  a9 := Try.isAgg9
  z9 := Try.sizeOf9
  v9 := Try.zeroValue9
  t46 := Try.underlying69
  a46 := Try.isAgg69
  z46 := Try.sizeOf69
  v46 := Try.zeroValue69
  t53 := Try.underlying35
  a53 := Try.isAgg35
  z53 := Try.sizeOf35
  v53 := Try.zeroValue35 }
theorem Yteelppebdcgbpaa.bits_Len64 (x : Int) (w : World) (h0 : 0 ≤ x) (h1 : x ≤ 18446744073709551615) :
    Calls Try.prog 73 #[.int .u64 x] w fun e w' => e = .returned (.int .i64 (Lib.bitLen x.toNat)) ∧ w' = w := Any.bits_Len64 Yteelppebdcgbpaa.lays129 x w h0 h1
def Yteelppebdcgbpaa.lays264_ren : Go.Shelf.Ren := ⟨fun | 264 => 53 | n => n, fun | 53 => 35 | 46 => 69 | n => n, fun | n => n⟩
theorem Yteelppebdcgbpaa.lays264 : Go.Proofs.Lays.n264 Try.prog Yteelppebdcgbpaa.lays264_ren := {
  mixed := by kernel_rfl
  f264 := Try.func53.trans (congrArg some (by kernel_rfl))
  t46 := Try.underlying69
  a46 := Try.isAgg69
  z46 := Try.sizeOf69
  v46 := Try.zeroValue69
  t53 := Try.underlying35
  a53 := Try.isAgg35
  z53 := Try.sizeOf35
  v53 := Try.zeroValue35 }
open Go.RowKit Go.Lib in
theorem Yteelppebdcgbpaa.bits_Mul64 (x y : Nat) (hx : x < 18446744073709551616) (hy : y < 18446744073709551616) (w : World) :
    Calls Try.prog 53 #[.int .u64 x, .int .u64 y] w fun e w' => e = .returned (.tuple #[.int .u64 ((x * y / 18446744073709551616 : Nat) : Int), .int .u64 ((x * y % 18446744073709551616 : Nat) : Int)]) ∧ w' = w := Any.bits_Mul64 Yteelppebdcgbpaa.lays264 x y hx hy w
end Go.Proofs

/- Sums and differences of numbers, limb by limb; a small number. -/
namespace Go.Proofs.Yteelppebdcgbpaa
set_option linter.unusedSimpArgs false
set_option linter.unusedVariables false
open Go.RowKit

/-! the intrinsics -/
theorem run_add (x y c : Nat) (hc : c ≤ 1) (w : World) : (callFunc 51 #[.int .u64 (x : Int), .int .u64 (y : Int), .int .u64 (c : Int)]).run Try.prog w = .ok (.value (.tuple #[.int .u64 (((x + y + c) % 18446744073709551616 : Nat) : Int), .int .u64 (((x + y + c) / 18446744073709551616 : Nat) : Int)])) w := by
  rw [run_callFunc_extern (e := add64Entry) Try.func51 (by rfl) (by rfl) (by kernel_rfl) (by kernel_rfl), run_add64 _ _ _ (by omega) (by omega) (by omega) (by omega)]
  rfl
def sub64Entry : Array Value → Sem Value := fun args => do
  let (x, y, b) ← Extern.MathBitsCarry.three "Sub64" args
  pure (Extern.MathBitsCarry.pair ((x + Extern.MathBitsCarry.m64 - y - b) % Extern.MathBitsCarry.m64) (if x < y + b then 1 else 0))
theorem run_sub (x y c : Nat) (hc : c ≤ 1) (w : World) : (callFunc 74 #[.int .u64 (x : Int), .int .u64 (y : Int), .int .u64 (c : Int)]).run Try.prog w = .ok (.value (.tuple #[.int .u64 (((x + 18446744073709551616 - y - c) % 18446744073709551616 : Nat) : Int), .int .u64 (((if x < y + c then 1 else 0 : Nat)) : Int)])) w := by
  rw [run_callFunc_extern (e := sub64Entry) Try.func74 (by rfl) (by rfl) (by kernel_rfl) (by kernel_rfl)]
  rcases (show c = 0 ∨ c = 1 by omega) with rfl | rfl <;> rfl

theorem run_mk (n : Nat) (hn : n ≤ 4194304) (w : World) : (Instr.makeSlice 22 (.int .i64 (n : Int)) (.int .i64 (n : Int))).run Try.prog w = .ok (.slice (some ⟨w.heap.size, 0, none⟩) n n) (w.alloc (.cells (va .u64 (List.replicate n 0)) 35)) := by
  obtain ⟨i0, hi0, hz0, hz1, hz2⟩ := info_parts u64_info
  have h := run_make (P := Try.prog) w 22 35 i0 (.int .u64 0) Try.underlying22 hi0 hz0 .i64 .i64 n n (by omega) (by omega) (by rw [hz2]; omega) (by omega)
  rw [h, hz1]
  simp only [Int.toNat_natCast, Nat.mul_one]
  rw [show (Value.int IntKind.u64 0).cells = #[.int .u64 0] from rfl, made_va]

/-- a row with a digit set is what it was to that place, and the digit -/
theorem nv_take_set {xs : List Nat} {k y : Nat} (h : k < xs.length) : nv ((xs.set k y).take (k + 1)) = nv (xs.take k) + 18446744073709551616 ^ k * y := by
  rw [nv_take, gd_set_self h]
  congr 2
  rw [List.take_set, List.set_eq_of_length_le (by rw [List.length_take]; omega)]

theorem add_step {S x y c s d P X Y : Nat} (hs : s = (x + y + c) % 18446744073709551616) (hd : d = (x + y + c) / 18446744073709551616) (h : S + P * c = X + Y) : S + P * s + P * 18446744073709551616 * d = X + P * x + (Y + P * y) := by
  have e : x + y + c = s + 18446744073709551616 * d := by rw [hs, hd]; omega
  have e2 := congrArg (P * ·) e
  simp only [Nat.mul_add] at e2
  rw [← Nat.mul_assoc] at e2
  omega

theorem RetN.lift {m : Nat} {w w1 w' : World} {e : Ending} (h : RetN m w1 e w') (hb : Below w.heap.size w w1) : RetN m w e w' := by
  obtain ⟨A, c, h1, h2, h3⟩ := h
  exact ⟨A, c, h1, h2.lower hb.size, hb.trans (h3.mono hb.size)⟩

set_option maxHeartbeats 400000 in
theorem of_any (w : World) (x : Nat) (hx : x < 18446744073709551616) :
    Calls Try.prog 27 #[.int .u64 x] w (RetN x w) := by
  have hn : NA (w.alloc (.cells #[.int .u64 (x : Int)] 35)) (some ⟨w.heap.size, 0, none⟩) 1 1 x := by
    refine ⟨[x], (Own.of_bk (k := .u64) (xs := [x]) (base := 0) (Bk.new w 35 (va .u64 [x])) (by omega) rfl (by simp)).rd, B64.cons hx B64.nil, by simp [nv]⟩
  go_enter Try.func27, Try.ntmps27
  go_wp2_with fail
  refine (trim_any _ hn (by omega)).mono ?_
  rintro e w' h
  have h := h.lift ((Below.refl _ _).alloc (Nat.le_refl _) _)
  obtain ⟨A, c, rfl, ho, hb⟩ := h
  go_wp2_with fail
  go_ret
  exact ⟨A, c, rfl, ho, hb⟩

set_option maxHeartbeats 400000 in
theorem add_any (w : World) {A B : Option Addr} {n c m d x y : Nat} (hx : NA w A n c x) (hy : NA w B m d y) (hn : n ≤ 1048575) (hm : m ≤ 1048575) :
    Calls Try.prog 25 #[.slice A n c, .slice B m d] w (RetN (x + y) w) := by
  obtain ⟨xs, hx, bx, rfl⟩ := hx
  obtain ⟨ys, hy, by', rfl⟩ := hy
  obtain ⟨N, hN, hN1, hN2, hmax⟩ : ∃ N : Nat, N ≤ 1048575 ∧ n ≤ N ∧ m ≤ N ∧ max (n : Int) m = N := ⟨max n m, by omega, by omega, by omega, by omega⟩
  have HX := Lib.hid hx
  have HY := Lib.hid hy
  have BX := Lib.hid bx
  have BY := Lib.hid by'
  have hmk := fun w => run_mk (N + 1) (by omega) w
  rw [show ((N + 1 : Nat) : Int) = (N : Int) + 1 from rfl] at hmk
  clear hx hy bx by'
  go_enter Try.func25, Try.ntmps25
  go_wp2_with fail
  go_loopw [7, 18] (fun cv i wr => ∃ (k cy : Nat) (zs : List Nat), k ≤ N ∧ cy ≤ 1 ∧ i = .int .i64 (k : Int) ∧ cv = .int .u64 (cy : Int) ∧ zs.length = N + 1 ∧ B64 zs ∧ Bk wr w.heap.size 35 (va .u64 zs) ∧ Below w.heap.size w wr ∧ nv (zs.take k) + 18446744073709551616 ^ k * cy = nv (xs.take k) + nv (ys.take k)) (fun _ i _ => N - (intOf i).toNat)
  case atStart => exact ⟨0, 0, List.replicate (N + 1) 0, by omega, by omega, rfl, rfl, by simp, B64.replicate _, Bk.new _ _ _, (Below.refl _ _).alloc (Nat.le_refl _) _, by simp [nv]⟩
  case round =>
    obtain ⟨k, cy, zs, hk, hcy, rfl, rfl, hzl, bz, bk, hbl, hinv⟩ := hrel
    have HI := Lib.hid hinv
    clear hinv
    by_cases hlt : k < N
    · have hcell := (bk.cell k).trans (va_at .u64 (by omega))
      have hfr := bk.frozen k
      have hadd := run_add (gd xs k) (gd ys k) cy hcy
      obtain ⟨s, hs⟩ : ∃ s, (gd xs k + gd ys k + cy) % 18446744073709551616 = s := ⟨_, rfl⟩
      obtain ⟨q, hq⟩ : ∃ q, (gd xs k + gd ys k + cy) / 18446744073709551616 = q := ⟨_, rfl⟩
      rw [hs, hq] at hadd
      have HS := Lib.hid hs
      have HQ := Lib.hid hq
      have hbk := Lib.hid (bk.set k (.int .u64 (s : Int)))
      have Bk' := Lib.hid bk
      clear hs hq bk
      go_wp2_with fail
      refine (limb_any wr (HX.out.below hbl) k (by omega)).mono ?_
      rintro e w' ⟨rfl, rfl⟩
      go_wp2_with fail
      refine (limb_any wr (HY.out.below hbl) k (by omega)).mono ?_
      rintro e w' ⟨rfl, rfl⟩
      go_wp2_with fail
      have hgx := BX.out.gd k
      have hgy := BY.out.gd k
      refine ⟨⟨k + 1, q, zs.set k s, by omega, ?_, by go_num, rfl, by simpa using hzl, bz.set ?_, ?_, ?_, ?_⟩, by simp [intOf]; omega⟩
      · rw [← HQ.out]; omega
      · rw [← HS.out]; exact Nat.mod_lt _ (by omega)
      · rw [← va_set]; exact hbk.out
      · (repeat (first | (with_reducible exact Below.refl _ _) | (with_reducible assumption) | (with_reducible refine Below.drew ?_) | (with_reducible refine below_drewN ?_ _) | ((with_reducible refine Below.setCell ?_ (p := ⟨_, _, _⟩) ?_ _); rotate_left; (simp <;> omega)) | ((with_reducible refine Below.alloc ?_ ?_ _); rotate_left; (simp <;> omega)) | ((with_reducible refine Below.trans ?_ (Below.mono (by with_reducible assumption) ?_)); rotate_left; (simp <;> omega))))
      · rw [nv_take_set (by omega), nv_take, nv_take, Nat.pow_succ]
        exact add_step HS.out.symm HQ.out.symm HI.out
    · obtain rfl : N = k := by omega
      have hcell := (bk.cell N).trans (va_at .u64 (by omega))
      have hfr := bk.frozen N
      have hbk := bk.set N (.int .u64 (cy : Int))
      rw [va_set] at hbk
      have hB2 : Below w.heap.size w (wr.setCell ⟨w.heap.size, N, none⟩ (.int .u64 (cy : Int))) := by (repeat (first | (with_reducible exact Below.refl _ _) | (with_reducible assumption) | (with_reducible refine Below.drew ?_) | (with_reducible refine below_drewN ?_ _) | ((with_reducible refine Below.setCell ?_ (p := ⟨_, _, _⟩) ?_ _); rotate_left; (simp <;> omega)) | ((with_reducible refine Below.alloc ?_ ?_ _); rotate_left; (simp <;> omega)) | ((with_reducible refine Below.trans ?_ (Below.mono (by with_reducible assumption) ?_)); rotate_left; (simp <;> omega))))
      have hna : NA (wr.setCell ⟨w.heap.size, N, none⟩ (.int .u64 (cy : Int))) (some ⟨w.heap.size, 0, none⟩) (N + 1) (N + 1) (nv xs + nv ys) := by
        refine ⟨zs.set N cy, (Own.of_bk (base := 0) hbk (by omega) (by simpa using hzl) (by omega)).rd, bz.set (by omega), ?_⟩
        have e := nv_take_set (xs := zs) (k := N) (y := cy) (by omega)
        rw [List.take_of_length_le (by simp; omega), HI.out, List.take_of_length_le (by rw [HX.out.len]; omega), List.take_of_length_le (by rw [HY.out.len]; omega)] at e
        exact e
      have HB2 := Lib.hid hB2
      have HNA := Lib.hid hna
      clear hbk hna hB2
      go_wp2_with fail
      refine (trim_any _ HNA.out (by omega)).mono ?_
      rintro e w' h
      have h := h.lift HB2.out
      obtain ⟨A, c, rfl, ho, hb⟩ := h
      go_wp2_with fail
      go_ret
      exact ⟨A, c, rfl, ho, hb⟩
end Go.Proofs.Yteelppebdcgbpaa

/- Differences of numbers, limb by limb. -/
namespace Go.Proofs.Yteelppebdcgbpaa
set_option linter.unusedSimpArgs false
set_option linter.unusedVariables false
open Go.RowKit

/-- What the functions of numbers return that may err. -/
def RetNE (m : Nat) (er : Int) (w : World) (e : Ending) (w' : World) : Prop := ∃ A c, e = .returned (.tuple #[.slice A (ln m) c, .int .i64 er]) ∧ Own .u64 35 w' w.heap.size A (ln m) c (limbs m) ∧ Below w.heap.size w w'
theorem RetNE.lift {m : Nat} {er : Int} {w w1 w' : World} {e : Ending} (h : RetNE m er w1 e w') (hb : Below w.heap.size w w1) : RetNE m er w e w' := by
  obtain ⟨A, c, h1, h2, h3⟩ := h
  exact ⟨A, c, h1, h2.lower hb.size, hb.trans (h3.mono hb.size)⟩

theorem sub_step {x y c s d P X Y Z : Nat} (hx : x < 18446744073709551616) (hy : y < 18446744073709551616) (hc : c ≤ 1) (hs : s = (x + 18446744073709551616 - y - c) % 18446744073709551616) (hd : d = if x < y + c then 1 else 0) (h : X + P * c = Z + Y) : X + P * x + P * 18446744073709551616 * d = Z + P * s + (Y + P * y) := by
  have e : x + 18446744073709551616 * d = s + y + c := by
    by_cases hlt : x < y + c
    · rw [if_pos hlt] at hd; subst hd; omega
    · rw [if_neg hlt] at hd; subst hd; omega
  have e2 := congrArg (P * ·) e
  simp only [Nat.mul_add] at e2
  rw [← Nat.mul_assoc] at e2
  omega
theorem sub_end {X Y Yt Yd Z P c : Nat} (hY : Y = Yt + P * Yd) (hle : Y ≤ X) (hX : X < P) (hZ : Z < P) (hc : c ≤ 1) (h : X + P * c = Z + Yt) : Z = X - Y := by
  have h0 : Yd = 0 := by
    rcases Nat.eq_zero_or_pos Yd with h | h
    · exact h
    · have := Nat.mul_le_mul_left P h; omega
  subst h0
  rcases (show c = 0 ∨ c = 1 by omega) with rfl | rfl <;> simp at * <;> omega

set_option maxHeartbeats 400000 in
theorem sub_any (w : World) {A B : Option Addr} {n c m d x y : Nat} (hx : NA w A n c x) (hy : NA w B m d y) (hn : n ≤ 1048576) (hm : m ≤ 1048576) :
    Calls Try.prog 54 #[.slice A n c, .slice B m d] w (RetNE (x - y) (if x < y then 10 else 0) w) := by
  by_cases hxy : x < y
  · have hd : decide (cmpN x y < 0) = true := by rw [cmpN_lt hxy]; rfl
    have HF := Lib.hid (show x - y = 0 by omega)
    rw [if_pos hxy]
    have HG := Lib.hid hxy
    have HX := Lib.hid hx
    have HY := Lib.hid hy
    clear hxy hx hy
    go_enter Try.func54, Try.ntmps54
    go_wp2_with fail
    refine (cmp_any w HX.out HY.out hn hm).mono ?_
    rintro e w' ⟨rfl, rfl⟩
    go_wp2_with fail
    go_ret2
    refine ⟨none, 0, ?_, ?_, Below.refl _ _⟩
    · rw [HF.out, ln_zero]; rfl
    · rw [HF.out, ln_zero, limbs_zero]; exact Own.nil _ _ _ _
  · have hd : decide (cmpN x y < 0) = false := by
      by_cases e : x = y
      · rw [cmpN_eq e]; rfl
      · rw [cmpN_gt (by omega)]; rfl
    rw [if_neg hxy]
    have HG := Lib.hid hxy
    have HNX := Lib.hid hx
    have HNY := Lib.hid hy
    obtain ⟨xs, hx, bx, rfl⟩ := hx
    obtain ⟨ys, hy, by', rfl⟩ := hy
    have HX := Lib.hid hx
    have HY := Lib.hid hy
    have BX := Lib.hid bx
    have BY := Lib.hid by'
    have hmk := fun w => run_mk n (by omega) w
    clear hx hy bx by' hxy
    go_enter Try.func54, Try.ntmps54
    go_wp2_with fail
    refine (cmp_any w HNX.out HNY.out hn hm).mono ?_
    rintro e w' ⟨rfl, rfl⟩
    go_wp2_with fail
    go_loopw [7, 18] (fun cv i wr => ∃ (k cy : Nat) (zs : List Nat), k ≤ n ∧ cy ≤ 1 ∧ i = .int .i64 (k : Int) ∧ cv = .int .u64 (cy : Int) ∧ zs.length = n ∧ B64 zs ∧ Bk wr w.heap.size 35 (va .u64 zs) ∧ Below w.heap.size w wr ∧ nv (xs.take k) + 18446744073709551616 ^ k * cy = nv (zs.take k) + nv (ys.take k)) (fun _ i _ => n - (intOf i).toNat)
    case atStart => exact ⟨0, 0, List.replicate n 0, by omega, by omega, rfl, rfl, by simp, B64.replicate _, Bk.new _ _ _, (Below.refl _ _).alloc (Nat.le_refl _) _, by simp [nv]⟩
    case round =>
      obtain ⟨k, cy, zs, hk, hcy, rfl, rfl, hzl, bz, bk, hbl, hinv⟩ := hrel
      have HI := Lib.hid hinv
      clear hinv
      by_cases hlt : k < n
      · obtain ⟨ad, rfl, hb, hc⟩ := HX.out.form (by omega)
        have hxo := hc k hlt
        have hxc := (hbl.cell (p := ad.add k) (adlt hb k)).trans (hc k hlt)
        have hcell := (bk.cell k).trans (va_at .u64 (by omega))
        have hfr := bk.frozen k
        have hsub := run_sub (gd xs k) (gd ys k) cy hcy
        obtain ⟨s, hs⟩ : ∃ s, (gd xs k + 18446744073709551616 - gd ys k - cy) % 18446744073709551616 = s := ⟨_, rfl⟩
        obtain ⟨q, hq⟩ : ∃ q : Nat, (if gd xs k < gd ys k + cy then 1 else 0) = q := ⟨_, rfl⟩
        rw [hs, hq] at hsub
        have HS := Lib.hid hs
        have HQ := Lib.hid hq
        have hbk := Lib.hid (bk.set k (.int .u64 (s : Int)))
        clear hs hq bk hc
        go_wp2_with fail
        have hk4 : k ≤ 4611686018427387904 := by omega
        have S0 : wr.drew.cell? (ad.add k) = some (.int .u64 ((gd xs k : Nat) : Int)) ∧ Hid (Rd .u64 wr.drew B m d ys) ∧ Hid (∃ v, wr.drew.cell? ⟨w.heap.size, k, none⟩ = some v) := ⟨hxc, (HY.out.below hbl).drew, ⟨_, hcell⟩⟩
        have hBs : Below w.heap.size w (wr.setCell ⟨w.heap.size, k, none⟩ (.int .u64 (s : Int))).drew := by (repeat (first | (with_reducible exact Below.refl _ _) | (with_reducible assumption) | (with_reducible refine Below.drew ?_) | (with_reducible refine below_drewN ?_ _) | ((with_reducible refine Below.setCell ?_ (p := ⟨_, _, _⟩) ?_ _); rotate_left; (simp <;> omega)) | ((with_reducible refine Below.alloc ?_ ?_ _); rotate_left; (simp <;> omega)) | ((with_reducible refine Below.trans ?_ (Below.mono (by with_reducible assumption) ?_)); rotate_left; (simp <;> omega))))
        have S1 : (wr.setCell ⟨w.heap.size, k, none⟩ (.int .u64 (s : Int))).drew.cell? (ad.add k) = some (.int .u64 ((gd xs k : Nat) : Int)) ∧ Hid (Rd .u64 (wr.setCell ⟨w.heap.size, k, none⟩ (.int .u64 (s : Int))).drew B m d ys) ∧ Hid (∃ v, (wr.setCell ⟨w.heap.size, k, none⟩ (.int .u64 (s : Int))).drew.cell? ⟨w.heap.size, k, none⟩ = some v) :=
          ⟨(hBs.cell (p := ad.add k) (adlt hb k)).trans hxo, HY.out.below hBs, ⟨_, World.cell?_setCell_same _ _ _ hcell⟩⟩
        go_region_held3 (fun w' => w'.cell? (ad.add k) = some (.int .u64 ((gd xs k : Nat) : Int)) ∧ Hid (Rd .u64 w' B m d ys) ∧ Hid (∃ v, w'.cell? ⟨w.heap.size, k, none⟩ = some v))
          (first | exact S0 | exact S1)
          ((go_at_call 52; refine (limb_any wr.drew S0.2.1 k hk4).mono ?_; rintro e w' ⟨rfl, rfl⟩))
        have hgx := BX.out.gd k
        have hgy := BY.out.gd k
        clear S0 S1
        go_wp2_with fail
        refine ⟨⟨k + 1, q, zs.set k s, by omega, ?_, by go_num, rfl, by simpa using hzl, bz.set ?_, ?_, ?_, ?_⟩, by simp [intOf]; omega⟩
        · rw [← HQ.out]; split <;> omega
        · rw [← HS.out]; exact Nat.mod_lt _ (by omega)
        · rw [← va_set]; exact hbk.out
        · exact hBs
        · rw [nv_take_set (by omega), nv_take, nv_take, Nat.pow_succ]
          exact sub_step hgx hgy hcy HS.out.symm HQ.out.symm HI.out
      · obtain rfl : n = k := by omega
        have hna : NA wr (some ⟨w.heap.size, 0, none⟩) n n (nv xs - nv ys) := by
          refine ⟨zs, (Own.of_bk (base := 0) bk (by omega) hzl (by omega)).rd, bz, ?_⟩
          have e := HI.out
          rw [List.take_of_length_le (by rw [HX.out.len]; omega), List.take_of_length_le (show zs.length ≤ n by omega)] at e
          have hX := nv_lt BX.out
          rw [HX.out.len] at hX
          have hZ := nv_lt bz
          rw [hzl] at hZ
          have hY : nv ys = nv (ys.take n) + 18446744073709551616 ^ n * nv (ys.drop n) := by
            rcases Nat.le_total n ys.length with h | h
            · exact nv_split ys n h
            · rw [List.take_of_length_le h, List.drop_eq_nil_of_le h]; simp [nv]
          exact sub_end hY (by have := HG.out; omega) hX hZ hcy e
        have HNA := Lib.hid hna
        clear hna bk
        go_wp2_with fail
        refine (trim_any _ HNA.out hn).mono ?_
        rintro e w' h
        have h := h.lift hbl
        obtain ⟨A', c', rfl, ho, hb⟩ := h
        go_wp2_with fail
        go_ret2
        exact ⟨A', c', rfl, ho, hb⟩
end Go.Proofs.Yteelppebdcgbpaa

/- Products of numbers, limb by limb. -/
namespace Go.Proofs.Yteelppebdcgbpaa
set_option linter.unusedSimpArgs false
set_option linter.unusedVariables false
open Go.RowKit

theorem mul_digit {x y o c h l l1 c1 h1 s c2 c' : Nat} (hx : x < 18446744073709551616) (hy : y < 18446744073709551616) (ho : o < 18446744073709551616) (hc : c < 18446744073709551616)
    (eh : x * y / 18446744073709551616 = h) (el : x * y % 18446744073709551616 = l) (e1 : (l + o + 0) % 18446744073709551616 = l1) (e2 : (l + o + 0) / 18446744073709551616 = c1) (e3 : h + c1 = h1)
    (e4 : (l1 + c + 0) % 18446744073709551616 = s) (e5 : (l1 + c + 0) / 18446744073709551616 = c2) (e6 : h1 + c2 = c') :
    x * y + o + c = s + 18446744073709551616 * c' ∧ c' < 18446744073709551616 ∧ h1 < 18446744073709551616 ∧ s < 18446744073709551616 ∧ c1 ≤ 1 ∧ c2 ≤ 1 := by
  have hm : x * y ≤ 18446744073709551615 * 18446744073709551615 := Nat.mul_le_mul (by omega) (by omega)
  generalize x * y = p at *
  omega
theorem mul_step {S P c Z0 X Yt x y o s c' : Nat} {Q : Nat} (hd : x * y + o + c = s + 18446744073709551616 * c') (h : S + P * Q * c = Z0 + P * (X * Yt)) (hX : X = x) :
    S + P * Q * s + P * (Q * 18446744073709551616) * c' = Z0 + P * Q * o + P * (X * (Yt + Q * y)) := by
  subst hX
  have e := congrArg (P * Q * ·) hd
  simp only [Nat.mul_add] at e
  have e1 : P * Q * (X * y) = P * (X * (Q * y)) := by rw [Nat.mul_assoc P Q, Nat.mul_left_comm Q X y]
  have e2 : P * Q * (18446744073709551616 * c') = P * (Q * 18446744073709551616) * c' := by rw [← Nat.mul_assoc, Nat.mul_assoc P Q]
  rw [Nat.mul_add X, Nat.mul_add P]
  rw [e1, e2] at e
  omega
/-- an inner loop's relation -/
def MulIn (zs z0 ys : List Nat) (x i j c : Nat) : Prop :=
  nv (zs.take (i + j)) + 18446744073709551616 ^ i * 18446744073709551616 ^ j * c = nv (z0.take (i + j)) + 18446744073709551616 ^ i * (x * nv (ys.take j)) ∧ ∀ t, i + j ≤ t → gd zs t = gd z0 t
theorem MulIn.zero (z0 ys : List Nat) (x i : Nat) : MulIn z0 z0 ys x i 0 0 := ⟨by simp [nv], fun _ _ => rfl⟩
theorem MulIn.next {zs z0 ys : List Nat} {x i j c s c' : Nat} (h : MulIn zs z0 ys x i j c) (hl : i + j < zs.length) (hd : x * gd ys j + gd zs (i + j) + c = s + 18446744073709551616 * c') : MulIn (zs.set (i + j) s) z0 ys x i (j + 1) c' := by
  obtain ⟨h1, h2⟩ := h
  refine ⟨?_, fun t ht => ?_⟩
  · rw [← Nat.add_assoc, nv_take_set hl, nv_take z0, nv_take ys, Nat.pow_add, Nat.pow_succ, ← h2 (i + j) (Nat.le_refl _)]
    exact mul_step hd h1 rfl
  · rw [gd_set (by omega)]; exact h2 t (by omega)
theorem MulIn.done {zs z0 xs ys : List Nat} {i m c : Nat} (h : MulIn zs z0 ys (gd xs i) i m c) (hl : i + m < zs.length) (hm : ys.length = m) (h0 : nv (z0.take (i + m)) = nv (xs.take i) * nv ys) : nv ((zs.set (i + m) c).take (i + 1 + m)) = nv (xs.take (i + 1)) * nv ys := by
  obtain ⟨h1, _⟩ := h
  rw [show i + 1 + m = i + m + 1 by omega, nv_take_set hl, nv_take xs, Nat.pow_add, h1, h0, List.take_of_length_le (l := ys) (by omega), Nat.add_mul, Nat.mul_assoc]

set_option maxHeartbeats 1000000 in
theorem mul_any (w : World) {A B : Option Addr} {n c m d x y : Nat} (hx : NA w A n c x) (hy : NA w B m d y) (hn : n ≤ 524288) (hm : m ≤ 524288) :
    Calls Try.prog 26 #[.slice A n c, .slice B m d] w (RetN (x * y) w) := by
  obtain ⟨xs, hx, bx, rfl⟩ := hx
  obtain ⟨ys, hy, by', rfl⟩ := hy
  have HX := Lib.hid hx
  have HY := Lib.hid hy
  have BX := Lib.hid bx
  have BY := Lib.hid by'
  have hmk := fun w => run_mk (n + m) (by omega) w
  rw [show ((n + m : Nat) : Int) = (n : Int) + (m : Int) from rfl] at hmk
  clear hx hy bx by'
  go_enter Try.func26, Try.ntmps26
  go_wp2_with fail
  go_loopw [22] (fun i wr => ∃ (k : Nat) (zs : List Nat), k ≤ n ∧ i = .int .i64 (k : Int) ∧ zs.length = n + m ∧ B64 zs ∧ Bk wr w.heap.size 35 (va .u64 zs) ∧ Below w.heap.size w wr ∧ nv (zs.take (k + m)) = nv (xs.take k) * nv ys) (fun i _ => n - (intOf i).toNat)
  case atStart => exact ⟨0, List.replicate (n + m) 0, by omega, rfl, by simp, B64.replicate _, Bk.new _ _ _, (Below.refl _ _).alloc (Nat.le_refl _) _, by rw [List.take_replicate, nv_replicate]; simp [nv]⟩
  case round =>
    obtain ⟨k, zs, hk, rfl, hzl, bz, bk, hbl, hinv⟩ := hrel
    have HI := Lib.hid hinv
    clear hinv
    obtain ⟨wo, rfl⟩ : ∃ wo : World, wo = wr := ⟨_, rfl⟩
    by_cases hlt : k < n
    · obtain ⟨ad, rfl, hb, hc⟩ := HX.out.form (by omega)
      have hxc := (hbl.cell (p := ad.add k) (adlt hb k)).trans (hc k hlt)
      have BKo := Lib.hid bk
      clear hc bk
      go_wp2_with fail
      go_loopw [8, 29] (fun cv j wr => ∃ (t cy : Nat) (us : List Nat), t ≤ m ∧ cy < 18446744073709551616 ∧ j = .int .i64 (t : Int) ∧ cv = .int .u64 (cy : Int) ∧ us.length = n + m ∧ B64 us ∧ Bk wr w.heap.size 35 (va .u64 us) ∧ Below w.heap.size w wr ∧ MulIn us zs ys (gd xs k) k t cy) (fun _ j _ => m - (intOf j).toNat)
      case atStart => exact ⟨0, 0, zs, by omega, by omega, rfl, rfl, hzl, bz, BKo.out, hbl, MulIn.zero _ _ _ _⟩
      case round =>
        obtain ⟨t, cy, us, ht, hcy, rfl, rfl, hul, bu, bk, hbl', hinv⟩ := hrel
        have HM := Lib.hid hinv
        clear hinv hxc
        by_cases hlt2 : t < m
        · obtain ⟨ad', rfl, hb', hc⟩ := HY.out.form (by omega)
          have hyc := (hbl'.cell (p := ad'.add t) (adlt hb' t)).trans (hc t hlt2)
          have hcell := (bk.cell (k + t)).trans (va_at .u64 (by omega))
          have hfr := bk.frozen (k + t)
          have hgx := BX.out.gd k
          have hgy := BY.out.gd t
          have hgo := bu.gd (k + t)
          obtain ⟨h, eh⟩ : ∃ h, gd xs k * gd ys t / 18446744073709551616 = h := ⟨_, rfl⟩
          obtain ⟨l, el⟩ : ∃ l, gd xs k * gd ys t % 18446744073709551616 = l := ⟨_, rfl⟩
          have hmul := Yteelppebdcgbpaa.bits_Mul64 (gd xs k) (gd ys t) hgx hgy
          rw [eh, el] at hmul
          have hadd1 := run_add l (gd us (k + t)) 0 (by omega)
          obtain ⟨l1, e1⟩ : ∃ l1, (l + gd us (k + t) + 0) % 18446744073709551616 = l1 := ⟨_, rfl⟩
          obtain ⟨c1, e2⟩ : ∃ c1, (l + gd us (k + t) + 0) / 18446744073709551616 = c1 := ⟨_, rfl⟩
          rw [e1, e2] at hadd1
          have hadd2 := run_add l1 cy 0 (by omega)
          obtain ⟨s, e4⟩ : ∃ s, (l1 + cy + 0) % 18446744073709551616 = s := ⟨_, rfl⟩
          obtain ⟨c2, e5⟩ : ∃ c2, (l1 + cy + 0) / 18446744073709551616 = c2 := ⟨_, rfl⟩
          rw [e4, e5] at hadd2
          obtain ⟨hd, hc', hh1, hs', hc1, hc2⟩ := mul_digit hgx hgy hgo hcy eh el e1 e2 rfl e4 e5 rfl
          have HD := Lib.hid hd
          have HMUL := Lib.hid hmul
          have hbk := Lib.hid (bk.set (k + t) (.int .u64 (s : Int)))
          clear hd hmul eh el e1 e2 e4 e5 bk hc hgx hgy hgo
          simp only [Int.natCast_zero] at hadd1 hadd2
          go_wp2_with fail
          refine (HMUL.out _).mono ?_
          rintro e w' ⟨rfl, rfl⟩
          go_wp2_with fail
          refine ⟨⟨t + 1, h + c1 + c2, us.set (k + t) s, by omega, hc', by go_num, by go_num, by simpa using hul, bu.set hs', ?_, ?_, HM.out.next (by omega) HD.out⟩, by simp [intOf]; omega⟩
          · rw [← va_set]; exact hbk.out
          · (repeat (first | (with_reducible exact Below.refl _ _) | (with_reducible assumption) | (with_reducible refine Below.drew ?_) | (with_reducible refine below_drewN ?_ _) | ((with_reducible refine Below.setCell ?_ (p := ⟨_, _, _⟩) ?_ _); rotate_left; (simp <;> omega)) | ((with_reducible refine Below.alloc ?_ ?_ _); rotate_left; (simp <;> omega)) | ((with_reducible refine Below.trans ?_ (Below.mono (by with_reducible assumption) ?_)); rotate_left; (simp <;> omega))))
        · obtain rfl : m = t := by omega
          have hcell := (bk.cell (k + m)).trans (va_at .u64 (by omega))
          have hfr := bk.frozen (k + m)
          have hbk := Lib.hid (bk.set (k + m) (.int .u64 (cy : Int)))
          have HDN := Lib.hid (HM.out.done (by omega) HY.out.len HI.out)
          clear bk
          go_wp2_with fail
          refine ⟨⟨k + 1, us.set (k + m) cy, by omega, by go_num, by simpa using hul, bu.set hcy, ?_, ?_, HDN.out⟩, by simp [intOf]; omega⟩
          · rw [← va_set]; exact hbk.out
          · (repeat (first | (with_reducible exact Below.refl _ _) | (with_reducible assumption) | (with_reducible refine Below.drew ?_) | (with_reducible refine below_drewN ?_ _) | ((with_reducible refine Below.setCell ?_ (p := ⟨_, _, _⟩) ?_ _); rotate_left; (simp <;> omega)) | ((with_reducible refine Below.alloc ?_ ?_ _); rotate_left; (simp <;> omega)) | ((with_reducible refine Below.trans ?_ (Below.mono (by with_reducible assumption) ?_)); rotate_left; (simp <;> omega))))
    · obtain rfl : n = k := by omega
      have hna : NA wo (some ⟨w.heap.size, 0, none⟩) (n + m) (n + m) (nv xs * nv ys) := by
        refine ⟨zs, (Own.of_bk (base := 0) bk (by omega) hzl (by omega)).rd, bz, ?_⟩
        have e := HI.out
        rw [List.take_of_length_le (by omega), List.take_of_length_le (by rw [HX.out.len]; omega)] at e
        exact e
      have HNA := Lib.hid hna
      clear hna bk
      go_wp2_with fail
      refine (trim_any _ HNA.out (by omega)).mono ?_
      rintro e w' h
      have h := h.lift hbl
      obtain ⟨A', c', rfl, ho, hb⟩ := h
      go_wp2_with fail
      go_ret
      exact ⟨A', c', rfl, ho, hb⟩
end Go.Proofs.Yteelppebdcgbpaa
